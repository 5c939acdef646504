/- Several texts of this claim in one file: YthfpoacindblgaaDoorPLawsEntry, YthfpoacindblgaaDoorPLawsTree, YthfpoacindblgaaDoorPSpecL6At, YthfpoacindblgaaDoorPSpecL6Name, YthfpoacindblgaaDoorPSpecL9Hex, YthfpoacindblgaaDoorPSpecL9Under, YthfpoacindblgaaDoorPSpecL9Dir, YthfpoacindblgaaDoorPSpecL9Good, YthfpoacindblgaaDoorPSpecProve. -/
import Derived.Test.YthfpoacindblgaaDoorM2
import Derived.Test.YthfpoacindblgaaDoorM3
import Derived.Test.YthfpoacindblgaaDoorM4
namespace Go.Proofs.YthfpoacindblgaaDoor.P
open Go.RowKit Go.Proofs.YthfpoacindblgaaDoorW.PrintWords Go.Proofs.YthfpoacindblgaaDoorW.PrintLast Go.Proofs.YthfpoacindblgaaDoorW.PrintMore
attribute [local go_sem] max2_int min2_int max_two min_two max_three min_three max_four min_four
set_option linter.unusedVariables false
set_option linter.unusedSimpArgs false

def laws_szEntry.f (a0_0:ByteArray) (a0_1:ByteArray) (a0_2:Bool) (a1:Int):Option (Int):=if (wrap64 (a1 - (a0_0.size:Int)))<0 then (some (-1)) else (if (wrap64 ((wrap64 (a1 - (a0_0.size:Int))) - (a0_1.size:Int)))<0 then (some (-1)) else (some (wrap64 ((wrap64 (a1 - (a0_0.size:Int))) - (a0_1.size:Int)))))
set_option maxHeartbeats 8000000 in
set_option maxRecDepth 100000 in
theorem laws_szEntry.calls (a0_0:ByteArray) (a0_1:ByteArray) (a0_2:Bool) (a1:Int) (r:Int) (w:World) (h:laws_szEntry.f a0_0 a0_1 a0_2 a1=some r) :
  Calls Tryd.prog 31 #[.agg #[.string a0_0,.string a0_1,.bool a0_2],.int .i64 a1] w fun e w'=>e = .returned (.int .i64 r)∧Below w.heap.size w w':=by
 have hu61:=Tryd.underlying61;have HB:=Aside0.mk (Below.refl w.heap.size w);have H:(if (wrap64 (a1 - (a0_0.size:Int)))<0 then (some (-1)) else (if (wrap64 ((wrap64 (a1 - (a0_0.size:Int))) - (a0_1.size:Int)))<0 then (some (-1)) else (some (wrap64 ((wrap64 (a1 - (a0_0.size:Int))) - (a0_1.size:Int))))))=some r:=h;clear h
 by_cases c3:(wrap64 (a1 - (a0_0.size:Int)))<0
 ·rw [if_pos c3] at H
  have a8:decide ((wrap64 (a1 - (a0_0.size:Int)))<0)=true:=decide_eq_true c3;clear c3;obtain rfl:=Option.some.inj H
  go_enter Tryd.func31,Tryd.ntmps31
  go_wp2_with (first|((with_reducible refine gd 2 rfl ?_);refine bx 2 61 (#[.string a0_0,.string a0_1,.bool a0_2]) ?_;intro aX hg w4 hbox hb;refine Ya4 (below_step (be HB.out) hb) (hbox) (bs hg (be HB.out)) (bs hg (be HB.out)) ?_;clear HB;intro HB aC aY aZ;clear hb hbox hg;have ⟨bX,bY,bZ,ca,cc,cd⟩:=Yc3 aC.out))
  go_ret
  exact ⟨Ye2,(bf HB.out)⟩
 ·rw [if_neg c3] at H
  have a8:decide ((wrap64 (a1 - (a0_0.size:Int)))<0)=false:=decide_eq_false c3;clear c3
  by_cases c6:(wrap64 ((wrap64 (a1 - (a0_0.size:Int))) - (a0_1.size:Int)))<0
  ·rw [if_pos c6] at H
   have aE:decide ((wrap64 ((wrap64 (a1 - (a0_0.size:Int))) - (a0_1.size:Int)))<0)=true:=decide_eq_true c6;clear c6;obtain rfl:=Option.some.inj H
   go_enter Tryd.func31,Tryd.ntmps31
   go_wp2_with (first|((with_reducible refine gd 2 rfl ?_);refine bx 2 61 (#[.string a0_0,.string a0_1,.bool a0_2]) ?_;intro aX hg w7 hbox hb;refine Ya4 (below_step (be HB.out) hb) (hbox) (bs hg (be HB.out)) (bs hg (be HB.out)) ?_;clear HB;intro HB aC aY aZ;clear hb hbox hg;have ⟨ce,cf,cg,ch,ci,cj⟩:=Yc3 aC.out))
   go_ret
   exact ⟨Ye2,(bf HB.out)⟩
  ·rw [if_neg c6] at H
   have aE:decide ((wrap64 ((wrap64 (a1 - (a0_0.size:Int))) - (a0_1.size:Int)))<0)=false:=decide_eq_false c6;clear c6;obtain rfl:=Option.some.inj H
   go_enter Tryd.func31,Tryd.ntmps31
   go_wp2_with (first|((with_reducible refine gd 2 rfl ?_);refine bx 2 61 (#[.string a0_0,.string a0_1,.bool a0_2]) ?_;intro aX hg w9 hbox hb;refine Ya4 (below_step (be HB.out) hb) (hbox) (bs hg (be HB.out)) (bs hg (be HB.out)) ?_;clear HB;intro HB aC aY aZ;clear hb hbox hg;have ⟨b0,b1,b2,b3,b4,b5⟩:=Yc3 aC.out))
   go_ret
   exact ⟨Ye2,(bf HB.out)⟩

def laws_szEntryS.l0:Nat→List (S61)→Int→Int→Option (Int)
 | 0,_,_,_=>none
 | k+1,x0,x1,x5=>if x5<(x0.length:Int) then (if 0≤x5 then ((laws_szEntry.f ((rd_T61 x0 x5).f0) ((rd_T61 x0 x5).f1) ((rd_T61 x0 x5).f2) x1).bind fun ad=>(if ad<0 then (some (-1)) else (laws_szEntryS.l0 k x0 ad (wrap64 (x5+1))))) else (none)) else (some x1)
def laws_szEntryS.f (k:Nat) (l0:List (S61)) (a1:Int):Option (Int):=if (wrap64 (a1 - (l0.length:Int)))<0 then (some (-1)) else (laws_szEntryS.l0 k l0 (wrap64 (a1 - (l0.length:Int))) 0)
theorem laws_szEntryS.mono_l:∀ k,(∀ y0 y1 y2,LeO (laws_szEntryS.l0 k y0 y1 y2) (laws_szEntryS.l0 (k+1) y0 y1 y2))
 | 0=>fun _ _ _ r h=>by simp [laws_szEntryS.l0] at h
 | k + 1 => by
  have ih0:=laws_szEntryS.mono_l k
  ·intro y0 y1 y2
   unfold laws_szEntryS.l0
   exact mo1 ih0
theorem laws_szEntryS.mono:∀ a0 a1 k,LeO (laws_szEntryS.f k a0 a1) (laws_szEntryS.f (k+1) a0 a1):=by
 intro a0 a1 k;have ih0:=laws_szEntryS.mono_l k
 unfold laws_szEntryS.f
 exact mo1 ih0
set_option maxHeartbeats 8000000 in
set_option maxRecDepth 100000 in
theorem laws_szEntryS.calls (k:Nat) (A0:Option Addr) (c0:Nat) (l0:List (S61)) (a1:Int) (r:Int) (w:World) (hr0:Kd.C k61 w A0 l0.length l0) (hc0:l0.length≤c0) (h:laws_szEntryS.f k l0 a1=some r) :
  Calls Tryd.prog 13 #[.slice A0 l0.length c0,.int .i64 a1] w fun e w'=>e = .returned (.int .i64 r)∧Below w.heap.size w w':=by
 have hu61:=Tryd.underlying61;have ak:=Aside0.mk hr0;have HC0:=Aside0.mk hc0;clear hr0 hc0;have HB:=Aside0.mk (Below.refl w.heap.size w);have H:(if (wrap64 (a1 - (l0.length:Int)))<0 then (some (-1)) else (laws_szEntryS.l0 k l0 (wrap64 (a1 - (l0.length:Int))) 0))=some r:=h;clear h
 by_cases c3:(wrap64 (a1 - (l0.length:Int)))<0
 ·rw [if_pos c3] at H
  have a8:decide ((wrap64 (a1 - (l0.length:Int)))<0)=true:=decide_eq_true c3;clear c3;obtain rfl:=Option.some.inj H
  go_enter Tryd.func13,Tryd.ntmps13
  go_wp2
  go_ret
  exact ⟨Ye2,be HB.out⟩
 ·rw [if_neg c3] at H
  have a8:decide ((wrap64 (a1 - (l0.length:Int)))<0)=false:=decide_eq_false c3;clear c3;have H':=Aside0.mk H;clear H
  go_enter Tryd.func13,Tryd.ntmps13
  go_wp2
  go_loopg [1,5] k (fun kq v1 v5 w' => ∃ (al:Int) (a2:Int),v1 = .int .i64 al∧v5 = .int .i64 a2∧Aside0 (laws_szEntryS.l0 kq l0 al a2=some r)∧Aside0 (kq≤k)∧Aside0 (Below w.heap.size w w'))
  case atStart=>exact ⟨(wrap64 (a1 - (l0.length:Int))),(0),Ye1,Ye1,H',⟨Nat.le_refl _⟩,⟨be HB.out⟩⟩
  case round =>
   clear H';(try clear c1);(try clear p2);(try clear c3);(try clear a8);obtain ⟨al,a2,rfl,rfl,HA,HK1,HB⟩:=hrel
   cases gk with
   | zero=>exact absurd HA.out (by simp [laws_szEntryS.l0])
   | succ k1 =>
    have H:=HA.out;clear HA;simp only [laws_szEntryS.l0] at H
    by_cases c4:a2<(l0.length:Int)
    ·rw [if_pos c4] at H
     have aD:decide (a2<(l0.length:Int))=true:=decide_eq_true c4;clear c4
     by_cases c5:0≤a2
     ·rw [if_pos c5] at H
      have aH:decide (0≤a2)=true:=decide_eq_true c5;clear c5;replace H:=Option.bind_eq_some_iff.mp H;obtain ⟨ad,A60,H⟩:=H;(try dsimp only at H);have A6:=Aside0.mk A60;clear A60
      by_cases c7:ad<0
      ·rw [if_pos c7] at H
       have b6:decide (ad<0)=true:=decide_eq_true c7;clear c7;obtain rfl:=Option.some.inj H;have am:0≤(a2:Int):=oda;have an:a2<(l0.length:Int):=oda;obtain ⟨bi,aI,bj,bm,bn⟩:=at_T61 (Kd.C_below ak.out HB.out) a2 am an
       cases aI
       replace am:=eq_true am;replace an:=eq_true an
       go_wp2_with (first|((with_reducible refine gc 31 rfl ?_);refine gl (some 23) _ (#[.agg #[.string ((rd_T61 l0 a2).f0),.string ((rd_T61 l0 a2).f1),.bool ((rd_T61 l0 a2).f2)],.int .i64 al]) Tryd.func31 ?_;(with_reducible refine (laws_szEntry.calls ((rd_T61 l0 a2).f0) ((rd_T61 l0 a2).f1) ((rd_T61 l0 a2).f2) al ad _ A6.out).mono ?_);rintro e w8 ⟨rfl,hb⟩;refine ⟨_,rfl,?_⟩;refine Ya1 (below_step (be HB.out) hb) ?_;clear HB;intro HB;(try clear hb);(try clear hb2);(try clear hk);(try clear hi)))
       go_ret
       exact ⟨Ye2,be HB.out⟩
      ·rw [if_neg c7] at H
       have b6:decide (ad<0)=false:=decide_eq_false c7;clear c7;have H':=Aside0.mk H;clear H;have am:0≤(a2:Int):=oda;have an:a2<(l0.length:Int):=oda;obtain ⟨bi,aI,bj,bm,bn⟩:=at_T61 (Kd.C_below ak.out HB.out) a2 am an
       cases aI
       replace am:=eq_true am;replace an:=eq_true an
       go_wp2_with (first|((with_reducible refine gc 31 rfl ?_);refine gl (some 23) _ (#[.agg #[.string ((rd_T61 l0 a2).f0),.string ((rd_T61 l0 a2).f1),.bool ((rd_T61 l0 a2).f2)],.int .i64 al]) Tryd.func31 ?_;(with_reducible refine (laws_szEntry.calls ((rd_T61 l0 a2).f0) ((rd_T61 l0 a2).f1) ((rd_T61 l0 a2).f2) al ad _ A6.out).mono ?_);rintro e w9 ⟨rfl,hb⟩;refine ⟨_,rfl,?_⟩;refine Ya1 (below_step (be HB.out) hb) ?_;clear HB;intro HB;(try clear hb);(try clear hb2);(try clear hk);(try clear hi)))
       go_roundg k1
       case measure=>have:=HK1.out;omega
       case rel=>exact ⟨(ad),(wrap64 (a2+1)),Ye1,Ye1,H',⟨by have:=HK1.out;omega⟩,⟨be HB.out⟩⟩
     ·rw [if_neg c5] at H
      exact absurd H (by simp)
    ·rw [if_neg c4] at H
     have aD:decide (a2<(l0.length:Int))=false:=decide_eq_false c4;clear c4;obtain rfl:=Option.some.inj H
     go_wp2
     go_ret
     exact ⟨Ye2,be HB.out⟩

def laws_toEntry.f (a0_0:ByteArray) (a0_1:ByteArray) (a0_2:Bool):Option (ByteArray×ByteArray×Bool):=some (a0_0,a0_1,a0_2)
set_option maxHeartbeats 8000000 in
set_option maxRecDepth 100000 in
theorem laws_toEntry.calls (a0_0:ByteArray) (a0_1:ByteArray) (a0_2:Bool) (r1:ByteArray) (r2:ByteArray) (r3:Bool) (w:World) (h:laws_toEntry.f a0_0 a0_1 a0_2=some (r1,r2,r3)) :
  Calls Tryd.prog 39 #[.agg #[.string a0_0,.string a0_1,.bool a0_2]] w fun e w'=>e = .returned (.agg #[.string r1,.string r2,.bool r3])∧Below w.heap.size w w':=by
 have hu61:=Tryd.underlying61;have hu55:=Tryd.underlying55;have HB:=Aside0.mk (Below.refl w.heap.size w);have H:(some (a0_0,a0_1,a0_2))=some (r1,r2,r3):=h;clear h;simp only [Option.some.injEq,Prod.mk.injEq] at H;obtain ⟨rfl,rfl,rfl⟩:=H
 go_enter Tryd.func39,Tryd.ntmps39
 go_wp2_with (first|((with_reducible refine gd 1 rfl ?_);refine bx 1 61 (#[.string a0_0,.string a0_1,.bool a0_2]) ?_;intro gb253 hg w2 hbox hb;refine Ya4 (below_step (be HB.out) hb) (hbox) (bs hg (be HB.out)) (bs hg (be HB.out)) ?_;clear HB;intro HB a9 GW253 GE253;clear hb hbox hg)|((with_reducible refine gd 2 rfl ?_);refine bx 2 55 (#[.string (⟨#[]⟩:ByteArray),.string (⟨#[]⟩:ByteArray),.bool false]) ?_;intro bo hg w3 hbox hb;refine Ya7 (bb a9 hb) (below_step (bf HB.out) hb) (hbox) (bs hg (bf HB.out)) (bs hg (bf HB.out)) (bl hg a9) (br hg a9) ?_;clear a9 HB;intro a9 HB ao GW254 GE254 bq bu;clear hb hbox hg)|((with_reducible refine gd 3 rfl ?_);refine bx 3 55 (#[.string (⟨#[]⟩:ByteArray),.string (⟨#[]⟩:ByteArray),.bool false]) ?_;intro gb255 hg w4 hbox hb;refine Ya10 (bb a9 hb) (bb ao hb) (below_step (bf HB.out) hb) (hbox) (bs hg (bf HB.out)) (bs hg (bf HB.out)) (bl hg a9) (br hg a9) (bl hg ao) (br hg ao) ?_;clear a9 ao HB;intro a9 ao HB bv GW255 GE255 bw bz bA bB;clear hb hbox hg;have hnb5:=bq.out;have hnc5:=bu.out;have hnb6:=bw.out;have hnc6:=bz.out;have ⟨ck,cl,cm,cn,co,cp⟩:=Yc3 a9.out;have bC:=bB.out;have bD:=bA.out;have ⟨bE,bF,bG,bH,bI,bJ⟩:=Yc3 bv.out;have ⟨b0,b1,b2,b3,b4,b5⟩:=Yc3 ao.out))
 refine bodyPost_ret (results_cell_row rfl _ _ bo 55 #[.string a0_0,.string a0_1,.bool a0_2] (0,0) _ rfl (bp ao.out) Tryd.underlying55 rfl (by kernel_rfl)) rfl ?_;exact ⟨Ye2,(bf HB.out)⟩

def laws_toEntryS.l0:Nat→List (S61)→List (S55)→Int→Option ((List (S55)))
 | 0,_,_,_=>none
 | k+1,x0,x3,x4=>if x4<(x0.length:Int) then (if 0≤x4 then ((laws_toEntry.f ((rd_T61 x0 x4).f0) ((rd_T61 x0 x4).f1) ((rd_T61 x0 x4).f2)).bind fun bt260=>(if x4<(x3.length:Int) then (laws_toEntryS.l0 k x0 (x3.set (x4:Int).toNat (⟨bt260.1,bt260.2.1,bt260.2.2⟩:S55)) (wrap64 (x4+1))) else (none))) else (none)) else (some x3)
def laws_toEntryS.f (k:Nat) (l0:List (S61)):Option ((List (S55))):=if 0≤(l0.length:Int) then (if ((l0.length:Int):Int).toNat≤7036874417766 then (laws_toEntryS.l0 k l0 (List.replicate ((l0.length:Int):Int).toNat z55) 0) else (none)) else (none)
theorem laws_toEntryS.mono_l:∀ k,(∀ y0 y1 y2,LeO (laws_toEntryS.l0 k y0 y1 y2) (laws_toEntryS.l0 (k+1) y0 y1 y2))
 | 0=>fun _ _ _ r h=>by simp [laws_toEntryS.l0] at h
 | k + 1 => by
  have ih0:=laws_toEntryS.mono_l k
  ·intro y0 y1 y2
   unfold laws_toEntryS.l0
   exact mo1 ih0
theorem laws_toEntryS.mono:∀ a0 k,LeO (laws_toEntryS.f k a0) (laws_toEntryS.f (k+1) a0):=by
 intro a0 k;have ih0:=laws_toEntryS.mono_l k
 unfold laws_toEntryS.f
 exact mo1 ih0
set_option maxHeartbeats 8000000 in
set_option maxRecDepth 100000 in
theorem laws_toEntryS.calls (k : Nat) (A0 : Option Addr) (c0 : Nat) (l0 : List (S61)) (r : List (S55)) (w : World) (hr0 : Kd.C k61 w A0 l0.length l0) (hc0 : l0.length ≤ c0) (h : laws_toEntryS.f k l0 = some r) :
  Calls Tryd.prog 20 #[.slice A0 l0.length c0] w fun e w' => ∃ v0_:Value,e = .returned (v0_)∧Kd.R k55 55 w' w.heap.size (fun _=>True) v0_ r∧Below w.heap.size w w':=by
 have hu61:=Tryd.underlying61;have hu55:=Tryd.underlying55;have ak:=Aside0.mk hr0;have HC0:=Aside0.mk hc0;clear hr0 hc0;have HB:=Aside0.mk (Below.refl w.heap.size w);have H:(if 0≤(l0.length:Int) then (if ((l0.length:Int):Int).toNat≤7036874417766 then (laws_toEntryS.l0 k l0 (List.replicate ((l0.length:Int):Int).toNat z55) 0) else (none)) else (none))=some r:=h;clear h
 by_cases c2:0≤(l0.length:Int)
 ·rw [if_pos c2] at H
  have bK:=eq_true c2;have bL:decide (0≤(l0.length:Int))=true:=decide_eq_true c2;clear c2
  by_cases c3:((l0.length:Int):Int).toNat≤7036874417766
  ·rw [if_pos c3] at H
   have a8:=eq_true c3;have aB:decide (((l0.length:Int):Int).toNat≤7036874417766)=true:=decide_eq_true c3;clear c3
   obtain ⟨bM,aF⟩:∃ y_:List (S55),y_=(List.replicate ((l0.length:Int):Int).toNat z55):=⟨_,rfl⟩
   (first|replace H:=bl_ aF H|rw [←aF] at H);(try dsimp only at H);have b7:=Aside0.mk aF;clear aF;have H':=Aside0.mk H;clear H
   go_enter Tryd.func20,Tryd.ntmps20
   go_wp2_with (first|((with_reducible refine gd 7 rfl ?_);refine Kd.R_make k55 _ 55 rfl (N:=7) rfl 30 _ _ rfl (l0.length:Int) rfl rfl Tryd.underlying30 (.agg #[(.string ⟨#[]⟩),(.string ⟨#[]⟩),(.bool false)]) 40 info55 rfl (by decide) (by omega) z55 (ok:=fun _=>True) (okp:=fun _=>True) (k55_mkM _ _ _ z55 ) (fun _ hk=>hk) trivial (oda) (Nat.le_trans (Nat.mul_le_mul_right _ (oda:(l0.length:Int).toNat≤7036874417766)) (by omega)) (Below.refl _ _) (Nat.le_refl _) ?_;intro bN w4 ho5 hb hg_ hnew_;clear hg_ hnew_;(first|rw [←b7.out] at ho5|(simp only [Int.reduceToNat] at ho5;rw [←b7.out] at ho5));refine Ya2 (Kd.R_lower ho5 (below_size (be HB.out))) (below_step (be HB.out) hb) ?_;clear HB;intro bO HB;clear hb ho5))
   go_loopg [4] k (fun kq v4 w' => ∃ (a5:List (S55)) (a3:Int),v4 = .int .i64 a3∧Aside0 (laws_toEntryS.l0 kq l0 a5 a3=some r)∧Aside0 (kq≤k)∧Aside0 (Kd.R k55 55 w' w.heap.size (fun _=>True) bN a5)∧Aside0 (Below w.heap.size w w'))
   case atStart=>exact ⟨(bM),(0),Ye1,H',⟨Nat.le_refl _⟩,⟨kr bO.out⟩,⟨be HB.out⟩⟩
   case round =>
    clear H';(try clear c2);(try clear bK);(try clear bL);(try clear p2);(try clear c3);(try clear a8);(try clear aB);obtain ⟨a5,a3,rfl,HA,HK1,a6,HB⟩:=hrel
    cases gk with
    | zero=>exact absurd HA.out (by simp [laws_toEntryS.l0])
    | succ k1 =>
     have H:=HA.out;clear HA;simp only [laws_toEntryS.l0] at H
     by_cases c6:a3<(l0.length:Int)
     ·rw [if_pos c6] at H
      have aE:decide (a3<(l0.length:Int))=true:=decide_eq_true c6;clear c6
      by_cases c7:0≤a3
      ·rw [if_pos c7] at H
       have b6:decide (0≤a3)=true:=decide_eq_true c7;clear c7;replace H:=Option.bind_eq_some_iff.mp H;obtain ⟨⟨ap,aq,ar⟩,A80,H⟩:=H;replace H:(if a3<(a5.length:Int) then (laws_toEntryS.l0 k1 l0 (a5.set (a3:Int).toNat (⟨ap,aq,ar⟩:S55)) (wrap64 (a3+1))) else (none))=some r:=H;have A8:=Aside0.mk A80;clear A80
       by_cases c9:a3<(a5.length:Int)
       ·rw [if_pos c9] at H
        have c9b0:decide (a3<(a5.length:Int))=true:=decide_eq_true c9;clear c9
        obtain ⟨b8,aG⟩:∃ y_:List (S55),y_=(a5.set (a3:Int).toNat (⟨ap,aq,ar⟩:S55)):=⟨_,rfl⟩
        (first|replace H:=bl_ aG H|rw [←aG] at H);(try dsimp only at H);have bP:=Aside0.mk aG;clear aG;have H':=Aside0.mk H;clear H;have aJ:0≤(a3:Int):=oda;have aK:a3<(l0.length:Int):=oda;obtain ⟨ad259,bQ,cq,cr,cs⟩:=at_T61 (Kd.C_below ak.out HB.out) a3 aJ aK
        cases bQ
        replace aJ:=eq_true aJ;replace aK:=eq_true aK
        go_wp2_with (first|((with_reducible refine gc 39 rfl ?_);refine gl (some 20) _ (#[.agg #[.string ((rd_T61 l0 a3).f0),.string ((rd_T61 l0 a3).f1),.bool ((rd_T61 l0 a3).f2)]]) Tryd.func39 ?_;(with_reducible refine (laws_toEntry.calls ((rd_T61 l0 a3).f0) ((rd_T61 l0 a3).f1) ((rd_T61 l0 a3).f2) ap aq ar _ A8.out).mono ?_);rintro e aa ⟨rfl,hb⟩;refine ⟨_,rfl,?_⟩;refine Ya2 (Kd.R_below (kr a6.out) hb) (below_step (be HB.out) hb) ?_;clear a6 HB;intro a6 HB;(try clear hb);(try clear hb2);(try clear hk);(try clear hi);have p10:0≤(a3:Int):=oda;have q10:(a3:Int)<((a5.length:Int):Int):=oda;obtain ⟨a7,b9,ba,bd,gl10,cl10,HG10⟩:=Kd.R_form a6.out (by omega);(first|cases ba|(injection ba with ea_ en_ ec_;(first|subst ea_|(injection ea_ with ea_;subst ea_));subst ec_;clear en_));have aL:=Aside0.mk bd;have GG10:=Aside0.mk HG10;clear bd gl10 HG10;obtain ⟨ce10,hcl10,hM10,hcc10,hfr10⟩:=Kd.R_elem a6.out z55 (a3:Int) p10 q10;obtain rfl:=k55_openM hM10;have ct:aa.cell? ⟨a7,(a3:Int).toNat*3,none⟩=some (.string ((rd_T55 a5 a3).f0)):=hcc10 0 _ rfl;have cu:aa.cell? ⟨a7,(a3:Int).toNat*3+1,none⟩=some (.string ((rd_T55 a5 a3).f1)):=hcc10 1 _ rfl;have cv:aa.cell? ⟨a7,(a3:Int).toNat*3+2,none⟩=some (.bool ((rd_T55 a5 a3).f2)):=hcc10 2 _ rfl;have hf10_0:aa.frozen? ⟨a7,(a3:Int).toNat*3,none⟩=false:=hfr10 0;have hf10_1:aa.frozen? ⟨a7,(a3:Int).toNat*3+1,none⟩=false:=hfr10 1;have hf10_2:aa.frozen? ⟨a7,(a3:Int).toNat*3+2,none⟩=false:=hfr10 2;(try clear hM10);clear hcl10 hcc10 hfr10;replace p10:=eq_true p10;replace q10:=eq_true q10;have bg:=Aside0.mk (show Kd.R k55 55 aa w.heap.size (fun _=>True) (.slice (some ⟨a7,0,none⟩) a5.length b9) a5 from (kr a6.out));obtain ⟨ce12,hcl12,hM12,hcc12,hfr12⟩:=Kd.R_elem bg.out z55 (a3:Int) (oda) (by have h_:(a3:Int)<((a5.length:Int):Int):=oda;first|exact h_|(have e_:=(Kd.R_reads' a6.out).1;omega)|simpa using h_);obtain rfl:=k55_openM hM12;have aM:=Kd.R_seg bg.out (a3:Int) (oda) (by have h_:(a3:Int)<((a5.length:Int):Int):=oda;first|exact h_|(have e_:=(Kd.R_reads' a6.out).1;omega)|simpa using h_) (seg:=[.string ap,.string aq,.bool ar]) (j:=0) hcl12 hcc12 (show 3≤3 from by decide) (x':=(⟨ap,aq,ar⟩:S55)) (k55_mkM _ _ _ (⟨ap,aq,ar⟩:S55) ) (fun _ hk=>hk);have bR:=hcc12 0 _ rfl;(try simp only [show (k55).sz=3 from rfl,Nat.mul_one,Nat.add_zero] at bR);have hf12_0:=hfr12 0;(try simp only [show (k55).sz=3 from rfl,Nat.mul_one,Nat.add_zero] at hf12_0);have bS:=hcc12 1 _ rfl;(try simp only [show (k55).sz=3 from rfl,Nat.mul_one,Nat.add_zero] at bS);have hf12_1:=hfr12 1;(try simp only [show (k55).sz=3 from rfl,Nat.mul_one,Nat.add_zero] at hf12_1);have bT:=hcc12 2 _ rfl;(try simp only [show (k55).sz=3 from rfl,Nat.mul_one,Nat.add_zero] at bT);have hf12_2:=hfr12 2;(try simp only [show (k55).sz=3 from rfl,Nat.mul_one,Nat.add_zero] at hf12_2);(try clear hM12);clear hcl12 hcc12 hfr12)|((with_reducible refine gate_store (t:=55) (p:=21) rfl ?_);refine store_event (t:=55) (p:=21) (v:=?vo_w13) (w1:=(((aa.setCell ⟨a7,(a3:Int).toNat*3,none⟩ (.string ap)).setCell ⟨a7,(a3:Int).toNat*3+1,none⟩ (.string aq)).setCell ⟨a7,(a3:Int).toNat*3+2,none⟩ (.bool ar))) ?hg ?ho ?hn ?hr ?_;(case ho=>rfl);(case hg=>rfl);(case hn=>rfl);(case hr=>first|(go_simp;done)|(go_simp;rfl));intro aN hw;have hg:aa.grownBy aN (some a7):=(by rw [hw];exact aM.2);have hp_:Kd.R k55 55 aN w.heap.size (fun _=>True) (.slice (some ⟨a7,0,none⟩) a5.length b9) b8:=(by rw [hw,bP.out];exact aM.1);clear aM;refine Ya2 (hp_) ((by rw [hw];exact below_set (below_set (below_set (HB.out) aL.out) aL.out) aL.out:Below w.heap.size w aN)) ?_;clear a6 HB;intro a6 HB;clear hg hw hp_))
        go_roundg k1
        case measure=>have:=HK1.out;omega
        case rel=>exact ⟨(b8),(wrap64 (a3+1)),Ye1,H',⟨by have:=HK1.out;omega⟩,⟨kr a6.out⟩,⟨be HB.out⟩⟩
       ·rw [if_neg c9] at H
        exact absurd H (by simp)
      ·rw [if_neg c7] at H
       exact absurd H (by simp)
     ·rw [if_neg c6] at H
      have aE:decide (a3<(l0.length:Int))=false:=decide_eq_false c6;clear c6;obtain rfl:=Option.some.inj H
      go_wp2
      go_ret
      exact ⟨_,Ye2,kr a6.out,be HB.out⟩
  ·rw [if_neg c3] at H
   exact absurd H (by simp)
 ·rw [if_neg c2] at H
  exact absurd H (by simp)

def laws_eqEntry.f (a0_0:ByteArray) (a0_1:ByteArray) (a0_2:Bool) (a1_0:ByteArray) (a1_1:ByteArray) (a1_2:Bool):Option (Bool):=if a0_0.toList=a1_0.toList then (if a0_1.toList=a1_1.toList then (if (a0_2 != a1_2)=true then (some false) else (some true)) else (some false)) else (some false)
set_option maxHeartbeats 8000000 in
set_option maxRecDepth 100000 in
theorem laws_eqEntry.calls (a0_0:ByteArray) (a0_1:ByteArray) (a0_2:Bool) (a1_0:ByteArray) (a1_1:ByteArray) (a1_2:Bool) (r:Bool) (w:World) (h:laws_eqEntry.f a0_0 a0_1 a0_2 a1_0 a1_1 a1_2=some r) :
  Calls Tryd.prog 50 #[.agg #[.string a0_0,.string a0_1,.bool a0_2],.agg #[.string a1_0,.string a1_1,.bool a1_2]] w fun e w'=>e = .returned (.bool r)∧Below w.heap.size w w':=by
 have hu55:=Tryd.underlying55;have HB:=Aside0.mk (Below.refl w.heap.size w);have H:(if a0_0.toList=a1_0.toList then (if a0_1.toList=a1_1.toList then (if (a0_2 != a1_2)=true then (some false) else (some true)) else (some false)) else (some false))=some r:=h;clear h
 by_cases c3:a0_0.toList=a1_0.toList
 ·rw [if_pos c3] at H
  have a8:(a0_0.toList==a1_0.toList)=true:=beq_iff_eq.mpr c3;have aB:(a0_0.toList != a1_0.toList)=false:=bne_eq_false_iff_eq.mpr c3;clear c3
  by_cases c4:a0_1.toList=a1_1.toList
  ·rw [if_pos c4] at H
   have aD:(a0_1.toList==a1_1.toList)=true:=beq_iff_eq.mpr c4;have bU:(a0_1.toList != a1_1.toList)=false:=bne_eq_false_iff_eq.mpr c4;clear c4
   by_cases c5:(a0_2 != a1_2)=true
   ·rw [if_pos c5] at H
    have aH:(a0_2 != a1_2)=true:=c5;(try (have bV:decide (a0_2=a1_2)=false:=by simpa using c5));(try (have bW:(a0_2==a1_2)=false:=by simpa using c5));(try (have c5b3:¬ (a0_2=a1_2):=by simpa using c5));clear c5;obtain rfl:=Option.some.inj H
    go_enter Tryd.func50,Tryd.ntmps50
    go_wp2_with (first|((with_reducible refine gd 2 rfl ?_);refine bx 2 55 (#[.string a0_0,.string a0_1,.bool a0_2]) ?_;intro aO hg w6 hbox hb;refine Ya4 (below_step (be HB.out) hb) (hbox) (bs hg (be HB.out)) (bs hg (be HB.out)) ?_;clear HB;intro HB a4 aP aQ;clear hb hbox hg)|((with_reducible refine gd 3 rfl ?_);refine bx 3 55 (#[.string a1_0,.string a1_1,.bool a1_2]) ?_;intro aR hg w7 hbox hb;refine Ya7 (bb a4 hb) (below_step (bf HB.out) hb) (hbox) (bs hg (bf HB.out)) (bs hg (bf HB.out)) (bl hg a4) (br hg a4) ?_;clear a4 HB;intro a4 HB au aS aT av aw;clear hb hbox hg;have bC:=av.out;have bD:=aw.out;have ⟨bE,bF,bG,bH,bI,bJ⟩:=Yc3 a4.out;have ⟨b0,b1,b2,b3,b4,b5⟩:=Yc3 au.out))
    go_ret
    exact ⟨Ye2,(bf HB.out)⟩
   ·rw [if_neg c5] at H
    have aH:(a0_2 != a1_2)=false:=by simpa using c5
    (try (have bV:decide (a0_2=a1_2)=true:=by simpa using c5));(try (have bW:(a0_2==a1_2)=true:=by simpa using c5));clear c5;obtain rfl:=Option.some.inj H
    go_enter Tryd.func50,Tryd.ntmps50
    go_wp2_with (first|((with_reducible refine gd 2 rfl ?_);refine bx 2 55 (#[.string a0_0,.string a0_1,.bool a0_2]) ?_;intro aO hg aa hbox hb;refine Ya4 (below_step (be HB.out) hb) (hbox) (bs hg (be HB.out)) (bs hg (be HB.out)) ?_;clear HB;intro HB a4 aP aQ;clear hb hbox hg)|((with_reducible refine gd 3 rfl ?_);refine bx 3 55 (#[.string a1_0,.string a1_1,.bool a1_2]) ?_;intro aR hg w12 hbox hb;refine Ya7 (bb a4 hb) (below_step (bf HB.out) hb) (hbox) (bs hg (bf HB.out)) (bs hg (bf HB.out)) (bl hg a4) (br hg a4) ?_;clear a4 HB;intro a4 HB au aS aT av aw;clear hb hbox hg;have hnb13:=av.out;have hnc13:=aw.out;have ⟨cw,cx,cy,cz,cA,cB⟩:=Yc3 a4.out;have ⟨cC,cD,cE,cF,cG,cH⟩:=Yc3 au.out))
    go_ret
    exact ⟨Ye2,(bf HB.out)⟩
  ·rw [if_neg c4] at H
   have aD:(a0_1.toList==a1_1.toList)=false:=beq_eq_false_iff_ne.mpr c4;have bU:(a0_1.toList != a1_1.toList)=true:=bne_iff_ne.mpr c4;obtain rfl:=Option.some.inj H
   go_enter Tryd.func50,Tryd.ntmps50
   go_wp2_with (first|((with_reducible refine gd 2 rfl ?_);refine bx 2 55 (#[.string a0_0,.string a0_1,.bool a0_2]) ?_;intro aO hg w16 hbox hb;refine Ya4 (below_step (be HB.out) hb) (hbox) (bs hg (be HB.out)) (bs hg (be HB.out)) ?_;clear HB;intro HB a4 aP aQ;clear hb hbox hg)|((with_reducible refine gd 3 rfl ?_);refine bx 3 55 (#[.string a1_0,.string a1_1,.bool a1_2]) ?_;intro aR hg w17 hbox hb;refine Ya7 (bb a4 hb) (below_step (bf HB.out) hb) (hbox) (bs hg (bf HB.out)) (bs hg (bf HB.out)) (bl hg a4) (br hg a4) ?_;clear a4 HB;intro a4 HB au aS aT av aw;clear hb hbox hg;have hnb18:=av.out;have hnc18:=aw.out;have ⟨cI,cJ,cK,cL,cM,cN⟩:=Yc3 a4.out;have ⟨cO,cP,cQ,cR,cS,cT⟩:=Yc3 au.out))
   go_ret
   exact ⟨Ye2,(bf HB.out)⟩
 ·rw [if_neg c3] at H
  have a8:(a0_0.toList==a1_0.toList)=false:=beq_eq_false_iff_ne.mpr c3;have aB:(a0_0.toList != a1_0.toList)=true:=bne_iff_ne.mpr c3;obtain rfl:=Option.some.inj H
  go_enter Tryd.func50,Tryd.ntmps50
  go_wp2_with (first|((with_reducible refine gd 2 rfl ?_);refine bx 2 55 (#[.string a0_0,.string a0_1,.bool a0_2]) ?_;intro aO hg w21 hbox hb;refine Ya4 (below_step (be HB.out) hb) (hbox) (bs hg (be HB.out)) (bs hg (be HB.out)) ?_;clear HB;intro HB a4 aP aQ;clear hb hbox hg)|((with_reducible refine gd 3 rfl ?_);refine bx 3 55 (#[.string a1_0,.string a1_1,.bool a1_2]) ?_;intro aR hg w22 hbox hb;refine Ya7 (bb a4 hb) (below_step (bf HB.out) hb) (hbox) (bs hg (bf HB.out)) (bs hg (bf HB.out)) (bl hg a4) (br hg a4) ?_;clear a4 HB;intro a4 HB au aS aT av aw;clear hb hbox hg;have hnb23:=av.out;have hnc23:=aw.out;have ⟨cU,cV,cW,cX,cY,cZ⟩:=Yc3 a4.out;have ⟨d0,d1,d2,d3,d4,d5⟩:=Yc3 au.out))
  go_ret
  exact ⟨Ye2,(bf HB.out)⟩

def laws_eqEntryS.l0:Nat→List (S55)→List (S55)→Int→Option (Bool)
 | 0,_,_,_=>none
 | k+1,x0,x1,x5=>if x5<(x0.length:Int) then (if 0≤x5 then (if x5<(x1.length:Int) then ((laws_eqEntry.f ((rd_T55 x0 x5).f0) ((rd_T55 x0 x5).f1) ((rd_T55 x0 x5).f2) ((rd_T55 x1 x5).f0) ((rd_T55 x1 x5).f1) ((rd_T55 x1 x5).f2)).bind fun aU=>(if aU=true then (laws_eqEntryS.l0 k x0 x1 (wrap64 (x5+1))) else (some false))) else (none)) else (none)) else (some true)
def laws_eqEntryS.f (k:Nat) (l0:List (S55)) (l1:List (S55)):Option (Bool):=if (l0.length:Int)=(l1.length:Int) then (laws_eqEntryS.l0 k l0 l1 0) else (some false)
theorem laws_eqEntryS.mono_l:∀ k,(∀ y0 y1 y2,LeO (laws_eqEntryS.l0 k y0 y1 y2) (laws_eqEntryS.l0 (k+1) y0 y1 y2))
 | 0=>fun _ _ _ r h=>by simp [laws_eqEntryS.l0] at h
 | k + 1 => by
  have ih0:=laws_eqEntryS.mono_l k
  ·intro y0 y1 y2
   unfold laws_eqEntryS.l0
   exact mo1 ih0
theorem laws_eqEntryS.mono:∀ a0 a1 k,LeO (laws_eqEntryS.f k a0 a1) (laws_eqEntryS.f (k+1) a0 a1):=by
 intro a0 a1 k;have ih0:=laws_eqEntryS.mono_l k
 unfold laws_eqEntryS.f
 exact mo1 ih0
def laws_eqEntryS.T6:Bool×List (List Nat×List Nat):=(true,[([],[]),([],[]),([0,1],[0,1]),([2],[2]),([],[]),([],[]),([4,5],[4,5]),([6],[6]),([3,7],[3,7]),([8],[8])])
def laws_eqEntryS.B6:List Nat:=[0,0,3,7,0,0,48,112,255,511]
theorem laws_eqEntryS.tab6:rtab .any (opsOf Tryd.f27 6)=laws_eqEntryS.T6:=by kernel_rfl
theorem laws_eqEntryS.bits6:waitsOk laws_eqEntryS.T6.2 laws_eqEntryS.B6=true:=by kernel_rfl
set_option maxHeartbeats 8000000 in
set_option maxRecDepth 100000 in
theorem laws_eqEntryS.calls (k : Nat) (A0 : Option Addr) (c0 : Nat) (l0 : List (S55)) (A1 : Option Addr) (c1 : Nat) (l1 : List (S55)) (r : Bool) (w : World) (hr0 : Kd.C k55 w A0 l0.length l0) (hc0 : l0.length ≤ c0) (hr1 : Kd.C k55 w A1 l1.length l1) (hc1 : l1.length ≤ c1) (h : laws_eqEntryS.f k l0 l1 = some r) :
  Calls Tryd.prog 27 #[.slice A0 l0.length c0,.slice A1 l1.length c1] w fun e w'=>e = .returned (.bool r)∧Below w.heap.size w w':=by
 have hu55:=Tryd.underlying55;have ak:=Aside0.mk hr0;have HC0:=Aside0.mk hc0;clear hr0 hc0;have HR1:=Aside0.mk hr1;have HC1:=Aside0.mk hc1;clear hr1 hc1;have HB:=Aside0.mk (Below.refl w.heap.size w);have H:(if (l0.length:Int)=(l1.length:Int) then (laws_eqEntryS.l0 k l0 l1 0) else (some false))=some r:=h;clear h
 by_cases c3:(l0.length:Int)=(l1.length:Int)
 ·rw [if_pos c3] at H
  have a8:((l0.length:Int)==(l1.length:Int))=true:=beq_iff_eq.mpr c3;have aB:((l0.length:Int) != (l1.length:Int))=false:=bne_eq_false_iff_eq.mpr c3
  have bh:(l0.length==l1.length)=true:=by first|simpa using c3|(simp at c3 ⊢; omega)
  clear c3;have H':=Aside0.mk H;clear H
  go_enter Tryd.func27,Tryd.ntmps27
  go_wp2
  go_loopg [5] k (fun kq v5 w' => ∃ (a2:Int),v5 = .int .i64 a2∧Aside0 (laws_eqEntryS.l0 kq l0 l1 a2=some r)∧Aside0 (kq≤k)∧Aside0 (Below w.heap.size w w'))
  case atStart=>exact ⟨(0),Ye1,H',⟨Nat.le_refl _⟩,⟨be HB.out⟩⟩
  case round =>
   clear H';(try clear c1);(try clear c2);(try clear p2);(try clear c3);(try clear a8);(try clear aB);(try clear bh);obtain ⟨a2,rfl,HA,HK1,HB⟩:=hrel
   cases gk with
   | zero=>exact absurd HA.out (by simp [laws_eqEntryS.l0])
   | succ k1 =>
    have H:=HA.out;clear HA;simp only [laws_eqEntryS.l0] at H
    by_cases c4:a2<(l0.length:Int)
    ·rw [if_pos c4] at H
     have aD:decide (a2<(l0.length:Int))=true:=decide_eq_true c4;clear c4
     by_cases c5:0≤a2
     ·rw [if_pos c5] at H
      have aH:decide (0≤a2)=true:=decide_eq_true c5;clear c5
      by_cases c6:a2<(l1.length:Int)
      ·rw [if_pos c6] at H
       have aE:decide (a2<(l1.length:Int))=true:=decide_eq_true c6;clear c6;replace H:=Option.bind_eq_some_iff.mp H;obtain ⟨aU,A70,H⟩:=H;(try dsimp only at H);have A7:=Aside0.mk A70;clear A70
       by_cases c8:aU=true
       ·subst c8
        rw [if_pos rfl] at H
        have H':=Aside0.mk H;clear H
        try go_wp2
        refine Ya1 (below_drew1 HB.out) ?_;clear HB;intro HB;have ax:0≤(a2:Int):=oda;have ay:a2<(l0.length:Int):=oda;obtain ⟨ab,aV,ae,af,ag⟩:=at_T55 ak.out a2 ax ay;have hw435_2:=ag;have hw435_1:=af;have hw435_0:=ae
        cases aV
        replace ae:=pw_cell_below HB.out ae;replace af:=pw_cell_below HB.out af;replace ag:=pw_cell_below HB.out ag;replace ax:=eq_true ax;replace ay:=eq_true ay;have az:0≤(a2:Int):=oda;have aA:a2<(l1.length:Int):=oda;obtain ⟨ac,aW,ah,ai,aj⟩:=at_T55 HR1.out a2 az aA;have hw436_2:=aj;have hw436_1:=ai;have hw436_0:=ah
        cases aW
        replace ah:=pw_cell_below HB.out ah;replace ai:=pw_cell_below HB.out ai;replace aj:=pw_cell_below HB.out aj;replace az:=eq_true az;replace aA:=eq_true aA;refine start_ (n:=10) (S:=fun w'=>w'.cell? (ab.add ((a2).toNat*3))=some (.string ((rd_T55 l0 a2).f0))∧w'.cell? ⟨(ab.add ((a2).toNat*3)).block,(ab.add ((a2).toNat*3)).off+1,none⟩=some (.string ((rd_T55 l0 a2).f1))∧w'.cell? ⟨(ab.add ((a2).toNat*3)).block,(ab.add ((a2).toNat*3)).off+2,none⟩=some (.bool ((rd_T55 l0 a2).f2))∧w'.cell? (ac.add ((a2).toNat*3))=some (.string ((rd_T55 l1 a2).f0))∧w'.cell? ⟨(ac.add ((a2).toNat*3)).block,(ac.add ((a2).toNat*3)).off+1,none⟩=some (.string ((rd_T55 l1 a2).f1))∧w'.cell? ⟨(ac.add ((a2).toNat*3)).block,(ac.add ((a2).toNat*3)).off+2,none⟩=some (.bool ((rd_T55 l1 a2).f2))) (ds:=[]) (fb 10 0) (by kernel_rfl) rfl rfl ⟨(pw_cell_below HB.out hw435_0),(pw_cell_below HB.out hw435_1),(pw_cell_below HB.out hw435_2),(pw_cell_below HB.out hw436_0),(pw_cell_below HB.out hw436_1),(pw_cell_below HB.out hw436_2)⟩ (fun hHeld => ?_);refine with_tabW laws_eqEntryS.tab6 laws_eqEntryS.bits6 (fun HT_ HW_ => ?_);generalize wr.drew=w9 at HB ae af ag ah ai aj hHeld ⊢; refine pu 0 17 (fb 10 1) HT_ ?_;refine pu 1 18 (fb 10 3) HT_ ?_;refine pu 2 19 (fb 10 7) HT_ ?_;refine pu 4 21 (fb 10 23) HT_ ?_;refine pu 5 22 (fb 10 55) HT_ ?_;refine pu 6 23 (fb 10 119) HT_ ?_;refine tk 3 20 (fb 10 127) HT_ HW_ hHeld ?_;refine tk 7 24 (fb 10 255) HT_ HW_ hHeld ?_;refine o1 8 (some 25) (fb 10 511) HT_ (fun K hK => ?_);refine gs _ (#[.agg #[.string ((rd_T55 l0 a2).f0),.string ((rd_T55 l0 a2).f1),.bool ((rd_T55 l0 a2).f2)],.agg #[.string ((rd_T55 l1 a2).f0),.string ((rd_T55 l1 a2).f1),.bool ((rd_T55 l1 a2).f2)]]) Tryd.func50 ?_;(with_reducible refine (laws_eqEntry.calls ((rd_T55 l0 a2).f0) ((rd_T55 l0 a2).f1) ((rd_T55 l0 a2).f2) ((rd_T55 l1 a2).f0) ((rd_T55 l1 a2).f1) ((rd_T55 l1 a2).f2) true _ A7.out).mono ?_);rintro e w10 ⟨rfl,hb⟩;refine ⟨_,rfl,?_⟩;refine Ya1 (below_step (be HB.out) hb) ?_;clear HB;intro HB;(try clear hb);(try clear hb2);(try clear hk);(try clear hi);refine hK.out _ _ ⟨(pw_cell_below HB.out hw435_0),(pw_cell_below HB.out hw435_1),(pw_cell_below HB.out hw435_2),(pw_cell_below HB.out hw436_0),(pw_cell_below HB.out hw436_1),(pw_cell_below HB.out hw436_2)⟩ (fun hHeld => ?_);clear hK K;refine nm 25 ?_;refine pu 9 26 (fb 10 1023) HT_ ?_;refine done_ (done_of HT_.out (by kernel_rfl)) ?_
        try go_wp2
        go_roundg k1
        case measure=>have:=HK1.out;omega
        case rel=>exact ⟨(wrap64 (a2+1)),Ye1,H',⟨by have:=HK1.out;omega⟩,⟨be HB.out⟩⟩
       ·replace c8:=Bool.eq_false_iff.mpr c8;subst c8
        rw [if_neg (show ¬(false=true) by decide)] at H
        obtain rfl:=Option.some.inj H
        try go_wp2
        refine Ya1 (below_drew1 HB.out) ?_;clear HB;intro HB;have ax:0≤(a2:Int):=oda;have ay:a2<(l0.length:Int):=oda;obtain ⟨ab,aV,ae,af,ag⟩:=at_T55 ak.out a2 ax ay;have hw435_2:=ag;have hw435_1:=af;have hw435_0:=ae
        cases aV
        replace ae:=pw_cell_below HB.out ae;replace af:=pw_cell_below HB.out af;replace ag:=pw_cell_below HB.out ag;replace ax:=eq_true ax;replace ay:=eq_true ay;have az:0≤(a2:Int):=oda;have aA:a2<(l1.length:Int):=oda;obtain ⟨ac,aW,ah,ai,aj⟩:=at_T55 HR1.out a2 az aA;have hw436_2:=aj;have hw436_1:=ai;have hw436_0:=ah
        cases aW
        replace ah:=pw_cell_below HB.out ah;replace ai:=pw_cell_below HB.out ai;replace aj:=pw_cell_below HB.out aj;replace az:=eq_true az;replace aA:=eq_true aA;refine start_ (n:=10) (S:=fun w'=>w'.cell? (ab.add ((a2).toNat*3))=some (.string ((rd_T55 l0 a2).f0))∧w'.cell? ⟨(ab.add ((a2).toNat*3)).block,(ab.add ((a2).toNat*3)).off+1,none⟩=some (.string ((rd_T55 l0 a2).f1))∧w'.cell? ⟨(ab.add ((a2).toNat*3)).block,(ab.add ((a2).toNat*3)).off+2,none⟩=some (.bool ((rd_T55 l0 a2).f2))∧w'.cell? (ac.add ((a2).toNat*3))=some (.string ((rd_T55 l1 a2).f0))∧w'.cell? ⟨(ac.add ((a2).toNat*3)).block,(ac.add ((a2).toNat*3)).off+1,none⟩=some (.string ((rd_T55 l1 a2).f1))∧w'.cell? ⟨(ac.add ((a2).toNat*3)).block,(ac.add ((a2).toNat*3)).off+2,none⟩=some (.bool ((rd_T55 l1 a2).f2))) (ds:=[]) (fb 10 0) (by kernel_rfl) rfl rfl ⟨(pw_cell_below HB.out hw435_0),(pw_cell_below HB.out hw435_1),(pw_cell_below HB.out hw435_2),(pw_cell_below HB.out hw436_0),(pw_cell_below HB.out hw436_1),(pw_cell_below HB.out hw436_2)⟩ (fun hHeld => ?_);refine with_tabW laws_eqEntryS.tab6 laws_eqEntryS.bits6 (fun HT_ HW_ => ?_);generalize wr.drew=aa at HB ae af ag ah ai aj hHeld ⊢; refine pu 0 17 (fb 10 1) HT_ ?_;refine pu 1 18 (fb 10 3) HT_ ?_;refine pu 2 19 (fb 10 7) HT_ ?_;refine pu 4 21 (fb 10 23) HT_ ?_;refine pu 5 22 (fb 10 55) HT_ ?_;refine pu 6 23 (fb 10 119) HT_ ?_;refine tk 3 20 (fb 10 127) HT_ HW_ hHeld ?_;refine tk 7 24 (fb 10 255) HT_ HW_ hHeld ?_;refine o1 8 (some 25) (fb 10 511) HT_ (fun K hK => ?_);refine gs _ (#[.agg #[.string ((rd_T55 l0 a2).f0),.string ((rd_T55 l0 a2).f1),.bool ((rd_T55 l0 a2).f2)],.agg #[.string ((rd_T55 l1 a2).f0),.string ((rd_T55 l1 a2).f1),.bool ((rd_T55 l1 a2).f2)]]) Tryd.func50 ?_;(with_reducible refine (laws_eqEntry.calls ((rd_T55 l0 a2).f0) ((rd_T55 l0 a2).f1) ((rd_T55 l0 a2).f2) ((rd_T55 l1 a2).f0) ((rd_T55 l1 a2).f1) ((rd_T55 l1 a2).f2) false _ A7.out).mono ?_);rintro e w12 ⟨rfl,hb⟩;refine ⟨_,rfl,?_⟩;refine Ya1 (below_step (be HB.out) hb) ?_;clear HB;intro HB;(try clear hb);(try clear hb2);(try clear hk);(try clear hi);refine hK.out _ _ ⟨(pw_cell_below HB.out hw435_0),(pw_cell_below HB.out hw435_1),(pw_cell_below HB.out hw435_2),(pw_cell_below HB.out hw436_0),(pw_cell_below HB.out hw436_1),(pw_cell_below HB.out hw436_2)⟩ (fun hHeld => ?_);clear hK K;refine nm 25 ?_;refine pu 9 26 (fb 10 1023) HT_ ?_;refine done_ (done_of HT_.out (by kernel_rfl)) ?_
        try go_wp2
        go_ret
        exact ⟨Ye2,be HB.out⟩
      ·rw [if_neg c6] at H
       exact absurd H (by simp)
     ·rw [if_neg c5] at H
      exact absurd H (by simp)
    ·rw [if_neg c4] at H
     have aD:decide (a2<(l0.length:Int))=false:=decide_eq_false c4;clear c4;obtain rfl:=Option.some.inj H
     go_wp2
     go_ret
     exact ⟨Ye2,be HB.out⟩
 ·rw [if_neg c3] at H
  have a8:((l0.length:Int)==(l1.length:Int))=false:=beq_eq_false_iff_ne.mpr c3;have aB:((l0.length:Int) != (l1.length:Int))=true:=bne_iff_ne.mpr c3
  have bh:(l0.length==l1.length)=false:=by first|simpa using c3|(simp at c3 ⊢; omega)
  obtain rfl:=Option.some.inj H
  go_enter Tryd.func27,Tryd.ntmps27
  go_wp2
  go_ret
  exact ⟨Ye2,be HB.out⟩

end Go.Proofs.YthfpoacindblgaaDoor.P


namespace Go.Proofs.YthfpoacindblgaaDoor.P
open Go.RowKit Go.Proofs.YthfpoacindblgaaDoorW.PrintWords Go.Proofs.YthfpoacindblgaaDoorW.PrintLast Go.Proofs.YthfpoacindblgaaDoorW.PrintMore
attribute [local go_sem] max2_int min2_int max_two min_two max_three min_three max_four min_four
set_option linter.unusedVariables false
set_option linter.unusedSimpArgs false

def laws_szTree.f (k:Nat) (a2:List (S61)) (a1:Int):Option (Int):=(laws_szEntryS.f k a2 a1).bind fun a8=>(if a8<0 then (some (-1)) else (some a8))
theorem laws_szTree.mono:∀ a0 a1 k,LeO (laws_szTree.f k a0 a1) (laws_szTree.f (k+1) a0 a1):=by
 intro a0 a1 k
 unfold laws_szTree.f
 exact mo1 @laws_szEntryS.mono
set_option maxHeartbeats 8000000 in
set_option maxRecDepth 100000 in
theorem laws_szTree.calls (k:Nat) (a4:Option Addr) (a5:Nat) (a2:List (S61)) (a1:Int) (r:Int) (w:World) (ac:Kd.C k61 w a4 a2.length a2) (ad:a2.length≤a5) (h:laws_szTree.f k a2 a1=some r) :
  Calls Tryd.prog 4 #[.agg #[.slice a4 a2.length a5],.int .i64 a1] w fun e w'=>e = .returned (.int .i64 r)∧Below w.heap.size w w':=by
 have hu24:=Tryd.underlying24;have af:=Aside0.mk ac;have ag:=Aside0.mk ad;clear ac ad;have HB:=Aside0.mk (Below.refl w.heap.size w);have H:((laws_szEntryS.f k a2 a1).bind fun a8=>(if a8<0 then (some (-1)) else (some a8)))=some r:=h;clear h;replace H:=Option.bind_eq_some_iff.mp H;obtain ⟨a8,aj,H⟩:=H;(try dsimp only at H);have A3:=Aside0.mk aj;clear aj
 by_cases c4:a8<0
 ·rw [if_pos c4] at H
  have ay:decide (a8<0)=true:=decide_eq_true c4;clear c4;obtain rfl:=Option.some.inj H
  go_enter Tryd.func4,Tryd.ntmps4
  go_wp2_with (first|((with_reducible refine gd 2 rfl ?_);refine bx 2 24 (#[.slice a4 a2.length a5]) ?_;intro az hg w5 hbox hb;refine Ya4 (below_step (be HB.out) hb) (hbox) (bs hg (be HB.out)) (bs hg (be HB.out)) ?_;clear HB;intro HB aa aA aB;clear hb hbox hg;have ⟨aW,aX⟩:=Yc1 aa.out)|((with_reducible refine gc 13 rfl ?_);refine gl (some 8) _ (#[.slice a4 a2.length a5,.int .i64 a1]) Tryd.func13 ?_;(with_reducible refine (laws_szEntryS.calls k _ _ a2 a1 a8 _ ?side1 ?side2 A3.out).mono ?_);(case side1=>exact cb (Kd.C_below af.out HB.out));(case side2=>exact ag.out);rintro e w7 ⟨rfl,hb⟩;refine ⟨_,rfl,?_⟩;refine Ya2 (bb aa hb) (below_step (bf HB.out) hb) ?_;clear aa HB;intro aa HB;(try clear hb);(try clear hb2);(try clear hk);(try clear hi)))
  go_ret
  exact ⟨Ye2,(bf HB.out)⟩
 ·rw [if_neg c4] at H
  have ay:decide (a8<0)=false:=decide_eq_false c4;clear c4;obtain rfl:=Option.some.inj H
  go_enter Tryd.func4,Tryd.ntmps4
  go_wp2_with (first|((with_reducible refine gd 2 rfl ?_);refine bx 2 24 (#[.slice a4 a2.length a5]) ?_;intro az hg w8 hbox hb;refine Ya4 (below_step (be HB.out) hb) (hbox) (bs hg (be HB.out)) (bs hg (be HB.out)) ?_;clear HB;intro HB aa aA aB;clear hb hbox hg;have ⟨aC,aD⟩:=Yc1 aa.out)|((with_reducible refine gc 13 rfl ?_);refine gl (some 8) _ (#[.slice a4 a2.length a5,.int .i64 a1]) Tryd.func13 ?_;(with_reducible refine (laws_szEntryS.calls k _ _ a2 a1 a8 _ ?side1 ?side2 A3.out).mono ?_);(case side1=>exact cb (Kd.C_below af.out HB.out));(case side2=>exact ag.out);rintro e w10 ⟨rfl,hb⟩;refine ⟨_,rfl,?_⟩;refine Ya2 (bb aa hb) (below_step (bf HB.out) hb) ?_;clear aa HB;intro aa HB;(try clear hb);(try clear hb2);(try clear hk);(try clear hi)))
  go_ret
  exact ⟨Ye2,(bf HB.out)⟩

def laws_toTree.f (k:Nat) (a2:List (S61)):Option ((List (S55))):=(laws_toEntryS.f k a2).bind fun ae=>(some ae)
theorem laws_toTree.mono:∀ a0 k,LeO (laws_toTree.f k a0) (laws_toTree.f (k+1) a0):=by
 intro a0 k
 unfold laws_toTree.f
 exact mo1 @laws_toEntryS.mono
set_option maxHeartbeats 8000000 in
set_option maxRecDepth 100000 in
theorem laws_toTree.calls (k:Nat) (a4:Option Addr) (a5:Nat) (a2:List (S61)) (r:List (S55)) (w:World) (ac:Kd.C k61 w a4 a2.length a2) (ad:a2.length≤a5) (h:laws_toTree.f k a2=some r) :
  Calls Tryd.prog 6 #[.agg #[.slice a4 a2.length a5]] w fun e w' => ∃ v0_:Value,e = .returned (.agg #[v0_])∧Kd.R k55 55 w' w.heap.size (fun _=>True) v0_ r∧Below w.heap.size w w':=by
 have hu24:=Tryd.underlying24;have hu32:=Tryd.underlying32;have af:=Aside0.mk ac;have ag:=Aside0.mk ad;clear ac ad;have HB:=Aside0.mk (Below.refl w.heap.size w);have H:((laws_toEntryS.f k a2).bind fun ae=>(some ae))=some r:=h;clear h;replace H:=Option.bind_eq_some_iff.mp H;obtain ⟨ae,A20,H⟩:=H;(try dsimp only at H);have A2:=Aside0.mk A20;clear A20;obtain rfl:=Option.some.inj H
 go_enter Tryd.func6,Tryd.ntmps6
 go_wp2_with (first|((with_reducible refine gd 1 rfl ?_);refine bx 1 24 (#[.slice a4 a2.length a5]) ?_;intro gb264 hg w3 hbox hb;refine Ya4 (below_step (be HB.out) hb) (hbox) (bs hg (be HB.out)) (bs hg (be HB.out)) ?_;clear HB;intro HB a6 GW264 GE264;clear hb hbox hg)|((with_reducible refine gd 2 rfl ?_);refine bx 2 32 (#[.slice none 0 0]) ?_;intro aq hg w4 hbox hb;refine Ya7 (bb a6 hb) (below_step (bf HB.out) hb) (hbox) (bs hg (bf HB.out)) (bs hg (bf HB.out)) (bl hg a6) (br hg a6) ?_;clear a6 HB;intro a6 HB a9 GW265 GE265 aE aF;clear hb hbox hg)|((with_reducible refine gd 3 rfl ?_);refine bx 3 32 (#[.slice none 0 0]) ?_;intro aG hg w5 hbox hb;refine Ya10 (bb a6 hb) (bb a9 hb) (below_step (bf HB.out) hb) (hbox) (bs hg (bf HB.out)) (bs hg (bf HB.out)) (bl hg a6) (br hg a6) (bl hg a9) (br hg a9) ?_;clear a6 a9 HB;intro a6 a9 HB ak GW266 GE266 aH aI aJ aK;clear hb hbox hg;have hnb6:=aE.out;have hnc6:=aF.out;have aL:=aH.out;have aM:=aI.out;have ⟨aN,aO⟩:=Yc1 a6.out)|((with_reducible refine gc 20 rfl ?_);refine gl (some 6) _ (#[.slice a4 a2.length a5]) Tryd.func20 ?_;(with_reducible refine (laws_toEntryS.calls k _ _ a2 ae _ ?side1 ?side2 A2.out).mono ?_);(case side1=>exact cb (Kd.C_below af.out HB.out));(case side2=>exact ag.out);rintro e w9 ⟨v268,rfl,ho0,hb⟩;refine ⟨_,rfl,?_⟩;refine Ya5 (Kd.R_lower ho0 (below_size (bf HB.out))) (bb a6 hb) (bb a9 hb) (bb ak hb) (below_step (bf HB.out) hb) ?_;clear a6 a9 ak HB;intro ar a6 a9 ak HB;(try clear hb);(try clear hb2);(try clear hk);(try clear hi);(try clear ho0);obtain ⟨am,an,aP⟩:=Kd.R_slice ar.out;subst aP;have hnb11:=aK.out;have hnc11:=aJ.out;have ⟨aY,aZ⟩:=Yc1 ak.out;have ⟨b0,b1⟩:=Yc1 a9.out))
 refine bodyPost_ret (results_cell_row rfl _ _ aq 32 #[.slice am ae.length an] (0,0) _ rfl (bp a9.out) Tryd.underlying32 rfl (by kernel_rfl)) rfl ?_;exact ⟨_,Ye2,by (with_reducible repeat (first|apply Kd.R_alloc|apply Kd.R_drewN|apply Kd.R_drew));exact Kd.R_mono (Kd.R_far (p:=⟨aq,0,none⟩) (Kd.R_far (p:=⟨aG,0,none⟩) (Kd.R_types (Kd.R_types ar.out ak.out (by decide)) a9.out (by decide)) (fun _ hk=>hk.1.2) (.slice am ae.length an)) (fun _ hk=>hk.2) (.slice am ae.length an)) (fun _ hk=>trivial),(bf HB.out)⟩

def laws_eqTree.f (k:Nat) (a2:List (S55)) (a7:List (S55)):Option (Bool):=(laws_eqEntryS.f k a2 a7).bind fun al=>(if al=true then (some true) else (some false))
theorem laws_eqTree.mono:∀ a0 a1 k,LeO (laws_eqTree.f k a0 a1) (laws_eqTree.f (k+1) a0 a1):=by
 intro a0 a1 k
 unfold laws_eqTree.f
 exact mo1 @laws_eqEntryS.mono
set_option maxHeartbeats 8000000 in
set_option maxRecDepth 100000 in
theorem laws_eqTree.calls (k:Nat) (a4:Option Addr) (a5:Nat) (a2:List (S55)) (ah:Option Addr) (ai:Nat) (a7:List (S55)) (r:Bool) (w:World) (ac:Kd.C k55 w a4 a2.length a2) (ad:a2.length≤a5) (au:Kd.C k55 w ah a7.length a7) (av:a7.length≤ai) (h:laws_eqTree.f k a2 a7=some r) :
  Calls Tryd.prog 9 #[.agg #[.slice a4 a2.length a5],.agg #[.slice ah a7.length ai]] w fun e w'=>e = .returned (.bool r)∧Below w.heap.size w w':=by
 have hu32:=Tryd.underlying32;have af:=Aside0.mk ac;have ag:=Aside0.mk ad;clear ac ad;have aw:=Aside0.mk au;have ax:=Aside0.mk av;clear au av;have HB:=Aside0.mk (Below.refl w.heap.size w);have H:((laws_eqEntryS.f k a2 a7).bind fun al=>(if al=true then (some true) else (some false)))=some r:=h;clear h;replace H:=Option.bind_eq_some_iff.mp H;obtain ⟨al,aj,H⟩:=H;(try dsimp only at H);have A3:=Aside0.mk aj;clear aj
 by_cases c4:al=true
 ·subst c4
  rw [if_pos rfl] at H
  obtain rfl:=Option.some.inj H
  go_enter Tryd.func9,Tryd.ntmps9
  go_wp2_with (first|((with_reducible refine gd 2 rfl ?_);refine bx 2 32 (#[.slice a4 a2.length a5]) ?_;intro aQ hg w5 hbox hb;refine Ya4 (below_step (be HB.out) hb) (hbox) (bs hg (be HB.out)) (bs hg (be HB.out)) ?_;clear HB;intro HB a3 aR aS;clear hb hbox hg)|((with_reducible refine gd 3 rfl ?_);refine bx 3 32 (#[.slice ah a7.length ai]) ?_;intro aT hg w6 hbox hb;refine Ya7 (bb a3 hb) (below_step (bf HB.out) hb) (hbox) (bs hg (bf HB.out)) (bs hg (bf HB.out)) (bl hg a3) (br hg a3) ?_;clear a3 HB;intro a3 HB ab aU aV ao ap;clear hb hbox hg;have aL:=ao.out;have aM:=ap.out;have ⟨aN,aO⟩:=Yc1 a3.out;have ⟨aC,aD⟩:=Yc1 ab.out)|((with_reducible refine gc 27 rfl ?_);refine gl (some 9) _ (#[.slice a4 a2.length a5,.slice ah a7.length ai]) Tryd.func27 ?_;(with_reducible refine (laws_eqEntryS.calls k _ _ a2 _ _ a7 true _ ?side1 ?side2 ?side3 ?side4 A3.out).mono ?_);(case side1=>exact cb (Kd.C_below af.out HB.out));(case side2=>exact ag.out);(case side3=>exact cb (Kd.C_below aw.out HB.out));(case side4=>exact ax.out);rintro e w10 ⟨rfl,hb⟩;refine ⟨_,rfl,?_⟩;refine Ya3 (bb a3 hb) (bb ab hb) (below_step (bf HB.out) hb) ?_;clear a3 ab HB;intro a3 ab HB;(try clear hb);(try clear hb2);(try clear hk);(try clear hi)))
  go_ret
  exact ⟨Ye2,(bf HB.out)⟩
 ·replace c4:=Bool.eq_false_iff.mpr c4;subst c4
  rw [if_neg (show ¬(false=true) by decide)] at H
  obtain rfl:=Option.some.inj H
  go_enter Tryd.func9,Tryd.ntmps9
  go_wp2_with (first|((with_reducible refine gd 2 rfl ?_);refine bx 2 32 (#[.slice a4 a2.length a5]) ?_;intro aQ hg w11 hbox hb;refine Ya4 (below_step (be HB.out) hb) (hbox) (bs hg (be HB.out)) (bs hg (be HB.out)) ?_;clear HB;intro HB a3 aR aS;clear hb hbox hg)|((with_reducible refine gd 3 rfl ?_);refine bx 3 32 (#[.slice ah a7.length ai]) ?_;intro aT hg w12 hbox hb;refine Ya7 (bb a3 hb) (below_step (bf HB.out) hb) (hbox) (bs hg (bf HB.out)) (bs hg (bf HB.out)) (bl hg a3) (br hg a3) ?_;clear a3 HB;intro a3 HB ab aU aV ao ap;clear hb hbox hg;have hnb13:=ao.out;have hnc13:=ap.out;have ⟨b2,b3⟩:=Yc1 a3.out;have ⟨b4,b5⟩:=Yc1 ab.out)|((with_reducible refine gc 27 rfl ?_);refine gl (some 9) _ (#[.slice a4 a2.length a5,.slice ah a7.length ai]) Tryd.func27 ?_;(with_reducible refine (laws_eqEntryS.calls k _ _ a2 _ _ a7 false _ ?side1 ?side2 ?side3 ?side4 A3.out).mono ?_);(case side1=>exact cb (Kd.C_below af.out HB.out));(case side2=>exact ag.out);(case side3=>exact cb (Kd.C_below aw.out HB.out));(case side4=>exact ax.out);rintro e w16 ⟨rfl,hb⟩;refine ⟨_,rfl,?_⟩;refine Ya3 (bb a3 hb) (bb ab hb) (below_step (bf HB.out) hb) ?_;clear a3 ab HB;intro a3 ab HB;(try clear hb);(try clear hb2);(try clear hk);(try clear hi)))
  go_ret
  exact ⟨Ye2,(bf HB.out)⟩

end Go.Proofs.YthfpoacindblgaaDoor.P


namespace Go.Proofs.YthfpoacindblgaaDoor.P
open Go.RowKit Go.Proofs.YthfpoacindblgaaDoorW.PrintWords Go.Proofs.YthfpoacindblgaaDoorW.PrintLast Go.Proofs.YthfpoacindblgaaDoorW.PrintMore
attribute [local go_sem] max2_int min2_int max_two min_two max_three min_three max_four min_four
set_option linter.unusedVariables false
set_option linter.unusedSimpArgs false

def spec_l6At.l0:Nat→ByteArray→Int→List (S55)→Option (Bool×ByteArray×Bool)
 | 0,_,_,_=>none
 | k+1,x1,x5,ac=>if x5<(ac.length:Int) then (if 0≤x5 then (if ((rd_T55 ac x5).f0).toList=x1.toList then (some (true,(rd_T55 ac x5).f1,(rd_T55 ac x5).f2)) else (spec_l6At.l0 k x1 (wrap64 (x5+1)) ac)) else (none)) else (some (false,(⟨#[]⟩:ByteArray),false))
def spec_l6At.f (k:Nat) (a4:List (S55)) (a1:ByteArray):Option (Bool×ByteArray×Bool):=spec_l6At.l0 k a1 0 a4
theorem spec_l6At.mono_l:∀ k,(∀ y0 y1 y2,LeO (spec_l6At.l0 k y0 y1 y2) (spec_l6At.l0 (k+1) y0 y1 y2))
 | 0=>fun _ _ _ r h=>by simp [spec_l6At.l0] at h
 | k + 1 => by
  have ih0:=spec_l6At.mono_l k
  ·intro y0 y1 y2
   unfold spec_l6At.l0
   exact mo1 ih0
theorem spec_l6At.mono:∀ a0 a1 k,LeO (spec_l6At.f k a0 a1) (spec_l6At.f (k+1) a0 a1):=by
 intro a0 a1 k;have ih0:=spec_l6At.mono_l k
 unfold spec_l6At.f
 exact mo1 ih0
def spec_l6At.T5:Bool×List (List Nat×List Nat):=(true,[([],[]),([0],[0]),([],[]),([1,2],[1,2]),([3],[3]),([4],[4]),([],[]),([6],[6]),([],[]),([7,8],[7,8]),([9],[9]),([10],[10]),([5,11],[5,11]),([12,0,1,2,3,4,5,6,7,8,9,10,11,12],[12])])
def spec_l6At.B5:List Nat:=[0,1,0,7,15,31,0,64,0,448,960,1984,4095,8191]
theorem spec_l6At.tab5:rtab .any (opsOf Tryd.f19 5)=spec_l6At.T5:=by kernel_rfl
theorem spec_l6At.bits5:waitsOk spec_l6At.T5.2 spec_l6At.B5=true:=by kernel_rfl
set_option maxHeartbeats 8000000 in
set_option maxRecDepth 100000 in
theorem spec_l6At.calls (k:Nat) (ae:Option Addr) (ad:Nat) (a4:List (S55)) (a1:ByteArray) (r1:Bool) (r2:ByteArray) (r3:Bool) (w:World) (ax:Kd.C k55 w ae a4.length a4) (ay:a4.length≤ad) (h:spec_l6At.f k a4 a1=some (r1,r2,r3)) :
  Calls Tryd.prog 19 #[.agg #[.slice ae a4.length ad],.string a1] w fun e w'=>e = .returned (.agg #[.bool r1,.string r2,.bool r3])∧Below w.heap.size w w':=by
 have hu32:=Tryd.underlying32;have hu46:=Tryd.underlying46;have af:=Aside0.mk ax;have HC0_0:=Aside0.mk ay;clear ax ay;have HB:=Aside0.mk (Below.refl w.heap.size w);have H:(spec_l6At.l0 k a1 0 a4)=some (r1,r2,r3):=h;clear h;have H':=Aside0.mk H;clear H
 go_enter Tryd.func19,Tryd.ntmps19
 go_wp2_with (first|((with_reducible refine gd 2 rfl ?_);refine bx 2 32 (#[.slice ae a4.length ad]) ?_;intro az hg w3 hbox hb;refine Ya4 (below_step (be HB.out) hb) (hbox) (bs hg (be HB.out)) (bs hg (be HB.out)) ?_;clear HB;intro HB a6 GW141 GE141;clear hb hbox hg)|((with_reducible refine gd 4 rfl ?_);refine bx 4 46 (#[.bool false,.string (⟨#[]⟩:ByteArray),.bool false]) ?_;intro a5 hg w4 hbox hb;refine Ya7 (bb a6 hb) (below_step (bf HB.out) hb) (hbox) (bs hg (bf HB.out)) (bs hg (bf HB.out)) (bl hg a6) (br hg a6) ?_;clear a6 HB;intro a6 HB a8 a2 GE142 a9 ag;clear hb hbox hg))
 go_loopg [5] k (fun kq v5 w' => ∃ (a3:Int) (an:Bool) (ao:ByteArray) (ap:Bool),v5 = .int .i64 a3∧Aside0 (spec_l6At.l0 kq a1 a3 a4=some (r1,r2,r3))∧Aside0 (kq≤k)∧Aside0 (w'.heap[az]? = some (.cells #[(.slice ae a4.length ad)] 32 (0,0)))∧Aside0 (w'.heap[a5]? = some (.cells #[.bool an,.string ao,.bool ap] 46 (0,0)))∧Aside0 (Below w.heap.size w w'))
 case atStart=>exact ⟨(0),(false),((⟨#[]⟩:ByteArray)),(false),Ye1,H',⟨Nat.le_refl _⟩,⟨bk a6.out⟩,⟨bk a8.out⟩,⟨bf HB.out⟩⟩
 case round =>
  clear H';(try clear c1);(try clear p2);obtain ⟨a3,an,ao,ap,rfl,HA,HK1,a6,a8,HB⟩:=hrel
  cases gk with
  | zero=>exact absurd HA.out (by simp [spec_l6At.l0])
  | succ k1 =>
   have H:=HA.out;clear HA;simp only [spec_l6At.l0] at H
   by_cases c5:a3<(a4.length:Int)
   ·rw [if_pos c5] at H
    have aA:decide (a3<(a4.length:Int))=true:=decide_eq_true c5;clear c5
    by_cases c6:0≤a3
    ·rw [if_pos c6] at H
     have c6b0:decide (0≤a3)=true:=decide_eq_true c6;clear c6
     by_cases c7:((rd_T55 a4 a3).f0).toList=a1.toList
     ·rw [if_pos c7] at H
      have aB:(((rd_T55 a4 a3).f0).toList==a1.toList)=true:=beq_iff_eq.mpr c7;have aC:(((rd_T55 a4 a3).f0).toList != a1.toList)=false:=bne_eq_false_iff_eq.mpr c7;clear c7;simp only [Option.some.injEq,Prod.mk.injEq] at H;obtain ⟨rfl,rfl,rfl⟩:=H;have hnb8:=a9.out;have hnc8:=ag.out;have ⟨aK,aL⟩:=Yc1 a6.out;have aa:0≤(a3:Int):=oda;have ab:a3<(a4.length:Int):=oda;obtain ⟨a7,aq,aD,aE,aF⟩:=at_T55 (Kd.C_below af.out HB.out) a3 aa ab
      cases aq
      replace aa:=eq_true aa;replace ab:=eq_true ab
      try go_wp2
      refine Ya3 (blk_drew a6.out) (blk_drew a8.out) (below_drew1 HB.out) ?_;clear a6 a8 HB;intro a6 a8 HB;have ar:0≤(a3:Int):=oda;have au:a3<(a4.length:Int):=oda;obtain ⟨aG,aH,ah,ai,aj⟩:=at_T55 af.out a3 ar au;have hw144_2:=aj;have hw144_1:=ai;have hw144_0:=ah
      obtain rfl:a7=aG:=(by injection aH)
      replace ah:=pw_cell_below HB.out ah;replace ai:=pw_cell_below HB.out ai;replace aj:=pw_cell_below HB.out aj;replace ar:=eq_true ar;replace au:=eq_true au;have av:0≤(a3:Int):=oda;have aw:a3<(a4.length:Int):=oda;obtain ⟨aI,aJ,ak,al,am⟩:=at_T55 af.out a3 av aw;have hw145_2:=am;have hw145_1:=al;have hw145_0:=ak
      obtain rfl:a7=aI:=(by injection aJ)
      replace ak:=pw_cell_below HB.out ak;replace al:=pw_cell_below HB.out al;replace am:=pw_cell_below HB.out am;replace av:=eq_true av;replace aw:=eq_true aw;refine start_ (n:=14) (S:=fun w'=>w'.cell? ⟨az,0,none⟩=some (.slice (some a7) a4.length ad)∧w'.cell? (a7.add ((a3).toNat*3))=some (.string ((rd_T55 a4 a3).f0))∧w'.cell? ⟨(a7.add ((a3).toNat*3)).block,(a7.add ((a3).toNat*3)).off+1,none⟩=some (.string ((rd_T55 a4 a3).f1))∧w'.cell? ⟨(a7.add ((a3).toNat*3)).block,(a7.add ((a3).toNat*3)).off+2,none⟩=some (.bool ((rd_T55 a4 a3).f2))∧w'.cell? (a7.add ((a3).toNat*3))=some (.string ((rd_T55 a4 a3).f0))∧w'.cell? ⟨(a7.add ((a3).toNat*3)).block,(a7.add ((a3).toNat*3)).off+1,none⟩=some (.string ((rd_T55 a4 a3).f1))∧w'.cell? ⟨(a7.add ((a3).toNat*3)).block,(a7.add ((a3).toNat*3)).off+2,none⟩=some (.bool ((rd_T55 a4 a3).f2))) (ds:=[]) (fb 14 0) (by kernel_rfl) rfl rfl ⟨bc a6 0,(pw_cell_below HB.out hw144_0),(pw_cell_below HB.out hw144_1),(pw_cell_below HB.out hw144_2),(pw_cell_below HB.out hw145_0),(pw_cell_below HB.out hw145_1),(pw_cell_below HB.out hw145_2)⟩ (fun hHeld => ?_);refine with_tabW spec_l6At.tab5 spec_l6At.bits5 (fun HT_ HW_ => ?_);generalize wr.drew=w10 at a6 a8 HB ah ai aj ak al am hHeld ⊢; refine pu 0 21 (fb 14 1) HT_ ?_;refine pu 2 23 (fb 14 5) HT_ ?_;refine pu 6 27 (fb 14 69) HT_ ?_;refine pu 8 29 (fb 14 325) HT_ ?_;refine tk 1 22 (fb 14 327) HT_ HW_ hHeld ?_;refine pu 3 24 (fb 14 335) HT_ ?_;refine pu 4 25 (fb 14 351) HT_ ?_;refine tk 5 26 (fb 14 383) HT_ HW_ hHeld ?_;refine tk 7 28 (fb 14 511) HT_ HW_ hHeld ?_;refine pu 9 30 (fb 14 1023) HT_ ?_;refine pu 10 31 (fb 14 2047) HT_ ?_;refine tk 11 32 (fb 14 4095) HT_ HW_ hHeld ?_;refine pu 12 33 (fb 14 8191) HT_ ?_;refine o1 13 none (fb 14 16383) HT_ (fun K hK => ?_);have ⟨hs11,hs12,hs13,hfs11,hfs12,hfs13⟩:=Yc3 a8.out;have aM:=a9.out;have aN:=ag.out;refine skip_ (w1:=?_) (by rfl) rfl ?_ ?_;rotate_left
      ·go_simp;rfl
      refine hK.out _ _ ⟨((cell_far (p:=⟨a5,_,none⟩) a9.out _).trans (((cell_far (p:=⟨a5,_,none⟩) a9.out _).trans (((cell_far (p:=⟨a5,_,none⟩) a9.out _).trans (hHeld.1)))))),((cell_far (p:=⟨a5,_,none⟩) (by first|exact Nat.ne_of_lt (Nat.lt_of_lt_of_le (by have:=World.block_lt_of_cell? _ _ hw144_0;first|rwa [add_block] at this|exact this) a2.out)|(rw [add_block];exact Nat.ne_of_lt (Nat.lt_of_lt_of_le (by have:=World.block_lt_of_cell? _ _ hw144_0;first|rwa [add_block] at this|exact this) a2.out))|(show (Addr.add _ _).block≠_;rw [add_block];exact Nat.ne_of_lt (Nat.lt_of_lt_of_le (by have:=World.block_lt_of_cell? _ _ hw144_0;first|rwa [add_block] at this|exact this) a2.out))|(dsimp only;exact Nat.ne_of_lt (Nat.lt_of_lt_of_le (by have:=World.block_lt_of_cell? _ _ hw144_0;first|rwa [add_block] at this|exact this) a2.out))) _).trans (((cell_far (p:=⟨a5,_,none⟩) (by first|exact Nat.ne_of_lt (Nat.lt_of_lt_of_le (by have:=World.block_lt_of_cell? _ _ hw144_0;first|rwa [add_block] at this|exact this) a2.out)|(rw [add_block];exact Nat.ne_of_lt (Nat.lt_of_lt_of_le (by have:=World.block_lt_of_cell? _ _ hw144_0;first|rwa [add_block] at this|exact this) a2.out))|(show (Addr.add _ _).block≠_;rw [add_block];exact Nat.ne_of_lt (Nat.lt_of_lt_of_le (by have:=World.block_lt_of_cell? _ _ hw144_0;first|rwa [add_block] at this|exact this) a2.out))|(dsimp only;exact Nat.ne_of_lt (Nat.lt_of_lt_of_le (by have:=World.block_lt_of_cell? _ _ hw144_0;first|rwa [add_block] at this|exact this) a2.out))) _).trans (((cell_far (p:=⟨a5,_,none⟩) (by first|exact Nat.ne_of_lt (Nat.lt_of_lt_of_le (by have:=World.block_lt_of_cell? _ _ hw144_0;first|rwa [add_block] at this|exact this) a2.out)|(rw [add_block];exact Nat.ne_of_lt (Nat.lt_of_lt_of_le (by have:=World.block_lt_of_cell? _ _ hw144_0;first|rwa [add_block] at this|exact this) a2.out))|(show (Addr.add _ _).block≠_;rw [add_block];exact Nat.ne_of_lt (Nat.lt_of_lt_of_le (by have:=World.block_lt_of_cell? _ _ hw144_0;first|rwa [add_block] at this|exact this) a2.out))|(dsimp only;exact Nat.ne_of_lt (Nat.lt_of_lt_of_le (by have:=World.block_lt_of_cell? _ _ hw144_0;first|rwa [add_block] at this|exact this) a2.out))) _).trans (hHeld.2.1)))))),((cell_far (p:=⟨a5,_,none⟩) (by first|exact Nat.ne_of_lt (Nat.lt_of_lt_of_le (by have:=World.block_lt_of_cell? _ _ hw144_1;first|rwa [add_block] at this|exact this) a2.out)|(rw [add_block];exact Nat.ne_of_lt (Nat.lt_of_lt_of_le (by have:=World.block_lt_of_cell? _ _ hw144_1;first|rwa [add_block] at this|exact this) a2.out))|(show (Addr.add _ _).block≠_;rw [add_block];exact Nat.ne_of_lt (Nat.lt_of_lt_of_le (by have:=World.block_lt_of_cell? _ _ hw144_1;first|rwa [add_block] at this|exact this) a2.out))|(dsimp only;exact Nat.ne_of_lt (Nat.lt_of_lt_of_le (by have:=World.block_lt_of_cell? _ _ hw144_1;first|rwa [add_block] at this|exact this) a2.out))) _).trans (((cell_far (p:=⟨a5,_,none⟩) (by first|exact Nat.ne_of_lt (Nat.lt_of_lt_of_le (by have:=World.block_lt_of_cell? _ _ hw144_1;first|rwa [add_block] at this|exact this) a2.out)|(rw [add_block];exact Nat.ne_of_lt (Nat.lt_of_lt_of_le (by have:=World.block_lt_of_cell? _ _ hw144_1;first|rwa [add_block] at this|exact this) a2.out))|(show (Addr.add _ _).block≠_;rw [add_block];exact Nat.ne_of_lt (Nat.lt_of_lt_of_le (by have:=World.block_lt_of_cell? _ _ hw144_1;first|rwa [add_block] at this|exact this) a2.out))|(dsimp only;exact Nat.ne_of_lt (Nat.lt_of_lt_of_le (by have:=World.block_lt_of_cell? _ _ hw144_1;first|rwa [add_block] at this|exact this) a2.out))) _).trans (((cell_far (p:=⟨a5,_,none⟩) (by first|exact Nat.ne_of_lt (Nat.lt_of_lt_of_le (by have:=World.block_lt_of_cell? _ _ hw144_1;first|rwa [add_block] at this|exact this) a2.out)|(rw [add_block];exact Nat.ne_of_lt (Nat.lt_of_lt_of_le (by have:=World.block_lt_of_cell? _ _ hw144_1;first|rwa [add_block] at this|exact this) a2.out))|(show (Addr.add _ _).block≠_;rw [add_block];exact Nat.ne_of_lt (Nat.lt_of_lt_of_le (by have:=World.block_lt_of_cell? _ _ hw144_1;first|rwa [add_block] at this|exact this) a2.out))|(dsimp only;exact Nat.ne_of_lt (Nat.lt_of_lt_of_le (by have:=World.block_lt_of_cell? _ _ hw144_1;first|rwa [add_block] at this|exact this) a2.out))) _).trans (hHeld.2.2.1)))))),((cell_far (p:=⟨a5,_,none⟩) (by first|exact Nat.ne_of_lt (Nat.lt_of_lt_of_le (by have:=World.block_lt_of_cell? _ _ hw144_2;first|rwa [add_block] at this|exact this) a2.out)|(rw [add_block];exact Nat.ne_of_lt (Nat.lt_of_lt_of_le (by have:=World.block_lt_of_cell? _ _ hw144_2;first|rwa [add_block] at this|exact this) a2.out))|(show (Addr.add _ _).block≠_;rw [add_block];exact Nat.ne_of_lt (Nat.lt_of_lt_of_le (by have:=World.block_lt_of_cell? _ _ hw144_2;first|rwa [add_block] at this|exact this) a2.out))|(dsimp only;exact Nat.ne_of_lt (Nat.lt_of_lt_of_le (by have:=World.block_lt_of_cell? _ _ hw144_2;first|rwa [add_block] at this|exact this) a2.out))) _).trans (((cell_far (p:=⟨a5,_,none⟩) (by first|exact Nat.ne_of_lt (Nat.lt_of_lt_of_le (by have:=World.block_lt_of_cell? _ _ hw144_2;first|rwa [add_block] at this|exact this) a2.out)|(rw [add_block];exact Nat.ne_of_lt (Nat.lt_of_lt_of_le (by have:=World.block_lt_of_cell? _ _ hw144_2;first|rwa [add_block] at this|exact this) a2.out))|(show (Addr.add _ _).block≠_;rw [add_block];exact Nat.ne_of_lt (Nat.lt_of_lt_of_le (by have:=World.block_lt_of_cell? _ _ hw144_2;first|rwa [add_block] at this|exact this) a2.out))|(dsimp only;exact Nat.ne_of_lt (Nat.lt_of_lt_of_le (by have:=World.block_lt_of_cell? _ _ hw144_2;first|rwa [add_block] at this|exact this) a2.out))) _).trans (((cell_far (p:=⟨a5,_,none⟩) (by first|exact Nat.ne_of_lt (Nat.lt_of_lt_of_le (by have:=World.block_lt_of_cell? _ _ hw144_2;first|rwa [add_block] at this|exact this) a2.out)|(rw [add_block];exact Nat.ne_of_lt (Nat.lt_of_lt_of_le (by have:=World.block_lt_of_cell? _ _ hw144_2;first|rwa [add_block] at this|exact this) a2.out))|(show (Addr.add _ _).block≠_;rw [add_block];exact Nat.ne_of_lt (Nat.lt_of_lt_of_le (by have:=World.block_lt_of_cell? _ _ hw144_2;first|rwa [add_block] at this|exact this) a2.out))|(dsimp only;exact Nat.ne_of_lt (Nat.lt_of_lt_of_le (by have:=World.block_lt_of_cell? _ _ hw144_2;first|rwa [add_block] at this|exact this) a2.out))) _).trans (hHeld.2.2.2.1)))))),((cell_far (p:=⟨a5,_,none⟩) (by first|exact Nat.ne_of_lt (Nat.lt_of_lt_of_le (by have:=World.block_lt_of_cell? _ _ hw145_0;first|rwa [add_block] at this|exact this) a2.out)|(rw [add_block];exact Nat.ne_of_lt (Nat.lt_of_lt_of_le (by have:=World.block_lt_of_cell? _ _ hw145_0;first|rwa [add_block] at this|exact this) a2.out))|(show (Addr.add _ _).block≠_;rw [add_block];exact Nat.ne_of_lt (Nat.lt_of_lt_of_le (by have:=World.block_lt_of_cell? _ _ hw145_0;first|rwa [add_block] at this|exact this) a2.out))|(dsimp only;exact Nat.ne_of_lt (Nat.lt_of_lt_of_le (by have:=World.block_lt_of_cell? _ _ hw145_0;first|rwa [add_block] at this|exact this) a2.out))) _).trans (((cell_far (p:=⟨a5,_,none⟩) (by first|exact Nat.ne_of_lt (Nat.lt_of_lt_of_le (by have:=World.block_lt_of_cell? _ _ hw145_0;first|rwa [add_block] at this|exact this) a2.out)|(rw [add_block];exact Nat.ne_of_lt (Nat.lt_of_lt_of_le (by have:=World.block_lt_of_cell? _ _ hw145_0;first|rwa [add_block] at this|exact this) a2.out))|(show (Addr.add _ _).block≠_;rw [add_block];exact Nat.ne_of_lt (Nat.lt_of_lt_of_le (by have:=World.block_lt_of_cell? _ _ hw145_0;first|rwa [add_block] at this|exact this) a2.out))|(dsimp only;exact Nat.ne_of_lt (Nat.lt_of_lt_of_le (by have:=World.block_lt_of_cell? _ _ hw145_0;first|rwa [add_block] at this|exact this) a2.out))) _).trans (((cell_far (p:=⟨a5,_,none⟩) (by first|exact Nat.ne_of_lt (Nat.lt_of_lt_of_le (by have:=World.block_lt_of_cell? _ _ hw145_0;first|rwa [add_block] at this|exact this) a2.out)|(rw [add_block];exact Nat.ne_of_lt (Nat.lt_of_lt_of_le (by have:=World.block_lt_of_cell? _ _ hw145_0;first|rwa [add_block] at this|exact this) a2.out))|(show (Addr.add _ _).block≠_;rw [add_block];exact Nat.ne_of_lt (Nat.lt_of_lt_of_le (by have:=World.block_lt_of_cell? _ _ hw145_0;first|rwa [add_block] at this|exact this) a2.out))|(dsimp only;exact Nat.ne_of_lt (Nat.lt_of_lt_of_le (by have:=World.block_lt_of_cell? _ _ hw145_0;first|rwa [add_block] at this|exact this) a2.out))) _).trans (hHeld.2.2.2.2.1)))))),((cell_far (p:=⟨a5,_,none⟩) (by first|exact Nat.ne_of_lt (Nat.lt_of_lt_of_le (by have:=World.block_lt_of_cell? _ _ hw145_1;first|rwa [add_block] at this|exact this) a2.out)|(rw [add_block];exact Nat.ne_of_lt (Nat.lt_of_lt_of_le (by have:=World.block_lt_of_cell? _ _ hw145_1;first|rwa [add_block] at this|exact this) a2.out))|(show (Addr.add _ _).block≠_;rw [add_block];exact Nat.ne_of_lt (Nat.lt_of_lt_of_le (by have:=World.block_lt_of_cell? _ _ hw145_1;first|rwa [add_block] at this|exact this) a2.out))|(dsimp only;exact Nat.ne_of_lt (Nat.lt_of_lt_of_le (by have:=World.block_lt_of_cell? _ _ hw145_1;first|rwa [add_block] at this|exact this) a2.out))) _).trans (((cell_far (p:=⟨a5,_,none⟩) (by first|exact Nat.ne_of_lt (Nat.lt_of_lt_of_le (by have:=World.block_lt_of_cell? _ _ hw145_1;first|rwa [add_block] at this|exact this) a2.out)|(rw [add_block];exact Nat.ne_of_lt (Nat.lt_of_lt_of_le (by have:=World.block_lt_of_cell? _ _ hw145_1;first|rwa [add_block] at this|exact this) a2.out))|(show (Addr.add _ _).block≠_;rw [add_block];exact Nat.ne_of_lt (Nat.lt_of_lt_of_le (by have:=World.block_lt_of_cell? _ _ hw145_1;first|rwa [add_block] at this|exact this) a2.out))|(dsimp only;exact Nat.ne_of_lt (Nat.lt_of_lt_of_le (by have:=World.block_lt_of_cell? _ _ hw145_1;first|rwa [add_block] at this|exact this) a2.out))) _).trans (((cell_far (p:=⟨a5,_,none⟩) (by first|exact Nat.ne_of_lt (Nat.lt_of_lt_of_le (by have:=World.block_lt_of_cell? _ _ hw145_1;first|rwa [add_block] at this|exact this) a2.out)|(rw [add_block];exact Nat.ne_of_lt (Nat.lt_of_lt_of_le (by have:=World.block_lt_of_cell? _ _ hw145_1;first|rwa [add_block] at this|exact this) a2.out))|(show (Addr.add _ _).block≠_;rw [add_block];exact Nat.ne_of_lt (Nat.lt_of_lt_of_le (by have:=World.block_lt_of_cell? _ _ hw145_1;first|rwa [add_block] at this|exact this) a2.out))|(dsimp only;exact Nat.ne_of_lt (Nat.lt_of_lt_of_le (by have:=World.block_lt_of_cell? _ _ hw145_1;first|rwa [add_block] at this|exact this) a2.out))) _).trans (hHeld.2.2.2.2.2.1)))))),((cell_far (p:=⟨a5,_,none⟩) (by first|exact Nat.ne_of_lt (Nat.lt_of_lt_of_le (by have:=World.block_lt_of_cell? _ _ hw145_2;first|rwa [add_block] at this|exact this) a2.out)|(rw [add_block];exact Nat.ne_of_lt (Nat.lt_of_lt_of_le (by have:=World.block_lt_of_cell? _ _ hw145_2;first|rwa [add_block] at this|exact this) a2.out))|(show (Addr.add _ _).block≠_;rw [add_block];exact Nat.ne_of_lt (Nat.lt_of_lt_of_le (by have:=World.block_lt_of_cell? _ _ hw145_2;first|rwa [add_block] at this|exact this) a2.out))|(dsimp only;exact Nat.ne_of_lt (Nat.lt_of_lt_of_le (by have:=World.block_lt_of_cell? _ _ hw145_2;first|rwa [add_block] at this|exact this) a2.out))) _).trans (((cell_far (p:=⟨a5,_,none⟩) (by first|exact Nat.ne_of_lt (Nat.lt_of_lt_of_le (by have:=World.block_lt_of_cell? _ _ hw145_2;first|rwa [add_block] at this|exact this) a2.out)|(rw [add_block];exact Nat.ne_of_lt (Nat.lt_of_lt_of_le (by have:=World.block_lt_of_cell? _ _ hw145_2;first|rwa [add_block] at this|exact this) a2.out))|(show (Addr.add _ _).block≠_;rw [add_block];exact Nat.ne_of_lt (Nat.lt_of_lt_of_le (by have:=World.block_lt_of_cell? _ _ hw145_2;first|rwa [add_block] at this|exact this) a2.out))|(dsimp only;exact Nat.ne_of_lt (Nat.lt_of_lt_of_le (by have:=World.block_lt_of_cell? _ _ hw145_2;first|rwa [add_block] at this|exact this) a2.out))) _).trans (((cell_far (p:=⟨a5,_,none⟩) (by first|exact Nat.ne_of_lt (Nat.lt_of_lt_of_le (by have:=World.block_lt_of_cell? _ _ hw145_2;first|rwa [add_block] at this|exact this) a2.out)|(rw [add_block];exact Nat.ne_of_lt (Nat.lt_of_lt_of_le (by have:=World.block_lt_of_cell? _ _ hw145_2;first|rwa [add_block] at this|exact this) a2.out))|(show (Addr.add _ _).block≠_;rw [add_block];exact Nat.ne_of_lt (Nat.lt_of_lt_of_le (by have:=World.block_lt_of_cell? _ _ hw145_2;first|rwa [add_block] at this|exact this) a2.out))|(dsimp only;exact Nat.ne_of_lt (Nat.lt_of_lt_of_le (by have:=World.block_lt_of_cell? _ _ hw145_2;first|rwa [add_block] at this|exact this) a2.out))) _).trans (hHeld.2.2.2.2.2.2))))))⟩ (fun hHeld => ?_)
      clear hK K;refine done_ (done_of HT_.out (by kernel_rfl)) ?_
      try go_wp2
      refine bodyPost_ret (results_cell_row rfl _ _ a5 46 #[.bool true,.string ((rd_T55 a4 a3).f1),.bool ((rd_T55 a4 a3).f2)] (0,0) _ rfl (bp a8.out) Tryd.underlying46 rfl (by kernel_rfl)) rfl ?_;exact ⟨Ye2,(bf HB.out)⟩
     ·rw [if_neg c7] at H
      have aB:(((rd_T55 a4 a3).f0).toList==a1.toList)=false:=beq_eq_false_iff_ne.mpr c7;have aC:(((rd_T55 a4 a3).f0).toList != a1.toList)=true:=bne_iff_ne.mpr c7;have H':=Aside0.mk H;clear H;have hnb14:=a9.out;have hnc14:=ag.out;have ⟨aO,aP⟩:=Yc1 a6.out;have aa:0≤(a3:Int):=oda;have ab:a3<(a4.length:Int):=oda;obtain ⟨a7,aq,aD,aE,aF⟩:=at_T55 (Kd.C_below af.out HB.out) a3 aa ab
      cases aq
      replace aa:=eq_true aa;replace ab:=eq_true ab
      go_wp2
      go_roundg k1
      case measure=>have:=HK1.out;omega
      case rel=>exact ⟨(wrap64 (a3+1)),(an),(ao),(ap),Ye1,H',⟨by have:=HK1.out;omega⟩,⟨bk a6.out⟩,⟨bk a8.out⟩,⟨bf HB.out⟩⟩
    ·rw [if_neg c6] at H
     exact absurd H (by simp)
   ·rw [if_neg c5] at H
    have aA:decide (a3<(a4.length:Int))=false:=decide_eq_false c5;clear c5;simp only [Option.some.injEq,Prod.mk.injEq] at H;obtain ⟨rfl,rfl,rfl⟩:=H;have hnb16:=a9.out;have hnc16:=ag.out;have ⟨aQ,aR⟩:=Yc1 a6.out;have ⟨aS,aT,aU,aV,aW,aX⟩:=Yc3 a8.out
    go_wp2
    refine bodyPost_ret (results_cell_row rfl _ _ a5 46 #[.bool false,.string (⟨#[]⟩:ByteArray),.bool false] (0,0) _ rfl (bp a8.out) Tryd.underlying46 rfl (by kernel_rfl)) rfl ?_;exact ⟨Ye2,(bf HB.out)⟩

end Go.Proofs.YthfpoacindblgaaDoor.P


namespace Go.Proofs.YthfpoacindblgaaDoor.P
open Go.RowKit Go.Proofs.YthfpoacindblgaaDoorW.PrintWords Go.Proofs.YthfpoacindblgaaDoorW.PrintLast Go.Proofs.YthfpoacindblgaaDoorW.PrintMore
attribute [local go_sem] max2_int min2_int max_two min_two max_three min_three max_four min_four
set_option linter.unusedVariables false
set_option linter.unusedSimpArgs false

mutual
def spec_l6Name.l0:Nat→List ByteArray→ByteArray→List ByteArray→Bool→Int→Option (List ByteArray)
 | 0,_,_,_,_,_=>none
 | k+1,x0,x1,x5,x6,x7=>if x7<(x0.length:Int) then (if x6=true then (spec_l6Name.j1 k x0 x1 x5 x6 x7 false) else (if 0≤x7 then (spec_l6Name.j1 k x0 x1 x5 x6 x7 (!(Op.bytesLess ((rdOf ByteArray.empty x0 x7).toList) x1.toList))) else (none))) else (if x6=true then (some x5) else (if x5.length<8796093022208 then (some (x5 ++ [x1])) else (none)))
def spec_l6Name.j1:Nat→List ByteArray→ByteArray→List ByteArray→Bool→Int→Bool→Option (List ByteArray)
 | 0,_,_,_,_,_,_=>none
 | k+1,x0,x1,x5,x6,x7,x24=>if x24=true then (if x5.length<8796093022208 then ((some (x5 ++ [x1]:List ByteArray)).bind fun a5=>(if 0≤x7 then (if x7<(x0.length:Int) then (if (rdOf ByteArray.empty x0 x7).toList=x1.toList then (spec_l6Name.l0 k x0 x1 a5 true (wrap64 (x7+1))) else (if a5.length<8796093022208 then (spec_l6Name.l0 k x0 x1 (a5 ++ [rdOf ByteArray.empty x0 x7]) true (wrap64 (x7+1))) else (none))) else (none)) else (none))) else (none)) else (if 0≤x7 then (if x7<(x0.length:Int) then (if (rdOf ByteArray.empty x0 x7).toList=x1.toList then (spec_l6Name.l0 k x0 x1 x5 x6 (wrap64 (x7+1))) else (if x5.length<8796093022208 then (spec_l6Name.l0 k x0 x1 (x5 ++ [rdOf ByteArray.empty x0 x7]) x6 (wrap64 (x7+1))) else (none))) else (none)) else (none))
end
def spec_l6Name.f (k:Nat) (l0:List ByteArray) (a1:ByteArray):Option (List ByteArray):=spec_l6Name.l0 k l0 a1 (([]:List ByteArray)) false 0
theorem spec_l6Name.mono_l:∀ k,(∀ y0 y1 y2 y3 y4,LeO (spec_l6Name.l0 k y0 y1 y2 y3 y4) (spec_l6Name.l0 (k+1) y0 y1 y2 y3 y4))∧(∀ y0 y1 y2 y3 y4 y5,LeO (spec_l6Name.j1 k y0 y1 y2 y3 y4 y5) (spec_l6Name.j1 (k+1) y0 y1 y2 y3 y4 y5))
 | 0=>⟨fun _ _ _ _ _ r h=>by simp [spec_l6Name.l0] at h,fun _ _ _ _ _ _ r h=>by simp [spec_l6Name.j1] at h⟩
 | k + 1 => by
  obtain ⟨ih0,ih1⟩:=spec_l6Name.mono_l k;refine ⟨?_,?_⟩
  ·intro y0 y1 y2 y3 y4
   unfold spec_l6Name.l0
   exact mo2 ih0 ih1
  ·intro y0 y1 y2 y3 y4 y5
   unfold spec_l6Name.j1
   exact mo2 ih0 ih1
theorem spec_l6Name.mono:∀ a0 a1 k,LeO (spec_l6Name.f k a0 a1) (spec_l6Name.f (k+1) a0 a1):=by
 intro a0 a1 k;obtain ⟨ih0,ih1⟩:=spec_l6Name.mono_l k
 unfold spec_l6Name.f
 exact mo2 ih0 ih1
set_option maxHeartbeats 8000000 in
set_option maxRecDepth 100000 in
theorem spec_l6Name.calls (k : Nat) (A0 : Option Addr) (c0 : Nat) (l0 : List ByteArray) (a1 : ByteArray) (r : List ByteArray) (w : World) (hr0 : Kd.C Kd.string w A0 l0.length l0) (hc0 : l0.length ≤ c0) (h : spec_l6Name.f k l0 a1 = some r) :
  Calls Tryd.prog 35 #[.slice A0 l0.length c0,.string a1] w fun e w' => ∃ v0_:Value,e = .returned (v0_)∧Kd.R Kd.string 9 w' w.heap.size (fun _=>True) v0_ r∧Below w.heap.size w w':=by
 have a7:=Aside0.mk hr0;have HC0:=Aside0.mk hc0;clear hr0 hc0;have HB:=Aside0.mk (Below.refl w.heap.size w);have H:(spec_l6Name.l0 k l0 a1 (([]:List ByteArray)) false 0)=some r:=h;clear h
 obtain ⟨aW,af⟩:∃ y_:List ByteArray,y_=(([]:List ByteArray)):=⟨_,rfl⟩
 (first|replace H:=bl_ af H|rw [←af] at H);(try dsimp only at H);have aJ:=Aside0.mk af;clear af;have H':=Aside0.mk H;clear H
 go_enter Tryd.func35,Tryd.ntmps35
 go_wp2_with (first|((with_reducible refine gd 8 rfl ?_);refine Kd.R_lit Kd.string _ 9 ?hg (N:=8) ?hd (xs:=([]:List ByteArray)) (inner:=[]) (ok:=fun _=>True) (okp:=fun _=>True) ?hr ?hp (fun _ hk=>hk) trivial (Below.refl _ _) (Nat.le_refl _) (by simp) ?_;(case hd=>rfl);(case hg=>rfl);(case hr=>first|(go_simp;done)|(go_simp;rfl));(case hp=>exact (Reps.none _ _));intro v147 w3 ho4 hb hg_ hnew_;clear hg_ hnew_;(first|rw [←aJ.out] at ho4|(simp only [Int.reduceToNat] at ho4;rw [←aJ.out] at ho4));refine Ya2 (Kd.R_lower ho4 (below_size (be HB.out))) (below_step (be HB.out) hb) ?_;clear HB;intro aX HB;clear hb ho4))
 go_loopg [5,6,7] k (fun kq v5 v6 v7 w' => ∃ (a3:List ByteArray) (a6:Bool) (a2:Int),v6 = .bool a6∧v7 = .int .i64 a2∧Aside0 (spec_l6Name.l0 kq l0 a1 a3 a6 a2=some r)∧Aside0 (kq≤k)∧Aside0 (Kd.R Kd.string 9 w' w.heap.size (fun _=>True) v5 a3)∧Aside0 (Below w.heap.size w w'))
 case atStart=>exact ⟨(aW),(false),(0),Ye1,Ye1,H',⟨Nat.le_refl _⟩,⟨kr aX.out⟩,⟨be HB.out⟩⟩
 case round =>
  clear H';(try clear p2);(try clear c3);obtain ⟨a3,a6,a2,rfl,rfl,HA,HK1,a4,HB⟩:=hrel
  cases gk with
  | zero=>exact absurd HA.out (by simp [spec_l6Name.l0])
  | succ k1 =>
   have H:=HA.out;clear HA;simp only [spec_l6Name.l0] at H
   by_cases c5:a2<(l0.length:Int)
   ·rw [if_pos c5] at H
    have aK:decide (a2<(l0.length:Int))=true:=decide_eq_true c5;clear c5;have az:=Aside0.mk H;clear H
    go_upto_region 6 with (fail)
    go_cut [24] (fun v24 wc => ∃ (kq:Nat) (ag:Bool),v24 = .bool ag∧Aside0 (spec_l6Name.j1 kq l0 a1 a3 a6 a2 ag=some r)∧Aside0 (kq≤k1)∧Aside0 (Kd.R Kd.string 9 wc w.heap.size (fun _=>True) u5 a3)∧Aside0 (Below w.heap.size w wc))
    case first =>
     have H:=az.out;clear az
     by_cases c7:a6=true
     ·subst c7
      rw [if_pos rfl] at H
      have H':=Aside0.mk H;clear H
      go_wp2
      go_meet
      case rel=>exact ⟨_,(false),Ye1,H',⟨by have:=HK1.out;first|omega|exact Nat.le_refl _⟩,⟨kr a4.out⟩,⟨be HB.out⟩⟩
     ·replace c7:=Bool.eq_false_iff.mpr c7;subst c7
      rw [if_neg (show ¬(false=true) by decide)] at H
      by_cases c8:0≤a2
      ·rw [if_pos c8] at H
       have aA:decide (0≤a2)=true:=decide_eq_true c8;clear c8;(first|rw [aA]|(simp only [i64_w,i32_w];rw [aA])|skip);have H':=Aside0.mk H;clear H;have ah:0≤(a2:Int):=oda;have ai:a2<(l0.length:Int):=oda;obtain ⟨ad152,aY,aZ⟩:=Kd.at_string (Kd.C_below a7.out HB.out) a2 ah ai
       cases aY
       replace ah:=eq_true ah;replace ai:=eq_true ai
       go_wp2
       go_meet
       case rel=>exact ⟨_,(!(Op.bytesLess ((rdOf ByteArray.empty l0 a2).toList) a1.toList)),Ye1,H',⟨by have:=HK1.out;first|omega|exact Nat.le_refl _⟩,⟨kr a4.out⟩,⟨be HB.out⟩⟩
      ·rw [if_neg c8] at H
       exact absurd H (by simp)
    case rest =>
     clear az;(try clear p1);(try clear q1);(try clear hx1);(try clear p2);(try clear c3);(try clear c5);(try clear aK);(try clear c7);(try clear c8);(try clear aA);(try clear aZ);(try clear ah);(try clear p2);(try clear ai);obtain ⟨kq,ag,rfl,HA,HJ5,a4,HB⟩:=hcut
     cases kq with
     | zero=>exact absurd HA.out (by simp [spec_l6Name.j1])
     | succ aj =>
      have H:=HA.out;clear HA;simp only [spec_l6Name.j1] at H
      by_cases c9:ag=true
      ·subst c9
       rw [if_pos rfl] at H
       by_cases c10:a3.length<8796093022208
       ·rw [if_pos c10] at H
        have aM:=Aside0.mk c10;clear c10
        obtain ⟨a5,ak⟩:∃ y_:List ByteArray,y_=(a3 ++ [a1]):=⟨_,rfl⟩
        (first|replace H:=bl_ ak H|rw [←ak] at H);(try dsimp only at H);have aN:=Aside0.mk ak;clear ak
        by_cases al:0≤a2
        ·rw [if_pos al] at H
         have c11b0:decide (0≤a2)=true:=decide_eq_true al;clear al
         by_cases am:a2<(l0.length:Int)
         ·rw [if_pos am] at H
          have c12b0:decide (a2<(l0.length:Int))=true:=decide_eq_true am;clear am
          by_cases a8:(rdOf ByteArray.empty l0 a2).toList=a1.toList
          ·rw [if_pos a8] at H
           have b0:((rdOf ByteArray.empty l0 a2).toList==a1.toList)=true:=beq_iff_eq.mpr a8;have b1:((rdOf ByteArray.empty l0 a2).toList != a1.toList)=false:=bne_eq_false_iff_eq.mpr a8;clear a8;have H':=Aside0.mk H;clear H
           go_wp2_with (first|((with_reducible refine gate_builtin (b:=.append) (xs:=#[.tmp 25,.tmp 27]) rfl ?_);at_builtin;refine Kd.R_append Kd.string (w0:=w) w.heap.size rfl (.tmp 25) (.tmp 27) 26 9 (.string ⟨#[]⟩) 16 rfl Tryd.underlying26 info9 rfl (by decide) (by omega) u5 a3 a1 [.string a1] (fun _=>True) (fun _=>False) rfl rfl ?aP (fun _ hk=>hk.elim) ?aF ?aO ?aB ?aS ?aL ?_;(case aP=>exact rfl);(case aB=>exact (be HB.out));(case aF=>exact (fun _ _=>trivial));(case aO=>exact (kr a4.out));(case aS=>exact (below_size (be HB.out)));(case aL=>have:=aM.out;omega);intro aQ w14 ho hb hg hat;rw [←aN.out] at ho;refine Ya2 (hb) (ho) ?_;clear HB a4;intro HB an;clear ho hb hg hat;have a9:0≤(a2:Int):=oda;have aa:a2<(l0.length:Int):=oda;obtain ⟨aR,aC,ae⟩:=Kd.at_string a7.out a2 a9 aa;cases aC;replace ae:=pw_cell_below HB.out ae;replace a9:=eq_true a9;replace aa:=eq_true aa))
           go_roundg aj
           case measure=>have:=HK1.out;have:=HJ5.out;omega
           case rel=>exact ⟨(a5),(true),(wrap64 (a2+1)),Ye1,Ye1,H',⟨by have:=HK1.out;have:=HJ5.out;omega⟩,⟨kr an.out⟩,⟨be HB.out⟩⟩
          ·rw [if_neg a8] at H
           have b0:((rdOf ByteArray.empty l0 a2).toList==a1.toList)=false:=beq_eq_false_iff_ne.mpr a8;have b1:((rdOf ByteArray.empty l0 a2).toList != a1.toList)=true:=bne_iff_ne.mpr a8
           by_cases ao:a5.length<8796093022208
           ·rw [if_pos ao] at H
            have b2:=Aside0.mk ao;clear ao
            obtain ⟨b3,ap⟩:∃ y_:List ByteArray,y_=(a5 ++ [rdOf ByteArray.empty l0 a2]):=⟨_,rfl⟩
            (first|replace H:=bl_ ap H|rw [←ap] at H);(try dsimp only at H);have b4:=Aside0.mk ap;clear ap;have H':=Aside0.mk H;clear H
            go_wp2_with (first|((with_reducible refine gate_builtin (b:=.append) (xs:=#[.tmp 25,.tmp 27]) rfl ?_);at_builtin;refine Kd.R_append Kd.string (w0:=w) w.heap.size rfl (.tmp 25) (.tmp 27) 26 9 (.string ⟨#[]⟩) 16 rfl Tryd.underlying26 info9 rfl (by decide) (by omega) u5 a3 a1 [.string a1] (fun _=>True) (fun _=>False) rfl rfl ?aP (fun _ hk=>hk.elim) ?aF ?aO ?aB ?aS ?aL ?_;(case aP=>exact rfl);(case aB=>exact (be HB.out));(case aF=>exact (fun _ _=>trivial));(case aO=>exact (kr a4.out));(case aS=>exact (below_size (be HB.out)));(case aL=>have:=aM.out;omega);intro aQ w16 ho hb hg hat;rw [←aN.out] at ho;refine Ya2 (hb) (ho) ?_;clear HB a4;intro HB an;clear ho hb hg hat;have a9:0≤(a2:Int):=oda;have aa:a2<(l0.length:Int):=oda;obtain ⟨aR,aC,ae⟩:=Kd.at_string a7.out a2 a9 aa;cases aC;replace ae:=pw_cell_below HB.out ae;replace a9:=eq_true a9;replace aa:=eq_true aa;have aD:0≤(a2:Int):=oda;have aE:a2<(l0.length:Int):=oda;obtain ⟨b5,b6,aT⟩:=Kd.at_string a7.out a2 aD aE;obtain rfl:aR=b5:=(by injection b6);replace aT:=pw_cell_below HB.out aT;replace aD:=eq_true aD;replace aE:=eq_true aE)|((with_reducible refine gate_builtin (b:=.append) (xs:=#[.tmp 35,.tmp 40]) rfl ?_);at_builtin;refine Kd.R_append Kd.string (w0:=w) w.heap.size rfl (.tmp 35) (.tmp 40) 26 9 (.string ⟨#[]⟩) 16 rfl Tryd.underlying26 info9 rfl (by decide) (by omega) aQ a5 (rdOf ByteArray.empty l0 a2) [.string (rdOf ByteArray.empty l0 a2)] (fun _=>True) (fun _=>False) rfl rfl ?aP (fun _ hk=>hk.elim) ?aF ?aO ?aB ?aS ?aL ?_;(case aP=>exact rfl);(case aB=>exact (be HB.out));(case aF=>exact (fun _ _=>trivial));(case aO=>exact (kr an.out));(case aS=>exact (below_size (be HB.out)));(case aL=>have:=b2.out;omega);intro v159 w17 ho hb hg hat;rw [←b4.out] at ho;refine Ya2 (hb) (ho) ?_;clear HB an;intro HB b7;clear ho hb hg hat))
            go_roundg aj
            case measure=>have:=HK1.out;have:=HJ5.out;omega
            case rel=>exact ⟨(b3),(true),(wrap64 (a2+1)),Ye1,Ye1,H',⟨by have:=HK1.out;have:=HJ5.out;omega⟩,⟨kr b7.out⟩,⟨be HB.out⟩⟩
           ·rw [if_neg ao] at H
            exact absurd H (by simp)
         ·rw [if_neg am] at H
          exact absurd H (by simp)
        ·rw [if_neg al] at H
         exact absurd H (by simp)
       ·rw [if_neg c10] at H
        exact absurd H (by simp)
      ·replace c9:=Bool.eq_false_iff.mpr c9;subst c9
       rw [if_neg (show ¬(false=true) by decide)] at H
       by_cases aq:0≤a2
       ·rw [if_pos aq] at H
        have c18b0:decide (0≤a2)=true:=decide_eq_true aq;clear aq
        by_cases ar:a2<(l0.length:Int)
        ·rw [if_pos ar] at H
         have c19b0:decide (a2<(l0.length:Int))=true:=decide_eq_true ar;clear ar
         by_cases ab:(rdOf ByteArray.empty l0 a2).toList=a1.toList
         ·rw [if_pos ab] at H
          have b8:((rdOf ByteArray.empty l0 a2).toList==a1.toList)=true:=beq_iff_eq.mpr ab;have b9:((rdOf ByteArray.empty l0 a2).toList != a1.toList)=false:=bne_eq_false_iff_eq.mpr ab;clear ab;have H':=Aside0.mk H;clear H;have ac:0≤(a2:Int):=oda;have ad:a2<(l0.length:Int):=oda;obtain ⟨aU,aG,ba⟩:=Kd.at_string (Kd.C_below a7.out HB.out) a2 ac ad
          cases aG
          replace ac:=eq_true ac;replace ad:=eq_true ad
          go_wp2
          go_roundg aj
          case measure=>have:=HK1.out;have:=HJ5.out;omega
          case rel=>exact ⟨(a3),(a6),(wrap64 (a2+1)),Ye1,Ye1,H',⟨by have:=HK1.out;have:=HJ5.out;omega⟩,⟨kr a4.out⟩,⟨be HB.out⟩⟩
         ·rw [if_neg ab] at H
          have b8:((rdOf ByteArray.empty l0 a2).toList==a1.toList)=false:=beq_eq_false_iff_ne.mpr ab;have b9:((rdOf ByteArray.empty l0 a2).toList != a1.toList)=true:=bne_iff_ne.mpr ab
          by_cases au:a3.length<8796093022208
          ·rw [if_pos au] at H
           have bd:=Aside0.mk au;clear au
           obtain ⟨bg,av⟩:∃ y_:List ByteArray,y_=(a3 ++ [rdOf ByteArray.empty l0 a2]):=⟨_,rfl⟩
           (first|replace H:=bl_ av H|rw [←av] at H);(try dsimp only at H);have bh:=Aside0.mk av;clear av;have H':=Aside0.mk H;clear H;have ac:0≤(a2:Int):=oda;have ad:a2<(l0.length:Int):=oda;obtain ⟨aU,aG,ba⟩:=Kd.at_string (Kd.C_below a7.out HB.out) a2 ac ad
           cases aG
           replace ac:=eq_true ac;replace ad:=eq_true ad;have aH:0≤(a2:Int):=oda;have aI:a2<(l0.length:Int):=oda;obtain ⟨bi,bj,aV⟩:=Kd.at_string a7.out a2 aH aI
           obtain rfl:aU=bi:=(by injection bj)
           replace aV:=pw_cell_below HB.out aV;replace aH:=eq_true aH;replace aI:=eq_true aI
           go_wp2_with (first|((with_reducible refine gate_builtin (b:=.append) (xs:=#[.tmp 35,.tmp 40]) rfl ?_);at_builtin;refine Kd.R_append Kd.string (w0:=w) w.heap.size rfl (.tmp 35) (.tmp 40) 26 9 (.string ⟨#[]⟩) 16 rfl Tryd.underlying26 info9 rfl (by decide) (by omega) u5 a3 (rdOf ByteArray.empty l0 a2) [.string (rdOf ByteArray.empty l0 a2)] (fun _=>True) (fun _=>False) rfl rfl ?aP (fun _ hk=>hk.elim) ?aF ?aO ?aB ?aS ?aL ?_;(case aP=>exact rfl);(case aB=>exact (be HB.out));(case aF=>exact (fun _ _=>trivial));(case aO=>exact (kr a4.out));(case aS=>exact (below_size (be HB.out)));(case aL=>have:=bd.out;omega);intro v164 w22 ho hb hg hat;rw [←bh.out] at ho;refine Ya2 (hb) (ho) ?_;clear HB a4;intro HB bm;clear ho hb hg hat))
           go_roundg aj
           case measure=>have:=HK1.out;have:=HJ5.out;omega
           case rel=>exact ⟨(bg),(a6),(wrap64 (a2+1)),Ye1,Ye1,H',⟨by have:=HK1.out;have:=HJ5.out;omega⟩,⟨kr bm.out⟩,⟨be HB.out⟩⟩
          ·rw [if_neg au] at H
           exact absurd H (by simp)
        ·rw [if_neg ar] at H
         exact absurd H (by simp)
       ·rw [if_neg aq] at H
        exact absurd H (by simp)
   ·rw [if_neg c5] at H
    have aK:decide (a2<(l0.length:Int))=false:=decide_eq_false c5;clear c5
    by_cases aw:a6=true
    ·subst aw
     rw [if_pos rfl] at H
     obtain rfl:=Option.some.inj H
     go_wp2
     go_ret
     exact ⟨_,Ye2,kr a4.out,be HB.out⟩
    ·replace aw:=Bool.eq_false_iff.mpr aw;subst aw
     rw [if_neg (show ¬(false=true) by decide)] at H
     by_cases ax:a3.length<8796093022208
     ·rw [if_pos ax] at H
      have bn:=Aside0.mk ax;clear ax
      obtain ⟨y149,ay⟩:∃ y_:List ByteArray,y_=(a3 ++ [a1]):=⟨_,rfl⟩
      (first|replace H:=bl_ ay H|rw [←ay] at H);(try dsimp only at H);have bo:=Aside0.mk ay;clear ay;obtain rfl:=Option.some.inj H
      go_wp2_with (first|((with_reducible refine gate_builtin (b:=.append) (xs:=#[.tmp 44,.tmp 46]) rfl ?_);at_builtin;refine Kd.R_append Kd.string (w0:=w) w.heap.size rfl (.tmp 44) (.tmp 46) 26 9 (.string ⟨#[]⟩) 16 rfl Tryd.underlying26 info9 rfl (by decide) (by omega) u5 a3 a1 [.string a1] (fun _=>True) (fun _=>False) rfl rfl ?aP (fun _ hk=>hk.elim) ?aF ?aO ?aB ?aS ?aL ?_;(case aP=>exact rfl);(case aB=>exact (be HB.out));(case aF=>exact (fun _ _=>trivial));(case aO=>exact (kr a4.out));(case aS=>exact (below_size (be HB.out)));(case aL=>have:=bn.out;omega);intro v150 w25 ho hb hg hat;rw [←bo.out] at ho;refine Ya2 (hb) (ho) ?_;clear HB a4;intro HB bq;clear ho hb hg hat))
      go_ret
      exact ⟨_,Ye2,kr bq.out,be HB.out⟩
     ·rw [if_neg ax] at H
      exact absurd H (by simp)

end Go.Proofs.YthfpoacindblgaaDoor.P


namespace Go.Proofs.YthfpoacindblgaaDoor.P
open Go.RowKit Go.Proofs.YthfpoacindblgaaDoorW.PrintWords Go.Proofs.YthfpoacindblgaaDoorW.PrintLast Go.Proofs.YthfpoacindblgaaDoorW.PrintMore
attribute [local go_sem] max2_int min2_int max_two min_two max_three min_three max_four min_four
set_option linter.unusedVariables false
set_option linter.unusedSimpArgs false

def spec_l9Hex.l0:Nat→ByteArray→ByteArray→List Int→Int→Option (ByteArray)
 | 0,_,_,_,_=>none
 | k+1,x0,x3,x4,x5=>if x5<(x0.size:Int) then (if 0≤x5 then (if 0≤((Int.tdiv (bt x0 x5) 16) % 256) then (if ((Int.tdiv (bt x0 x5) 16) % 256)<(x3.size:Int) then (if 0≤(Int.tmod (bt x0 x5) 16) then (if (Int.tmod (bt x0 x5) 16)<(x3.size:Int) then ((some (([bt x3 ((Int.tdiv (bt x0 x5) 16) % 256),bt x3 (Int.tmod (bt x0 x5) 16)]:List Int):List Int)).bind fun a5=>(if x4.length+a5.length<140737488355328 then (spec_l9Hex.l0 k x0 x3 (x4++a5) (wrap64 (x5+1))) else (none))) else (none)) else (none)) else (none)) else (none)) else (none)) else (some (strOfNums x4))
def spec_l9Hex.f (k:Nat) (a0:ByteArray):Option (ByteArray):=spec_l9Hex.l0 k a0 (⟨#[48,49,50,51,52,53,54,55,56,57,97,98,99,100,101,102]⟩:ByteArray) (([]:List Int)) 0
theorem spec_l9Hex.mono_l:∀ k,(∀ y0 y1 y2 y3,LeO (spec_l9Hex.l0 k y0 y1 y2 y3) (spec_l9Hex.l0 (k+1) y0 y1 y2 y3))
 | 0=>fun _ _ _ _ r h=>by simp [spec_l9Hex.l0] at h
 | k + 1 => by
  have ih0:=spec_l9Hex.mono_l k
  ·intro y0 y1 y2 y3
   unfold spec_l9Hex.l0
   exact mo1 ih0
theorem spec_l9Hex.mono:∀ a0 k,LeO (spec_l9Hex.f k a0) (spec_l9Hex.f (k+1) a0):=by
 intro a0 k;have ih0:=spec_l9Hex.mono_l k
 unfold spec_l9Hex.f
 exact mo1 ih0
def spec_l9Hex.T6:Bool×List (List Nat×List Nat):=(true,[([],[]),([],[]),([],[]),([],[]),([2,3],[2,3]),([4],[4]),([1,5],[1,5]),([],[]),([],[]),([],[]),([8,9],[8,9]),([10],[10]),([7,11],[7,11]),([6,12],[6,12]),([0,13],[0,13]),([14,14,0,1,2,3,4,5,6,7,8,9,10,11,12,13,14],[0,14])])
def spec_l9Hex.B6:List Nat:=[0,0,0,0,12,28,62,0,0,0,768,1792,3968,8190,16383,32767]
theorem spec_l9Hex.tab6:rtab .any (opsOf Tryd.f36 6)=spec_l9Hex.T6:=by kernel_rfl
theorem spec_l9Hex.bits6:waitsOk spec_l9Hex.T6.2 spec_l9Hex.B6=true:=by kernel_rfl
set_option maxHeartbeats 8000000 in
set_option maxRecDepth 100000 in
theorem spec_l9Hex.calls (k : Nat) (a0 : ByteArray) (r : ByteArray) (w : World) (h : spec_l9Hex.f k a0 = some r) :
  Calls Tryd.prog 36 #[.string a0] w fun e w'=>e = .returned (.string r)∧Below w.heap.size w w':=by
 have HB:=Aside0.mk (Below.refl w.heap.size w);have H:(spec_l9Hex.l0 k a0 (⟨#[48,49,50,51,52,53,54,55,56,57,97,98,99,100,101,102]⟩:ByteArray) (([]:List Int)) 0)=some r:=h;clear h
 obtain ⟨ai,a8⟩:∃ y_:List Int,y_=(([]:List Int)):=⟨_,rfl⟩
 (first|replace H:=bl_ a8 H|rw [←a8] at H);(try dsimp only at H);have ae:=Aside0.mk a8;clear a8;have H':=Aside0.mk H;clear H
 go_enter Tryd.func36,Tryd.ntmps36
 go_wp2_with (first|((with_reducible refine gd 6 rfl ?_);refine Kd.R_lit (Kd.int .u8) _ 5 ?hg (N:=6) ?hd (xs:=([]:List Int)) (inner:=[]) (ok:=fun _=>True) (okp:=fun _=>True) ?hr ?hp (fun _ hk=>hk) trivial (Below.refl _ _) (Nat.le_refl _) (by simp) ?_;(case hd=>rfl);(case hg=>rfl);(case hr=>first|(go_simp;done)|(go_simp;rfl));(case hp=>exact (Reps.none _ _));intro v167 w2 ho3 hb hg_ hnew_;clear hg_ hnew_;(first|rw [←ae.out] at ho3|(simp only [Int.reduceToNat] at ho3;rw [←ae.out] at ho3));refine Ya2 (Kd.R_lower ho3 (below_size (be HB.out))) (below_step (be HB.out) hb) ?_;clear HB;intro aj HB;clear hb ho3))
 go_loopg [4,5] k (fun kq v4 v5 w' => ∃ (a6:List Int) (a1:Int),v5 = .int .i64 a1∧Aside0 (spec_l9Hex.l0 kq a0 (⟨#[48,49,50,51,52,53,54,55,56,57,97,98,99,100,101,102]⟩:ByteArray) a6 a1=some r)∧Aside0 (kq≤k)∧Aside0 (Kd.R (Kd.int .u8) 5 w' w.heap.size (fun _=>True) v4 a6)∧Aside0 (Below w.heap.size w w'))
 case atStart=>exact ⟨(ai),(0),Ye1,H',⟨Nat.le_refl _⟩,⟨kr aj.out⟩,⟨be HB.out⟩⟩
 case round =>
  clear H';(try clear p2);(try clear c3);obtain ⟨a6,a1,rfl,HA,HK1,a4,HB⟩:=hrel
  cases gk with
  | zero=>exact absurd HA.out (by simp [spec_l9Hex.l0])
  | succ k1 =>
   have H:=HA.out;clear HA;simp only [spec_l9Hex.l0] at H
   by_cases c4:a1<(a0.size:Int)
   ·rw [if_pos c4] at H
    have ak:decide (a1<(a0.size:Int))=true:=decide_eq_true c4;clear c4
    by_cases c5:0≤a1
    ·rw [if_pos c5] at H
     have c5b0:decide (0≤a1)=true:=decide_eq_true c5;clear c5
     obtain ⟨a2,af⟩:∃ j_:Int,((Int.tdiv (bt a0 a1) 16) % 256)=j_:=⟨_,rfl⟩
     have hji7w:IntKind.u8.wrap (Int.tdiv (bt a0 a1) 16)=a2:=by rw [←af];simp [IntKind.wrap,IntKind.bits,IntKind.signed]
     rw [af] at H
     by_cases c8:0≤(a2)
     ·rw [if_pos c8] at H
      have c8b0:decide (0≤(a2))=true:=decide_eq_true c8;clear c8
      by_cases c9:(a2)<((⟨#[48,49,50,51,52,53,54,55,56,57,97,98,99,100,101,102]⟩:ByteArray).size:Int)
      ·rw [if_pos c9] at H
       have c9b0:decide ((a2)<((⟨#[48,49,50,51,52,53,54,55,56,57,97,98,99,100,101,102]⟩:ByteArray).size:Int))=true:=decide_eq_true c9;clear c9
       obtain ⟨a3,al⟩:∃ j_:Int,(Int.tmod (bt a0 a1) 16)=j_:=⟨_,rfl⟩
       rw [al] at H
       by_cases a9:0≤(a3)
       ·rw [if_pos a9] at H
        have c13b0:decide (0≤(a3))=true:=decide_eq_true a9;clear a9
        by_cases aa:(a3)<((⟨#[48,49,50,51,52,53,54,55,56,57,97,98,99,100,101,102]⟩:ByteArray).size:Int)
        ·rw [if_pos aa] at H
         have c14b0:decide ((a3)<((⟨#[48,49,50,51,52,53,54,55,56,57,97,98,99,100,101,102]⟩:ByteArray).size:Int))=true:=decide_eq_true aa;clear aa
         obtain ⟨a5,ab⟩:∃ y_:List Int,y_=(([bt (⟨#[48,49,50,51,52,53,54,55,56,57,97,98,99,100,101,102]⟩:ByteArray) (a2),bt (⟨#[48,49,50,51,52,53,54,55,56,57,97,98,99,100,101,102]⟩:ByteArray) (a3)]:List Int)):=⟨_,rfl⟩
         (first|replace H:=bl_ ab H|rw [←ab] at H);(try dsimp only at H);have ag:=Aside0.mk ab;clear ab
         by_cases ac:a6.length+a5.length<140737488355328
         ·rw [if_pos ac] at H
          have am:=Aside0.mk ac;clear ac
          obtain ⟨an,ad⟩:∃ y_:List Int,y_=(a6++a5):=⟨_,rfl⟩
          (first|replace H:=bl_ ad H|rw [←ad] at H);(try dsimp only at H);have ao:=Aside0.mk ad;clear ad;have H':=Aside0.mk H;clear H
          try go_wp2
          refine Ya2 (Kd.R_drew a4.out) (below_drew1 HB.out) ?_;clear a4 HB;intro a4 HB;have p6:0≤(a1:Int):=oda;have q6:a1<(a0.size:Int):=oda;have hx6:=bt_at a0 a1;replace p6:=eq_true p6;replace q6:=eq_true q6;have p10:0≤((a2):Int):=oda;have q10:(a2)<(16:Int):=oda;have hx10:=bt_at (⟨#[48,49,50,51,52,53,54,55,56,57,97,98,99,100,101,102]⟩:ByteArray) (a2);replace p10:=eq_true p10;replace q10:=eq_true q10;have p11:0≤(a1:Int):=oda;have q11:a1<(a0.size:Int):=oda;have hx11:=bt_at a0 a1;replace p11:=eq_true p11;replace q11:=eq_true q11;have p15:0≤((a3):Int):=oda;have q15:(a3)<(16:Int):=oda;have hx15:=bt_at (⟨#[48,49,50,51,52,53,54,55,56,57,97,98,99,100,101,102]⟩:ByteArray) (a3);replace p15:=eq_true p15;replace q15:=eq_true q15;refine start_ (n:=16) (S:=fun w'=>True) (ds:=[]) (fb 16 0) (by kernel_rfl) rfl rfl trivial (fun hHeld => ?_);refine with_tabW spec_l9Hex.tab6 spec_l9Hex.bits6 (fun HT_ HW_ => ?_);generalize wr.drew=w17 at a4 HB hHeld ⊢; refine pu 0 13 (fb 16 1) HT_ ?_;refine pu 1 14 (fb 16 3) HT_ ?_;refine pu 2 15 (fb 16 7) HT_ ?_;refine pu 3 16 (fb 16 15) HT_ ?_;refine pu 7 20 (fb 16 143) HT_ ?_;refine pu 8 21 (fb 16 399) HT_ ?_;refine pu 9 22 (fb 16 911) HT_ ?_;refine take_ (i:=4) (N:=some 17) (v:=?_) (a':=?_) (fb 16 927) rfl rfl (take_ofW HT_.out HW_.out (by kernel_rfl)) (fun _ _ _ h=>h) (Or.inl ⟨by rfl,?_⟩) hHeld ?_ ?_;rotate_left
          ·intro w' _;go_simp;(with_reducible rfl)
          rotate_left
          ·simp only [Act.put,List.setIfInBounds_toArray,List.set_cons_zero,List.set_cons_succ,i64_w,i32_w];rfl
          refine pu 5 18 (fb 16 959) HT_ ?_;refine take_ (i:=6) (N:=some 19) (v:=?_) (a':=?_) (fb 16 1023) rfl rfl (take_ofW HT_.out HW_.out (by kernel_rfl)) (fun _ _ _ h=>h) (Or.inl ⟨by rfl,?_⟩) hHeld ?_ ?_;rotate_left
          ·intro w' _;go_simp;(with_reducible rfl)
          rotate_left
          ·simp only [Act.put,List.setIfInBounds_toArray,List.set_cons_zero,List.set_cons_succ,i64_w,i32_w];rfl
          refine take_ (i:=10) (N:=some 23) (v:=?_) (a':=?_) (fb 16 2047) rfl rfl (take_ofW HT_.out HW_.out (by kernel_rfl)) (fun _ _ _ h=>h) (Or.inl ⟨by rfl,?_⟩) hHeld ?_ ?_;rotate_left
          ·intro w' _;go_simp;(with_reducible rfl)
          rotate_left
          ·simp only [Act.put,List.setIfInBounds_toArray,List.set_cons_zero,List.set_cons_succ,i64_w,i32_w];rfl
          refine pu 11 24 (fb 16 4095) HT_ ?_;refine take_ (i:=12) (N:=some 25) (v:=?_) (a':=?_) (fb 16 8191) rfl rfl (take_ofW HT_.out HW_.out (by kernel_rfl)) (fun _ _ _ h=>h) (Or.inl ⟨by rfl,?_⟩) hHeld ?_ ?_;rotate_left
          ·intro w' _;go_simp;(with_reducible rfl)
          rotate_left
          ·simp only [Act.put,List.setIfInBounds_toArray,List.set_cons_zero,List.set_cons_succ,i64_w,i32_w];rfl
          refine o1 13 (some 26) (fb 16 16383) HT_ (fun K hK => ?_);refine Kd.R_lit_step (Kd.int .u8) _ 5 ?hg (N:=26) ?hd (xs:=([bt (⟨#[48,49,50,51,52,53,54,55,56,57,97,98,99,100,101,102]⟩:ByteArray) (a2),bt (⟨#[48,49,50,51,52,53,54,55,56,57,97,98,99,100,101,102]⟩:ByteArray) (a3)]:List Int)) (inner:=[.int .u8 (bt (⟨#[48,49,50,51,52,53,54,55,56,57,97,98,99,100,101,102]⟩:ByteArray) (a2)),.int .u8 (bt (⟨#[48,49,50,51,52,53,54,55,56,57,97,98,99,100,101,102]⟩:ByteArray) (a3))]) (ok:=fun _=>True) (okp:=fun _=>True) ?hr ?hp (fun _ hk=>hk) trivial (Below.refl _ _) (Nat.le_refl _) (by simp) ?_;(case hd=>rfl);(case hg=>rfl);(case hr=>first|(go_simp;done)|(go_simp;rfl));(case hp=>exact (Reps.one (show Kd.M (Kd.int .u8) _ _ _ (bt (⟨#[48,49,50,51,52,53,54,55,56,57,97,98,99,100,101,102]⟩:ByteArray) (a2)) [.int .u8 (bt (⟨#[48,49,50,51,52,53,54,55,56,57,97,98,99,100,101,102]⟩:ByteArray) (a2))] from rfl) (Reps.one (show Kd.M (Kd.int .u8) _ _ _ (bt (⟨#[48,49,50,51,52,53,54,55,56,57,97,98,99,100,101,102]⟩:ByteArray) (a3)) [.int .u8 (bt (⟨#[48,49,50,51,52,53,54,55,56,57,97,98,99,100,101,102]⟩:ByteArray) (a3))] from rfl) (Reps.none _ _))));intro v170 w18 ho19 hb hg_ hnew_;clear hg_ hnew_;(first|rw [←ag.out] at ho19|(simp only [Int.reduceToNat] at ho19;rw [←ag.out] at ho19));refine Ya3 (Kd.R_elder' (kr a4.out) (Kd.R_base ho19) hb) (Kd.R_lower (Kd.R_new' ho19 (Kd.R_lt (kr a4.out))) (below_size (be HB.out))) (below_step (be HB.out) hb) ?_;clear a4 HB;intro a4 a7 HB;clear hb ho19;obtain ⟨ap,aq,ah⟩:=Kd.R_slice a7.out;(first|subst ah|(injection ah with f1_ f2_ f3_;have f4_:=f1_.symm;have f5_:=f3_.symm;clear f1_ f2_ f3_;subst f4_;subst f5_));refine hK.out _ _ trivial (fun hHeld => ?_);clear hK K;refine nm 26 ?_;refine o1 14 (some 27) (fb 16 32767) HT_ (fun K hK => ?_);refine Kd.R_append_rows_step (Kd.int .u8) (w0:=w) w.heap.size (by rfl) (.tmp 13) (.tmp 26) 64 5 (.int .u8 0) 1 rfl Tryd.underlying64 info5 rfl (by decide) (by omega) u4 a6 a5 _ _ _ (fun k_=>some k_≠(.slice ap a5.length aq:Value).ownBlock) (fun _=>False) rfl rfl ?aO ?aR (fun _ _ h=>h) (fun _ h=>h.elim) ?aF ?aB ?aS ?aL ?_;(case aR=>repeat (first|exact (Kd.R_reads' a7.out).2.2|(with_reducible refine Kd.C_alloc ?_ _)|(with_reducible refine Kd.C_drewN ?_ _)|(with_reducible refine Kd.C_drew ?_)));(case aB=>exact (be HB.out));(case aF=>exact (fun k_ hk=>Kd.fresh' (Kd.R_lt (kr a7.out)) k_ hk));(case aO=>exact (by (with_reducible repeat (first|apply Kd.R_alloc|apply Kd.R_drewN|apply Kd.R_drew));exact Kd.R_mono a4.out (fun _ hk=>hk.2)));(case aS=>exact (below_size (be HB.out)));(case aL=>have:=am.out;omega);intro v173 w20 ho hb hg hat
          rw [←ao.out] at ho
          refine Ya3 (Kd.R_after (ok:=(fun _=>True)) (kr a7.out) hg hat) (hb) (ho) ?_;clear a7 HB a4;intro a7 HB ar;clear ho hb hg hat;refine hK.out _ _ trivial (fun hHeld => ?_);clear hK K;refine nm 27 ?_;refine pu 15 4 (fb 16 65535) HT_ ?_;refine done_ (done_of HT_.out (by kernel_rfl)) ?_
          try go_wp2
          go_roundg k1
          case measure=>have:=HK1.out;omega
          case rel=>exact ⟨(an),(wrap64 (a1+1)),Ye1,H',⟨by have:=HK1.out;omega⟩,⟨by (with_reducible repeat (first|apply Kd.R_alloc|apply Kd.R_drewN|apply Kd.R_drew));exact Kd.R_mono ar.out (fun _ hk=>trivial)⟩,⟨be HB.out⟩⟩
         ·rw [if_neg ac] at H
          exact absurd H (by simp)
        ·rw [if_neg aa] at H
         exact absurd H (by simp)
       ·rw [if_neg a9] at H
        exact absurd H (by simp)
      ·rw [if_neg c9] at H
       exact absurd H (by simp)
     ·rw [if_neg c8] at H
      exact absurd H (by simp)
    ·rw [if_neg c5] at H
     exact absurd H (by simp)
   ·rw [if_neg c4] at H
    have ak:decide (a1<(a0.size:Int))=false:=decide_eq_false c4;clear c4;obtain rfl:=Option.some.inj H;have hcv22:=own_string (P:=Tryd.prog) Tryd.underlying64 Tryd.underlying5 Tryd.underlying9 (Kd.own_of_R a4.out)
    go_wp2
    go_ret
    exact ⟨Ye2,be HB.out⟩

end Go.Proofs.YthfpoacindblgaaDoor.P


namespace Go.Proofs.YthfpoacindblgaaDoor.P
open Go.RowKit Go.Proofs.YthfpoacindblgaaDoorW.PrintWords Go.Proofs.YthfpoacindblgaaDoorW.PrintLast Go.Proofs.YthfpoacindblgaaDoorW.PrintMore
attribute [local go_sem] max2_int min2_int max_two min_two max_three min_three max_four min_four
set_option linter.unusedVariables false
set_option linter.unusedSimpArgs false

def spec_l9Under.l0:Nat→ByteArray→Int→List (S55)→List (S55)→Option ((List (S55)))
 | 0,_,_,_,_=>none
 | k+1,x1,x6,aa,ao=>if x6<(aa.length:Int) then (if 0≤x6 then ((spec_l5Begins.f x1 ((rd_T55 aa x6).f0)).bind fun ax=>(if ax=true then (if 0≤(wrap64 ((x1.size:Int)+1)) then (if (wrap64 ((x1.size:Int)+1))≤(((rd_T55 aa x6).f0).size:Int) then (if ao.length<3518437208883 then (spec_l9Under.l0 k x1 (wrap64 (x6+1)) aa (ao ++ [(⟨((rd_T55 aa x6).f0).extract ((wrap64 ((x1.size:Int)+1)):Int).toNat ((rd_T55 aa x6).f0).size,(rd_T55 aa x6).f1,(rd_T55 aa x6).f2⟩:S55)])) else (none)) else (none)) else (none)) else (spec_l9Under.l0 k x1 (wrap64 (x6+1)) aa ao))) else (none)) else (some ao)
def spec_l9Under.f (k:Nat) (a2:List (S55)) (a1:ByteArray):Option ((List (S55))):=spec_l9Under.l0 k a1 0 a2 ([]:List (S55))
theorem spec_l9Under.mono_l:∀ k,(∀ y0 y1 y2 y3,LeO (spec_l9Under.l0 k y0 y1 y2 y3) (spec_l9Under.l0 (k+1) y0 y1 y2 y3))
 | 0=>fun _ _ _ _ r h=>by simp [spec_l9Under.l0] at h
 | k + 1 => by
  have ih0:=spec_l9Under.mono_l k
  ·intro y0 y1 y2 y3
   unfold spec_l9Under.l0
   exact mo1 ih0
theorem spec_l9Under.mono:∀ a0 a1 k,LeO (spec_l9Under.f k a0 a1) (spec_l9Under.f (k+1) a0 a1):=by
 intro a0 a1 k;have ih0:=spec_l9Under.mono_l k
 unfold spec_l9Under.f
 exact mo1 ih0
set_option maxHeartbeats 8000000 in
set_option maxRecDepth 100000 in
theorem spec_l9Under.calls (k : Nat) (ap : Option Addr) (ah : Nat) (a2 : List (S55)) (a1 : ByteArray) (r : List (S55)) (w : World) (aM : Kd.C k55 w ap a2.length a2) (aN : a2.length ≤ ah) (h : spec_l9Under.f k a2 a1 = some r) :
  Calls Tryd.prog 18 #[.agg #[.slice ap a2.length ah],.string a1] w fun e w' => ∃ v0_:Value,e = .returned (.agg #[v0_])∧Kd.R k55 55 w' w.heap.size (fun _=>True) v0_ r∧Below w.heap.size w w':=by
 have hu32:=Tryd.underlying32;have hu55:=Tryd.underlying55;have aQ:=Aside0.mk aM;have HC0_0:=Aside0.mk aN;clear aM aN;have HB:=Aside0.mk (Below.refl w.heap.size w);have H:(spec_l9Under.l0 k a1 0 a2 ([]:List (S55)))=some r:=h;clear h;have H':=Aside0.mk H;clear H
 go_enter Tryd.func18,Tryd.ntmps18
 go_wp2_with (first|((with_reducible refine gd 2 rfl ?_);refine bx 2 32 (#[.slice ap a2.length ah]) ?_;intro aR hg w3 hbox hb;refine Ya4 (below_step (be HB.out) hb) (hbox) (bs hg (be HB.out)) (bs hg (be HB.out)) ?_;clear HB;intro HB a4 GW132 GE132;clear hb hbox hg)|((with_reducible refine gd 4 rfl ?_);refine bx 4 32 (#[.slice none 0 0]) ?_;intro aq hg w4 hbox hb;refine Ya7 (bb a4 hb) (below_step (bf HB.out) hb) (hbox) (bs hg (bf HB.out)) (bs hg (bf HB.out)) (bl hg a4) (br hg a4) ?_;clear a4 HB;intro a4 HB a5 GW133 GE133 ay az;clear hb hbox hg)|((with_reducible refine gd 5 rfl ?_);refine bx 5 32 (#[.slice none 0 0]) ?_;intro aA hg w5 hbox hb;refine Ya10 (bb a4 hb) (bb a5 hb) (below_step (bf HB.out) hb) (hbox) (bs hg (bf HB.out)) (bs hg (bf HB.out)) (bl hg a4) (br hg a4) (bl hg a5) (br hg a5) ?_;clear a4 a5 HB;intro a4 a5 HB a6 GW134 GE134 af ar ai aC;clear hb hbox hg;have hnb6:=ar.out;have hnc6:=af.out;have hnb7:=aC.out;have hnc7:=ai.out;have ⟨b0,b1⟩:=Yc1 a6.out))
 go_loopg [6] k (fun kq v6 w' => ∃ (a3:Int) (ab:List (S55)) (ag:Value),v6 = .int .i64 a3∧Aside0 (spec_l9Under.l0 kq a1 a3 a2 ab=some r)∧Aside0 (kq≤k)∧Aside0 (Kd.R k55 55 w' w.heap.size (fun _=>True) ag ab)∧Aside0 (w'.heap[aR]? = some (.cells #[(.slice ap a2.length ah)] 32 (0,0)))∧Aside0 (w'.heap[aq]? = some (.cells #[(.slice none 0 0)] 32 (0,0)))∧Aside0 (w'.heap[aA]? = some (.cells #[ag] 32 (0,0)))∧Aside0 (Below w.heap.size w w'))
 case atStart=>exact ⟨(0),(([]:List (S55))),(.slice none 0 0),Ye1,H',⟨Nat.le_refl _⟩,⟨nl⟩,⟨bkf a4.out af.out⟩,⟨bkf a5.out ai.out⟩,⟨bp a6.out⟩,⟨bf HB.out⟩⟩
 case round =>
  clear H';(try clear c1);(try clear p2);(try clear c6);(try clear c7);(try clear b0);(try clear b1);obtain ⟨a3,ab,ag,rfl,HA,HK1,a7,a4,a5,a6,HB⟩:=hrel
  cases gk with
  | zero=>exact absurd HA.out (by simp [spec_l9Under.l0])
  | succ k1 =>
   have H:=HA.out;clear HA;simp only [spec_l9Under.l0] at H
   by_cases c9:a3<(a2.length:Int)
   ·rw [if_pos c9] at H
    have b2:decide (a3<(a2.length:Int))=true:=decide_eq_true c9;clear c9
    by_cases c10:0≤a3
    ·rw [if_pos c10] at H
     have c10b0:decide (0≤a3)=true:=decide_eq_true c10;clear c10;replace H:=Option.bind_eq_some_iff.mp H;obtain ⟨ax,aT,H⟩:=H;(try dsimp only at H);have aD:=Aside0.mk aT;clear aT
     by_cases au:ax=true
     ·subst au
      rw [if_pos rfl] at H
      obtain ⟨a9,aE⟩:∃ j_:Int,(wrap64 ((a1.size:Int)+1))=j_:=⟨_,rfl⟩
      rw [aE] at H
      (try rw [aE] at aD);have hji13w:(IntKind.i64.wrap ((a1.size:Int)+1))=a9:=(i64_w _).trans aE
      by_cases aj:0≤(a9)
      ·rw [if_pos aj] at H
       have c14b0:=eq_true aj;have c14b1:decide (0≤(a9))=true:=decide_eq_true aj;clear aj
       by_cases ak:(a9)≤(((rd_T55 a2 a3).f0).size:Int)
       ·rw [if_pos ak] at H
        have c15b0:=eq_true ak;have c15b1:decide ((a9)≤(((rd_T55 a2 a3).f0).size:Int))=true:=decide_eq_true ak;clear ak
        by_cases av:ab.length<3518437208883
        ·rw [if_pos av] at H
         have b3:=Aside0.mk av;clear av
         obtain ⟨aG,aw⟩:∃ y_:List (S55),y_=(ab ++ [(⟨((rd_T55 a2 a3).f0).extract ((a9):Int).toNat ((rd_T55 a2 a3).f0).size,(rd_T55 a2 a3).f1,(rd_T55 a2 a3).f2⟩:S55)]):=⟨_,rfl⟩
         (first|replace H:=bl_ aw H|rw [←aw] at H);(try dsimp only at H);have b4:=Aside0.mk aw;clear aw;have H':=Aside0.mk H;clear H;have hnb17:=ay.out;have hnc17:=az.out;have hnb18:=af.out;have hnc18:=ar.out;have ⟨bg,bh⟩:=Yc1 a4.out;have ac:0≤(a3:Int):=oda;have ad:a3<(a2.length:Int):=oda;obtain ⟨aU,aH,b5,b6,b7⟩:=at_T55 (Kd.C_below aQ.out HB.out) a3 ac ad
         cases aH
         replace ac:=eq_true ac;replace ad:=eq_true ad
         go_wp2_with (first|((with_reducible refine gd 7 rfl ?_);refine bx 7 55 (#[.string (⟨#[]⟩:ByteArray),.string (⟨#[]⟩:ByteArray),.bool false]) ?_;intro a8 hg w20 hbox hb;refine Ya14 (Kd.R_below (Kd.R_elderB (kr a7.out) a8 (Nat.le_of_eq hg.symm)) hb) (bb a4 hb) (bb a5 hb) (bb a6 hb) (below_step (bf HB.out) hb) (hbox) (bs hg (bf HB.out)) (bs hg (bf HB.out)) (bl hg a4) (br hg a4) (bl hg a5) (br hg a5) (bl hg a6) (br hg a6) ?_;clear a7 a4 a5 a6 HB;intro a7 a4 a5 a6 HB ae b8 b9 al aI am aJ an aK;clear hb hbox hg;have hnb21:=aI.out;have hnc21:=al.out;have hnb22:=aJ.out;have hnc22:=am.out;have hnb23:=aK.out;have hnc23:=an.out;have ⟨bi,bj,bm,bn,bo,bq⟩:=Yc3 ae.out)|((with_reducible refine gc 38 rfl ?_);refine gl (some 24) _ (#[.string a1,.string ((rd_T55 a2 a3).f0)]) Tryd.func38 ?_;(with_reducible refine (spec_l5Begins.calls a1 ((rd_T55 a2 a3).f0) true _ aD.out).mono ?_);rintro e w' ⟨rfl,⟨nd,rfl⟩⟩;refine ⟨_,rfl,?_⟩;have hnb25:=aC.out;have hnc25:=ai.out;have ⟨bu,bv⟩:=Yc1 a6.out)|((with_reducible refine gate_builtin (b:=.append) (xs:=#[.tmp 33,.tmp 35]) rfl ?_);at_builtin;refine Kd.R_append k55 (w0:=w) w.heap.size rfl (.tmp 33) (.tmp 35) 30 55 (.agg #[(.string ⟨#[]⟩),(.string ⟨#[]⟩),(.bool false)]) 40 rfl Tryd.underlying30 info55 rfl (by decide) (by omega) ag ab (⟨((rd_T55 a2 a3).f0).extract ((a9):Int).toNat ((rd_T55 a2 a3).f0).size,(rd_T55 a2 a3).f1,(rd_T55 a2 a3).f2⟩:S55) [.string (((rd_T55 a2 a3).f0).extract ((a9):Int).toNat ((rd_T55 a2 a3).f0).size),.string ((rd_T55 a2 a3).f1),.bool ((rd_T55 a2 a3).f2)] (fun k_=>k_≠a8) (fun _=>False) rfl (by first|(go_simp;done)|(go_simp;rfl)) ?aP (fun _ hk=>hk.elim) ?aF ?aO ?aB ?aS ?aL ?_;(case aP=>exact k55_mkM _ _ _ (⟨((rd_T55 a2 a3).f0).extract ((a9):Int).toNat ((rd_T55 a2 a3).f0).size,(rd_T55 a2 a3).f1,(rd_T55 a2 a3).f2⟩:S55));(case aB=>exact (bf HB.out));(case aF=>exact (fun k_ hk=>Kd.freshB (g:=a8) (o:=.cells #[.string (((rd_T55 a2 a3).f0).extract ((a9):Int).toNat ((rd_T55 a2 a3).f0).size),.string ((rd_T55 a2 a3).f1),.bool ((rd_T55 a2 a3).f2)] 55 (0,0)) (bp ae.out) k_ hk));(case aO=>exact (by (with_reducible repeat (first|apply Kd.R_alloc|apply Kd.R_drewN|apply Kd.R_drew));exact Kd.R_mono (Kd.R_far (p:=⟨a8,0,none⟩) (Kd.R_far (p:=⟨a8,2,none⟩) (Kd.R_far (p:=⟨a8,1,none⟩) (Kd.R_far (p:=⟨a8,0,none⟩) (Kd.R_mono a7.out (fun k_ hk=>(⟨hk,hk.2⟩:_∧k_≠a8))) (fun _ hk=>hk.2) (.string ((rd_T55 a2 a3).f0))) (fun _ hk=>hk.2) (.string ((rd_T55 a2 a3).f1))) (fun _ hk=>hk.2) (.bool ((rd_T55 a2 a3).f2))) (fun _ hk=>hk.2) (.string (((rd_T55 a2 a3).f0).extract ((a9):Int).toNat ((rd_T55 a2 a3).f0).size))) (fun _ hk=>hk.1.2)));(case aS=>exact (below_size (bf HB.out)));(case aL=>have:=b3.out;omega);intro v139 w27 ho hb hg hat;rw [←b4.out] at ho;refine Ya6 (blk_grown (g:=aR) (o:=.cells #[.slice (some aU) a2.length ah] 32 (0,0)) (bkf a4.out al.out) hg (Kd.R_ne a7.out a4.out (by decide))) (blk_grown (g:=aq) (o:=.cells #[.slice none 0 0] 32 (0,0)) (bkf a5.out am.out) hg (Kd.R_ne a7.out a5.out (by decide))) (blk_grown (g:=aA) (o:=.cells #[ag] 32 (0,0)) (bkf a6.out an.out) hg (Kd.R_ne a7.out a6.out (by decide))) (blk_grown (g:=a8) (o:=.cells #[.string (((rd_T55 a2 a3).f0).extract ((a9):Int).toNat ((rd_T55 a2 a3).f0).size),.string ((rd_T55 a2 a3).f1),.bool ((rd_T55 a2 a3).f2)] 55 (0,0)) (bp ae.out) hg (Kd.R_away a7.out (fun _ hk=>hk.2))) (hb) (ho) ?_;clear a4 a5 a6 ae HB a7;intro a4 a5 a6 ae HB aV;clear ho hb hg hat;obtain ⟨aW,aX,ba⟩:=Kd.R_slice aV.out;subst ba;have ⟨bw,bz⟩:=Yc1 a6.out))
         go_roundg k1
         case measure=>have:=HK1.out;omega
         case rel=>exact ⟨(wrap64 (a3+1)),(aG),(.slice aW aG.length aX),Ye1,H',⟨by have:=HK1.out;omega⟩,⟨by (with_reducible repeat (first|apply Kd.R_alloc|apply Kd.R_drewN|apply Kd.R_drew));exact Kd.R_mono (Kd.R_far (p:=⟨aA,0,none⟩) (Kd.R_types aV.out a6.out (by decide)) (fun _ hk=>hk.2) (.slice aW aG.length aX)) (fun _ hk=>trivial)⟩,⟨bkf a4.out af.out⟩,⟨bkf a5.out ai.out⟩,⟨bp a6.out⟩,⟨bf HB.out⟩⟩
        ·rw [if_neg av] at H
         exact absurd H (by simp)
       ·rw [if_neg ak] at H
        exact absurd H (by simp)
      ·rw [if_neg aj] at H
       exact absurd H (by simp)
     ·replace au:=Bool.eq_false_iff.mpr au;subst au
      rw [if_neg (show ¬(false=true) by decide)] at H
      have H':=Aside0.mk H;clear H;have hnb30:=ay.out;have hnc30:=az.out;have hnb31:=af.out;have hnc31:=ar.out;have ⟨bA,bB⟩:=Yc1 a4.out;have ac:0≤(a3:Int):=oda;have ad:a3<(a2.length:Int):=oda;obtain ⟨aU,aH,b5,b6,b7⟩:=at_T55 (Kd.C_below aQ.out HB.out) a3 ac ad
      cases aH
      replace ac:=eq_true ac;replace ad:=eq_true ad
      go_wp2_with (first|((with_reducible refine gd 7 rfl ?_);refine bx 7 55 (#[.string (⟨#[]⟩:ByteArray),.string (⟨#[]⟩:ByteArray),.bool false]) ?_;intro a8 hg w33 hbox hb;refine Ya14 (Kd.R_below (Kd.R_elderB (kr a7.out) a8 (Nat.le_of_eq hg.symm)) hb) (bb a4 hb) (bb a5 hb) (bb a6 hb) (below_step (bf HB.out) hb) (hbox) (bs hg (bf HB.out)) (bs hg (bf HB.out)) (bl hg a4) (br hg a4) (bl hg a5) (br hg a5) (bl hg a6) (br hg a6) ?_;clear a7 a4 a5 a6 HB;intro a7 a4 a5 a6 HB ae b8 b9 al aI am aJ an aK;clear hb hbox hg;have hnb34:=aI.out;have hnc34:=al.out;have hnb35:=aJ.out;have hnc35:=am.out;have hnb36:=aK.out;have hnc36:=an.out;have ⟨bC,bD,bE,bF,bG,bH⟩:=Yc3 ae.out)|((with_reducible refine gc 38 rfl ?_);refine gl (some 24) _ (#[.string a1,.string ((rd_T55 a2 a3).f0)]) Tryd.func38 ?_;(with_reducible refine (spec_l5Begins.calls a1 ((rd_T55 a2 a3).f0) false _ aD.out).mono ?_);rintro e w' ⟨rfl,⟨nd,rfl⟩⟩;refine ⟨_,rfl,?_⟩))
      go_roundg k1
      case measure=>have:=HK1.out;omega
      case rel=>exact ⟨(wrap64 (a3+1)),(ab),(ag),Ye1,H',⟨by have:=HK1.out;omega⟩,⟨by (with_reducible repeat (first|apply Kd.R_alloc|apply Kd.R_drewN|apply Kd.R_drew));exact Kd.R_mono (Kd.R_far (p:=⟨a8,2,none⟩) (Kd.R_far (p:=⟨a8,1,none⟩) (Kd.R_far (p:=⟨a8,0,none⟩) (Kd.R_mono a7.out (fun k_ hk=>(⟨hk,hk.2⟩:_∧k_≠a8))) (fun _ hk=>hk.2) (.string ((rd_T55 a2 a3).f0))) (fun _ hk=>hk.2) (.string ((rd_T55 a2 a3).f1))) (fun _ hk=>hk.2) (.bool ((rd_T55 a2 a3).f2))) (fun _ hk=>trivial)⟩,⟨bkf a4.out al.out⟩,⟨bkf a5.out am.out⟩,⟨bkf a6.out an.out⟩,⟨bf HB.out⟩⟩
    ·rw [if_neg c10] at H
     exact absurd H (by simp)
   ·rw [if_neg c9] at H
    have b2:decide (a3<(a2.length:Int))=false:=decide_eq_false c9;clear c9;obtain rfl:=Option.some.inj H;have hnb38:=ay.out;have hnc38:=az.out;have hnb39:=af.out;have hnc39:=ar.out;have ⟨bI,bJ⟩:=Yc1 a4.out;have hnb41:=aC.out;have hnc41:=ai.out;have ⟨bK,bL⟩:=Yc1 a6.out;obtain ⟨aY,aZ,bd⟩:=Kd.R_slice a7.out;subst bd;have ⟨bM,bN⟩:=Yc1 a5.out
    go_wp2
    refine bodyPost_ret (results_cell_row rfl _ _ aq 32 #[.slice aY ab.length aZ] (0,0) _ rfl (bp a5.out) Tryd.underlying32 rfl (by kernel_rfl)) rfl ?_;exact ⟨_,Ye2,by (with_reducible repeat (first|apply Kd.R_alloc|apply Kd.R_drewN|apply Kd.R_drew));exact Kd.R_mono (Kd.R_far (p:=⟨aq,0,none⟩) (Kd.R_types a7.out a5.out (by decide)) (fun _ hk=>hk.2) (.slice aY ab.length aZ)) (fun _ hk=>trivial),(bf HB.out)⟩

end Go.Proofs.YthfpoacindblgaaDoor.P


namespace Go.Proofs.YthfpoacindblgaaDoor.P
open Go.RowKit Go.Proofs.YthfpoacindblgaaDoorW.PrintWords Go.Proofs.YthfpoacindblgaaDoorW.PrintLast Go.Proofs.YthfpoacindblgaaDoorW.PrintMore
attribute [local go_sem] max2_int min2_int max_two min_two max_three min_three max_four min_four
set_option linter.unusedVariables false
set_option linter.unusedSimpArgs false

mutual
def spec_l9Dir.l0:Nat→Int→List ByteArray→Int→List (S55)→Option (ByteArray)
 | 0,_,_,_,_=>none
 | k+1,x1,x5,x6,aM=>if x6<(aM.length:Int) then (if 0≤x6 then ((spec_l4Parts.f k ((rd_T55 aM x6).f0)).bind fun aD=>(if 0<(aD.length:Int) then ((spec_l6Name.f k x5 (rdOf ByteArray.empty aD 0)).bind fun bA=>(spec_l9Dir.l0 k x1 bA (wrap64 (x6+1)) aM)) else (none))) else (none)) else (spec_l9Dir.l1 k x1 x5 (([]:List Int)) 0 aM)
def spec_l9Dir.l1:Nat→Int→List ByteArray→List Int→Int→List (S55)→Option (ByteArray)
 | 0,_,_,_,_,_=>none
 | k+1,x1,x5,x7,x8,aM=>if x8<(x5.length:Int) then (if 0≤x8 then ((spec_l6At.f k aM (rdOf ByteArray.empty x5 x8)).bind fun bt195=>(if 2+(rdOf ByteArray.empty x5 x8).size≤9223372036854775807 then (if ((⟨#[100,32]⟩:ByteArray)++(rdOf ByteArray.empty x5 x8)).size+1≤9223372036854775807 then ((spec_l9Under.f k aM (rdOf ByteArray.empty x5 x8)).bind fun aw=>((spec_l9Dir.f k aw x1).bind fun ax=>((spec_Sum.f k ax x1).bind fun ay=>((spec_l9Hex.f k ay).bind fun ap=>(if (((⟨#[100,32]⟩:ByteArray)++(rdOf ByteArray.empty x5 x8))++(⟨#[32]⟩:ByteArray)).size+ap.size≤9223372036854775807 then (if bt195.1=true then (if ((⟨#[102,32]⟩:ByteArray)++(rdOf ByteArray.empty x5 x8)).size+1≤9223372036854775807 then (if 5+bt195.2.1.size≤9223372036854775807 then ((spec_Sum.f k ((⟨#[102,105,108,101,32]⟩:ByteArray)++bt195.2.1) x1).bind fun aN=>((spec_l9Hex.f k aN).bind fun ah=>(if (((⟨#[102,32]⟩:ByteArray)++(rdOf ByteArray.empty x5 x8))++(⟨#[32]⟩:ByteArray)).size+ah.size≤9223372036854775807 then (if bt195.2.2=true then (if 1≤(((((⟨#[102,32]⟩:ByteArray)++(rdOf ByteArray.empty x5 x8))++(⟨#[32]⟩:ByteArray))++ah).size:Int) then (if 1+(((((⟨#[102,32]⟩:ByteArray)++(rdOf ByteArray.empty x5 x8))++(⟨#[32]⟩:ByteArray))++ah).extract 1 ((((⟨#[102,32]⟩:ByteArray)++(rdOf ByteArray.empty x5 x8))++(⟨#[32]⟩:ByteArray))++ah).size).size≤9223372036854775807 then (if x7.length+((⟨#[120]⟩:ByteArray)++(((((⟨#[102,32]⟩:ByteArray)++(rdOf ByteArray.empty x5 x8))++(⟨#[32]⟩:ByteArray))++ah).extract 1 ((((⟨#[102,32]⟩:ByteArray)++(rdOf ByteArray.empty x5 x8))++(⟨#[32]⟩:ByteArray))++ah).size)).size<140737488355328 then ((some (x7++bytesOf ((⟨#[120]⟩:ByteArray)++(((((⟨#[102,32]⟩:ByteArray)++(rdOf ByteArray.empty x5 x8))++(⟨#[32]⟩:ByteArray))++ah).extract 1 ((((⟨#[102,32]⟩:ByteArray)++(rdOf ByteArray.empty x5 x8))++(⟨#[32]⟩:ByteArray))++ah).size)):List Int)).bind fun aQ=>(if aQ.length<140737488355328 then (spec_l9Dir.l1 k x1 x5 (aQ ++ [10]) (wrap64 (x8+1)) aM) else (none))) else (none)) else (none)) else (none)) else (if x7.length+((((⟨#[102,32]⟩:ByteArray)++(rdOf ByteArray.empty x5 x8))++(⟨#[32]⟩:ByteArray))++ah).size<140737488355328 then ((some (x7++bytesOf ((((⟨#[102,32]⟩:ByteArray)++(rdOf ByteArray.empty x5 x8))++(⟨#[32]⟩:ByteArray))++ah):List Int)).bind fun aR=>(if aR.length<140737488355328 then (spec_l9Dir.l1 k x1 x5 (aR ++ [10]) (wrap64 (x8+1)) aM) else (none))) else (none))) else (none)))) else (none)) else (none)) else (if x7.length+((((⟨#[100,32]⟩:ByteArray)++(rdOf ByteArray.empty x5 x8))++(⟨#[32]⟩:ByteArray))++ap).size<140737488355328 then ((some (x7++bytesOf ((((⟨#[100,32]⟩:ByteArray)++(rdOf ByteArray.empty x5 x8))++(⟨#[32]⟩:ByteArray))++ap):List Int)).bind fun aT=>(if aT.length<140737488355328 then (spec_l9Dir.l1 k x1 x5 (aT ++ [10]) (wrap64 (x8+1)) aM) else (none))) else (none))) else (none)))))) else (none)) else (none))) else (none)) else (some (strOfNums x7))
def spec_l9Dir.f:Nat→List (S55)→Int→Option (ByteArray)
 | 0,_,_=>none
 | k+1,aa,a1=>spec_l9Dir.l0 k a1 (([]:List ByteArray)) 0 aa
end
theorem spec_l9Dir.mono_l:∀ k,(∀ y0 y1,LeO (spec_l9Dir.f k y0 y1) (spec_l9Dir.f (k+1) y0 y1))∧(∀ y0 y1 y2 y3,LeO (spec_l9Dir.l0 k y0 y1 y2 y3) (spec_l9Dir.l0 (k+1) y0 y1 y2 y3))∧(∀ y0 y1 y2 y3 y4,LeO (spec_l9Dir.l1 k y0 y1 y2 y3 y4) (spec_l9Dir.l1 (k+1) y0 y1 y2 y3 y4))
 | 0=>⟨fun _ _ r h=>by simp [spec_l9Dir.f] at h,fun _ _ _ _ r h=>by simp [spec_l9Dir.l0] at h,fun _ _ _ _ _ r h=>by simp [spec_l9Dir.l1] at h⟩
 | k + 1 => by
  obtain ⟨ih0,ih1,ih2⟩:=spec_l9Dir.mono_l k;refine ⟨?_,?_,?_⟩
  ·intro y0 y1
   unfold spec_l9Dir.f
   exact mo9 ih0 ih1 ih2 @spec_Sum.mono @spec_l4Parts.mono @spec_l6At.mono @spec_l6Name.mono @spec_l9Hex.mono @spec_l9Under.mono
  ·intro y0 y1 y2 y3
   unfold spec_l9Dir.l0
   exact mo9 ih0 ih1 ih2 @spec_Sum.mono @spec_l4Parts.mono @spec_l6At.mono @spec_l6Name.mono @spec_l9Hex.mono @spec_l9Under.mono
  ·intro y0 y1 y2 y3 y4
   unfold spec_l9Dir.l1
   exact mo9 ih0 ih1 ih2 @spec_Sum.mono @spec_l4Parts.mono @spec_l6At.mono @spec_l6Name.mono @spec_l9Hex.mono @spec_l9Under.mono
theorem spec_l9Dir.mono:∀ a0 a1 k,LeO (spec_l9Dir.f k a0 a1) (spec_l9Dir.f (k+1) a0 a1):=by
 intro a0 a1 k;obtain ⟨ih0,ih1,ih2⟩:=spec_l9Dir.mono_l k;exact ih0 a0 a1
def spec_l9Dir.T10:Bool×List (List Nat×List Nat):=(true,[([],[]),([],[]),([],[]),([1,2],[1,2]),([3],[3]),([0,4],[0,4]),([],[]),([6,5,5,0,1,2,3,4,5,6],[5,6])])
def spec_l9Dir.B10:List Nat:=[0,0,0,6,14,31,0,127]
theorem spec_l9Dir.tab10:rtab .any (opsOf Tryd.f16 10)=spec_l9Dir.T10:=by kernel_rfl
theorem spec_l9Dir.bits10:waitsOk spec_l9Dir.T10.2 spec_l9Dir.B10=true:=by kernel_rfl
def spec_l9Dir.T11:Bool×List (List Nat×List Nat):=(true,[([],[]),([],[]),([0,1],[0,1]),([2],[2]),([3],[3]),([4],[4]),([],[]),([],[]),([],[]),([7,8],[7,8]),([9],[9]),([6,10],[6,10]),([],[]),([11,12,11],[11,12]),([],[]),([13,14,13],[13,14]),([15,15],[15]),([5,16],[5,16]),([17,16,0,1,2,3,4,5,6,7,8,9,10,11,12,13,14,15,16,17],[17])])
def spec_l9Dir.B11:List Nat:=[0,0,3,7,15,31,0,0,0,384,896,1984,0,8128,0,32704,65472,131071,262143]
theorem spec_l9Dir.tab11:rtab .any (opsOf Tryd.f16 11)=spec_l9Dir.T11:=by kernel_rfl
theorem spec_l9Dir.bits11:waitsOk spec_l9Dir.T11.2 spec_l9Dir.B11=true:=by kernel_rfl
def spec_l9Dir.T13:Bool×List (List Nat×List Nat):=(true,[([],[]),([],[]),([0,1],[0,1]),([2],[2]),([3],[3]),([4],[4]),([],[]),([6],[6]),([7],[7]),([],[]),([8,9],[8,9]),([10,10],[10]),([5,11],[5,11]),([12,11,0,1,2,3,4,5,6,7,8,9,10,11,12],[12])])
def spec_l9Dir.B13:List Nat:=[0,0,3,7,15,31,0,64,192,0,960,1984,4095,8191]
theorem spec_l9Dir.tab13:rtab .any (opsOf Tryd.f16 13)=spec_l9Dir.T13:=by kernel_rfl
theorem spec_l9Dir.bits13:waitsOk spec_l9Dir.T13.2 spec_l9Dir.B13=true:=by kernel_rfl
set_option maxHeartbeats 8000000 in
set_option maxRecDepth 100000 in
theorem spec_l9Dir.calls (k : Nat) : ∀ (ac : Option Addr) (ad : Nat) (aa : List (S55)) (a1 : Int) (r : ByteArray) (w : World) (bX : Kd.C k55 w ac aa.length aa) (bY : aa.length ≤ ad) (h : spec_l9Dir.f k aa a1 = some r),
  Calls Tryd.prog 16 #[.agg #[.slice ac aa.length ad],.int .i64 a1] w fun e w'=>e = .returned (.string r)∧Below w.heap.size w w':=by
 induction k using Nat.strongRecOn with
 | _ k ih =>
 intro ac ad aa a1 r w bX bY h
 cases k with
 | zero=>exact absurd h (by simp [spec_l9Dir.f])
 | succ k =>
 simp only [spec_l9Dir.f] at h;have hu32:=Tryd.underlying32;have hu46:=Tryd.underlying46;have aU:=Aside0.mk bX;have aV:=Aside0.mk bY;clear bX bY;have HB:=Aside0.mk (Below.refl w.heap.size w);have H:(spec_l9Dir.l0 k a1 (([]:List ByteArray)) 0 aa)=some r:=h;clear h
 obtain ⟨cC,bB⟩:∃ y_:List ByteArray,y_=(([]:List ByteArray)):=⟨_,rfl⟩
 (first|replace H:=bl_ bB H|rw [←bB] at H);(try dsimp only at H);have cj:=Aside0.mk bB;clear bB;have H':=Aside0.mk H;clear H
 go_enter Tryd.func16,Tryd.ntmps16
 go_wp2_with (first|((with_reducible refine gd 2 rfl ?_);refine bx 2 32 (#[.slice ac aa.length ad]) ?_;intro ae hg w3 hbox hb;refine Ya4 (below_step (be HB.out) hb) (hbox) (bs hg (be HB.out)) (bs hg (be HB.out)) ?_;clear HB;intro HB a2 GW179 GE179;clear hb hbox hg)|((with_reducible refine gd 11 rfl ?_);refine Kd.R_lit Kd.string _ 9 ?hg (N:=11) ?hd (xs:=([]:List ByteArray)) (inner:=[]) (ok:=fun _=>True) (okp:=fun _=>True) ?hr ?hp (fun _ hk=>hk) trivial (Below.refl _ _) (Nat.le_refl _) (by simp) ?_;(case hd=>rfl);(case hg=>rfl);(case hr=>first|(go_simp;done)|(go_simp;rfl));(case hp=>exact (Reps.none _ _));intro v181 w4 ho5 hb hg_ hnew_;clear hg_ hnew_;(first|rw [←cj.out] at ho5|(simp only [Int.reduceToNat] at ho5;rw [←cj.out] at ho5));refine Ya3 (Kd.R_lower ho5 (below_size (bf HB.out))) (bb a2 hb) (below_step (bf HB.out) hb) ?_;clear a2 HB;intro cD a2 HB;clear hb ho5))
 go_loopg [5,6] k (fun kq v5 v6 w' => ∃ (a8:List ByteArray) (ar:Int),v6 = .int .i64 ar∧Aside0 (spec_l9Dir.l0 kq a1 a8 ar aa=some r)∧Aside0 (kq≤k)∧Aside0 (Kd.R Kd.string 9 w' w.heap.size (fun _=>True) v5 a8)∧Aside0 (w'.heap[ae]? = some (.cells #[(.slice ac aa.length ad)] 32 (0,0)))∧Aside0 (Below w.heap.size w w'))
 case atStart=>exact ⟨(cC),(0),Ye1,H',⟨Nat.le_refl _⟩,⟨kr cD.out⟩,⟨bk a2.out⟩,⟨bf HB.out⟩⟩
 case round =>
  clear H';(try clear c1);(try clear p2);obtain ⟨a8,ar,rfl,HA,HK1,a3,a2,HB⟩:=hrel
  cases gk with
  | zero=>exact absurd HA.out (by simp [spec_l9Dir.l0])
  | succ k1 =>
   have H:=HA.out;clear HA;simp only [spec_l9Dir.l0] at H
   by_cases c6:ar<(aa.length:Int)
   ·rw [if_pos c6] at H
    have ck:decide (ar<(aa.length:Int))=true:=decide_eq_true c6;clear c6
    by_cases c7:0≤ar
    ·rw [if_pos c7] at H
     have cE:decide (0≤ar)=true:=decide_eq_true c7;clear c7;replace H:=Option.bind_eq_some_iff.mp H;obtain ⟨aD,A80,H⟩:=H;(try dsimp only at H);have A8:=Aside0.mk A80;clear A80
     by_cases c9:0<(aD.length:Int)
     ·rw [if_pos c9] at H
      have cF:decide (0<(aD.length:Int))=true:=decide_eq_true c9;have cG:decide (0<aD.length)=true:=decide_eq_true (by omega);clear c9;replace H:=Option.bind_eq_some_iff.mp H;obtain ⟨bA,cl,H⟩:=H;(try dsimp only at H);have A10:=Aside0.mk cl;clear cl;have H':=Aside0.mk H;clear H;have ⟨cH,cI⟩:=Yc1 a2.out;have bC:0≤(ar:Int):=oda;have bD:ar<(aa.length:Int):=oda;obtain ⟨ad183,cJ,cK,cL,cM⟩:=at_T55 (Kd.C_below aU.out HB.out) ar bC bD
      cases cJ
      replace bC:=eq_true bC;replace bD:=eq_true bD
      go_wp2_with (first|((with_reducible refine gc 17 rfl ?_);refine gl (some 26) _ (#[.string ((rd_T55 aa ar).f0)]) Tryd.func17 ?_;(with_reducible refine (spec_l4Parts.calls k1 ((rd_T55 aa ar).f0) aD _ A8.out).mono ?_);rintro e w12 ⟨v185,rfl,ho0,hb⟩;refine ⟨_,rfl,?_⟩;refine Ya4 (Kd.R_elder' (kr a3.out) (Kd.R_base ho0) hb) (Kd.R_lower (Kd.R_new' ho0 (Kd.R_lt (kr a3.out))) (below_size (bf HB.out))) (bb a2 hb) (below_step (bf HB.out) hb) ?_;clear a3 a2 HB;intro a3 b5 a2 HB;(try clear hb);(try clear hb2);(try clear hk);(try clear hi);(try clear ho0);obtain ⟨Ao13,co13,cN⟩:=Kd.R_slice b5.out;subst cN;have bE:0≤(0:Int):=(by omega);have bF:0<(aD.length:Int):=oda;obtain ⟨ad187,cO,bZ⟩:=Kd.at_string (Kd.R_reads' b5.out).2.2 0 bE bF;cases cO;have qi187:(0<aD.length)=True:=eq_true (by omega);(try rw [show ((0:Int)).toNat=0 from rfl] at bZ);(try rw [Addr.add_zero'] at bZ);replace bE:=eq_true bE;replace bF:=eq_true bF;obtain ⟨cP,cQ,cR⟩:=Kd.R_slice a3.out;subst cR)|((with_reducible refine gc 35 rfl ?_);refine gl (some 29) _ (#[.slice cP a8.length cQ,.string (rdOf ByteArray.empty aD 0)]) Tryd.func35 ?_;(with_reducible refine (spec_l6Name.calls k1 _ _ a8 (rdOf ByteArray.empty aD 0) bA _ ?side1 ?side2 A10.out).mono ?_);(case side1=>repeat (first|exact (Kd.R_reads' a3.out).2.2|(with_reducible refine Kd.C_alloc ?_ _)|(with_reducible refine Kd.C_drewN ?_ _)|(with_reducible refine Kd.C_drew ?_)));(case side2=>exact (Kd.R_reads' a3.out).2.1);rintro e w15 ⟨v189,rfl,ho0,hb⟩;refine ⟨_,rfl,?_⟩;refine Ya5 (Kd.R_elder' (kr a3.out) (Kd.R_base ho0) hb) (Kd.R_elder' (kr b5.out) (Kd.R_base ho0) hb) (Kd.R_lower (Kd.R_new' (Kd.R_new' ho0 (Kd.R_lt (kr a3.out))) (Kd.R_lt (kr b5.out))) (below_size (bf HB.out))) (bb a2 hb) (below_step (bf HB.out) hb) ?_;clear a3 b5 a2 HB;intro a3 b5 cS a2 HB;(try clear hb);(try clear hb2);(try clear hk);(try clear hi);(try clear ho0)))
      go_roundg k1
      case measure=>have:=HK1.out;omega
      case rel=>exact ⟨(bA),(wrap64 (ar+1)),Ye1,H',⟨by have:=HK1.out;omega⟩,⟨by (with_reducible repeat (first|apply Kd.R_alloc|apply Kd.R_drewN|apply Kd.R_drew));exact Kd.R_mono cS.out (fun _ hk=>trivial)⟩,⟨bk a2.out⟩,⟨bf HB.out⟩⟩
     ·rw [if_neg c9] at H
      exact absurd H (by simp)
    ·rw [if_neg c7] at H
     exact absurd H (by simp)
   ·rw [if_neg c6] at H
    have ck:decide (ar<(aa.length:Int))=false:=decide_eq_false c6;clear c6
    obtain ⟨cT,bG⟩:∃ y_:List Int,y_=(([]:List Int)):=⟨_,rfl⟩
    (first|replace H:=bl_ bG H|rw [←bG] at H);(try dsimp only at H);have cm:=Aside0.mk bG;clear bG;have H':=Aside0.mk H;clear H;have ⟨cU,cV⟩:=Yc1 a2.out
    go_wp2_with (first|((with_reducible refine gd 30 rfl ?_);refine Kd.R_lit (Kd.int .u8) _ 5 ?hg (N:=30) ?hd (xs:=([]:List Int)) (inner:=[]) (ok:=fun _=>True) (okp:=fun _=>True) ?hr ?hp (fun _ hk=>hk) trivial (Below.refl _ _) (Nat.le_refl _) (by simp) ?_;(case hd=>rfl);(case hg=>rfl);(case hr=>first|(go_simp;done)|(go_simp;rfl));(case hp=>exact (Reps.none _ _));intro v192 w17 ho18 hb hg_ hnew_;clear hg_ hnew_;(first|rw [←cm.out] at ho18|(simp only [Int.reduceToNat] at ho18;rw [←cm.out] at ho18));refine Ya4 (Kd.R_below (kr a3.out) hb) (Kd.R_lower ho18 (below_size (bf HB.out))) (bb a2 hb) (below_step (bf HB.out) hb) ?_;clear a3 a2 HB;intro a3 cW a2 HB;clear hb ho18))
    go_loopg [7,8] k1 (fun kq v7 v8 w' => ∃ (ai:List Int) (a6:Int),v8 = .int .i64 a6∧Aside0 (spec_l9Dir.l1 kq a1 a8 ai a6 aa=some r)∧Aside0 (kq≤k1)∧Aside0 (Kd.R Kd.string 9 w' w.heap.size (fun _=>True) u5 a8)∧Aside0 (Kd.R (Kd.int .u8) 5 w' w.heap.size (fun _=>True) v7 ai)∧Aside0 (w'.heap[ae]? = some (.cells #[(.slice ac aa.length ad)] 32 (0,0)))∧Aside0 (Below w.heap.size w w'))
    case atStart=>exact ⟨(cT),(0),Ye1,H',⟨Nat.le_refl _⟩,⟨kr a3.out⟩,⟨kr cW.out⟩,⟨bk a2.out⟩,⟨bf HB.out⟩⟩
    case round =>
     clear H';(try clear c1);(try clear p1);(try clear q1);(try clear hx1);(try clear qi1);(try clear p2);(try clear c3);(try clear c6);(try clear ck);(try clear p6);(try clear c7);(try clear cE);(try clear c9);(try clear cF);(try clear cG);(try clear c16);(try clear c17);(try clear p18);(try clear q18);(try clear hx18);(try clear qi18);(try clear cH);(try clear cU);(try clear cI);(try clear cV);(try clear cK);(try clear cL);(try clear cM);(try clear bZ);(try clear bC);(try clear bE);(try clear p2);(try clear bD);(try clear bF);obtain ⟨ai,a6,rfl,HA,HK2,a3,a5,a2,HB⟩:=hrel
     cases gk with
     | zero=>exact absurd HA.out (by simp [spec_l9Dir.l1])
     | succ k2 =>
      have H:=HA.out;clear HA;simp only [spec_l9Dir.l1] at H
      by_cases b6:a6<(a8.length:Int)
      ·rw [if_pos b6] at H
       have cX:decide (a6<(a8.length:Int))=true:=decide_eq_true b6;clear b6
       by_cases bH:0≤a6
       ·rw [if_pos bH] at H
        have c20b0:decide (0≤a6)=true:=decide_eq_true bH;clear bH;replace H:=Option.bind_eq_some_iff.mp H;obtain ⟨⟨cn,ab,aq⟩,co,H⟩:=H;replace H:(if 2+(rdOf ByteArray.empty a8 a6).size≤9223372036854775807 then (if ((⟨#[100,32]⟩:ByteArray)++(rdOf ByteArray.empty a8 a6)).size+1≤9223372036854775807 then ((spec_l9Under.f k2 aa (rdOf ByteArray.empty a8 a6)).bind fun aw=>((spec_l9Dir.f k2 aw a1).bind fun ax=>((spec_Sum.f k2 ax a1).bind fun ay=>((spec_l9Hex.f k2 ay).bind fun ap=>(if (((⟨#[100,32]⟩:ByteArray)++(rdOf ByteArray.empty a8 a6))++(⟨#[32]⟩:ByteArray)).size+ap.size≤9223372036854775807 then (if cn=true then (if ((⟨#[102,32]⟩:ByteArray)++(rdOf ByteArray.empty a8 a6)).size+1≤9223372036854775807 then (if 5+ab.size≤9223372036854775807 then ((spec_Sum.f k2 ((⟨#[102,105,108,101,32]⟩:ByteArray)++ab) a1).bind fun aN=>((spec_l9Hex.f k2 aN).bind fun ah=>(if (((⟨#[102,32]⟩:ByteArray)++(rdOf ByteArray.empty a8 a6))++(⟨#[32]⟩:ByteArray)).size+ah.size≤9223372036854775807 then (if aq=true then (if 1≤(((((⟨#[102,32]⟩:ByteArray)++(rdOf ByteArray.empty a8 a6))++(⟨#[32]⟩:ByteArray))++ah).size:Int) then (if 1+(((((⟨#[102,32]⟩:ByteArray)++(rdOf ByteArray.empty a8 a6))++(⟨#[32]⟩:ByteArray))++ah).extract 1 ((((⟨#[102,32]⟩:ByteArray)++(rdOf ByteArray.empty a8 a6))++(⟨#[32]⟩:ByteArray))++ah).size).size≤9223372036854775807 then (if ai.length+((⟨#[120]⟩:ByteArray)++(((((⟨#[102,32]⟩:ByteArray)++(rdOf ByteArray.empty a8 a6))++(⟨#[32]⟩:ByteArray))++ah).extract 1 ((((⟨#[102,32]⟩:ByteArray)++(rdOf ByteArray.empty a8 a6))++(⟨#[32]⟩:ByteArray))++ah).size)).size<140737488355328 then ((some (ai++bytesOf ((⟨#[120]⟩:ByteArray)++(((((⟨#[102,32]⟩:ByteArray)++(rdOf ByteArray.empty a8 a6))++(⟨#[32]⟩:ByteArray))++ah).extract 1 ((((⟨#[102,32]⟩:ByteArray)++(rdOf ByteArray.empty a8 a6))++(⟨#[32]⟩:ByteArray))++ah).size)):List Int)).bind fun aQ=>(if aQ.length<140737488355328 then (spec_l9Dir.l1 k2 a1 a8 (aQ ++ [10]) (wrap64 (a6+1)) aa) else (none))) else (none)) else (none)) else (none)) else (if ai.length+((((⟨#[102,32]⟩:ByteArray)++(rdOf ByteArray.empty a8 a6))++(⟨#[32]⟩:ByteArray))++ah).size<140737488355328 then ((some (ai++bytesOf ((((⟨#[102,32]⟩:ByteArray)++(rdOf ByteArray.empty a8 a6))++(⟨#[32]⟩:ByteArray))++ah):List Int)).bind fun aR=>(if aR.length<140737488355328 then (spec_l9Dir.l1 k2 a1 a8 (aR ++ [10]) (wrap64 (a6+1)) aa) else (none))) else (none))) else (none)))) else (none)) else (none)) else (if ai.length+((((⟨#[100,32]⟩:ByteArray)++(rdOf ByteArray.empty a8 a6))++(⟨#[32]⟩:ByteArray))++ap).size<140737488355328 then ((some (ai++bytesOf ((((⟨#[100,32]⟩:ByteArray)++(rdOf ByteArray.empty a8 a6))++(⟨#[32]⟩:ByteArray))++ap):List Int)).bind fun aT=>(if aT.length<140737488355328 then (spec_l9Dir.l1 k2 a1 a8 (aT ++ [10]) (wrap64 (a6+1)) aa) else (none))) else (none))) else (none)))))) else (none)) else (none))=some r:=H;have b7:=Aside0.mk co;clear co
        by_cases bm:2+(rdOf ByteArray.empty a8 a6).size≤9223372036854775807
        ·rw [if_pos bm] at H
         have c22b0:=eq_true bm;have c22b1:decide (2+(rdOf ByteArray.empty a8 a6).size≤9223372036854775807)=true:=decide_eq_true bm
         try have c22b2:(9223372036854775807<2+(rdOf ByteArray.empty a8 a6).size)=False:=eq_false (Nat.not_lt.2 bm)
         by_cases b8:((⟨#[100,32]⟩:ByteArray)++(rdOf ByteArray.empty a8 a6)).size+1≤9223372036854775807
         ·rw [if_pos b8] at H
          try have c23n:2+(rdOf ByteArray.empty a8 a6).size+1≤9223372036854775807:=(by have h_:=b8;(try simp only [ByteArray.size_append] at h_);(try simp only [ByteArray.size_extract] at h_);(try simp only [show (⟨#[100,32]⟩:ByteArray).size=2 from rfl] at h_);(try omega);(try simpa using h_))
          try have c23m:=eq_true c23n
          try have c23d:=decide_eq_true c23n
          try have c23l:=eq_false (Nat.not_lt.2 c23n)
          (try clear c23n);have c23b0:=eq_true b8;have c23b1:decide (((⟨#[100,32]⟩:ByteArray)++(rdOf ByteArray.empty a8 a6)).size+1≤9223372036854775807)=true:=decide_eq_true b8
          try have c23b2:(9223372036854775807<((⟨#[100,32]⟩:ByteArray)++(rdOf ByteArray.empty a8 a6)).size+1)=False:=eq_false (Nat.not_lt.2 b8)
          replace H:=Option.bind_eq_some_iff.mp H;obtain ⟨aw,cp,H⟩:=H;(try dsimp only at H);have c0:=Aside0.mk cp;clear cp;replace H:=Option.bind_eq_some_iff.mp H;obtain ⟨ax,cq,H⟩:=H;(try dsimp only at H);have ca:=Aside0.mk cq;clear cq;replace H:=Option.bind_eq_some_iff.mp H;obtain ⟨ay,cr,H⟩:=H;(try dsimp only at H);have cc:=Aside0.mk cr;clear cr;replace H:=Option.bind_eq_some_iff.mp H;obtain ⟨ap,cs,H⟩:=H;(try dsimp only at H);have cd:=Aside0.mk cs;clear cs
          by_cases b9:(((⟨#[100,32]⟩:ByteArray)++(rdOf ByteArray.empty a8 a6))++(⟨#[32]⟩:ByteArray)).size+ap.size≤9223372036854775807
          ·rw [if_pos b9] at H
           try have c28n:2+(rdOf ByteArray.empty a8 a6).size+1+ap.size≤9223372036854775807:=(by have h_:=b9;(try simp only [ByteArray.size_append] at h_);(try simp only [ByteArray.size_extract] at h_);(try simp only [show (⟨#[100,32]⟩:ByteArray).size=2 from rfl,show (⟨#[32]⟩:ByteArray).size=1 from rfl] at h_);(try omega);(try simpa using h_))
           try have c28m:=eq_true c28n
           try have c28d:=decide_eq_true c28n
           try have c28l:=eq_false (Nat.not_lt.2 c28n)
           (try clear c28n);have c28b0:=eq_true b9;have c28b1:decide ((((⟨#[100,32]⟩:ByteArray)++(rdOf ByteArray.empty a8 a6))++(⟨#[32]⟩:ByteArray)).size+ap.size≤9223372036854775807)=true:=decide_eq_true b9
           try have c28b2:(9223372036854775807<(((⟨#[100,32]⟩:ByteArray)++(rdOf ByteArray.empty a8 a6))++(⟨#[32]⟩:ByteArray)).size+ap.size)=False:=eq_false (Nat.not_lt.2 b9)
           by_cases bI:cn=true
           ·subst bI
            rw [if_pos rfl] at H
            by_cases ba:((⟨#[102,32]⟩:ByteArray)++(rdOf ByteArray.empty a8 a6)).size+1≤9223372036854775807
            ·rw [if_pos ba] at H
             try have c30n:2+(rdOf ByteArray.empty a8 a6).size+1≤9223372036854775807:=(by have h_:=ba;(try simp only [ByteArray.size_append] at h_);(try simp only [ByteArray.size_extract] at h_);(try simp only [show (⟨#[102,32]⟩:ByteArray).size=2 from rfl] at h_);(try omega);(try simpa using h_))
             try have c30m:=eq_true c30n
             try have c30d:=decide_eq_true c30n
             try have c30l:=eq_false (Nat.not_lt.2 c30n)
             (try clear c30n);have c30b0:=eq_true ba;have c30b1:decide (((⟨#[102,32]⟩:ByteArray)++(rdOf ByteArray.empty a8 a6)).size+1≤9223372036854775807)=true:=decide_eq_true ba
             try have c30b2:(9223372036854775807<((⟨#[102,32]⟩:ByteArray)++(rdOf ByteArray.empty a8 a6)).size+1)=False:=eq_false (Nat.not_lt.2 ba)
             by_cases bn:5+ab.size≤9223372036854775807
             ·rw [if_pos bn] at H
              have c31b0:=eq_true bn;have c31b1:decide (5+ab.size≤9223372036854775807)=true:=decide_eq_true bn
              try have c31b2:(9223372036854775807<5+ab.size)=False:=eq_false (Nat.not_lt.2 bn)
              replace H:=Option.bind_eq_some_iff.mp H;obtain ⟨aN,ct,H⟩:=H;(try dsimp only at H);have A32:=Aside0.mk ct;clear ct;replace H:=Option.bind_eq_some_iff.mp H;obtain ⟨ah,cu,H⟩:=H;(try dsimp only at H);have A33:=Aside0.mk cu;clear cu
              by_cases bd:(((⟨#[102,32]⟩:ByteArray)++(rdOf ByteArray.empty a8 a6))++(⟨#[32]⟩:ByteArray)).size+ah.size≤9223372036854775807
              ·rw [if_pos bd] at H
               try have c34n:2+(rdOf ByteArray.empty a8 a6).size+1+ah.size≤9223372036854775807:=(by have h_:=bd;(try simp only [ByteArray.size_append] at h_);(try simp only [ByteArray.size_extract] at h_);(try simp only [show (⟨#[102,32]⟩:ByteArray).size=2 from rfl,show (⟨#[32]⟩:ByteArray).size=1 from rfl] at h_);(try omega);(try simpa using h_))
               try have c34m:=eq_true c34n
               try have c34d:=decide_eq_true c34n
               try have c34l:=eq_false (Nat.not_lt.2 c34n)
               (try clear c34n)
               obtain ⟨LN_,hLN_⟩:∃ L_:ByteArray,L_=((((⟨#[102,32]⟩:ByteArray)++(rdOf ByteArray.empty a8 a6))++(⟨#[32]⟩:ByteArray))++ah):=⟨_,rfl⟩
               rw [←hLN_] at H
               have NLN_:=Aside0.mk hLN_;clear hLN_;have c34b0:=eq_true bd;have c34b1:decide ((((⟨#[102,32]⟩:ByteArray)++(rdOf ByteArray.empty a8 a6))++(⟨#[32]⟩:ByteArray)).size+ah.size≤9223372036854775807)=true:=decide_eq_true bd
               try have c34b2:(9223372036854775807<(((⟨#[102,32]⟩:ByteArray)++(rdOf ByteArray.empty a8 a6))++(⟨#[32]⟩:ByteArray)).size+ah.size)=False:=eq_false (Nat.not_lt.2 bd)
               by_cases bJ:aq=true
               ·subst bJ
                rw [if_pos rfl] at H
                by_cases bK:1≤(LN_.size:Int)
                ·rw [if_pos bK] at H
                 have c36b0:=eq_true bK;have c36b1:decide (1≤(LN_.size:Int))=true:=decide_eq_true bK
                 by_cases bg:1+(LN_.extract 1 LN_.size).size≤9223372036854775807
                 ·rw [if_pos bg] at H
                  try have c37n:1+(LN_.size - 1)≤9223372036854775807:=(by have h_:=bg;(try simp only [ByteArray.size_append] at h_);(try simp only [ByteArray.size_extract] at h_);omega)
                  try have c37p:=eq_true c37n
                  try have c37q:=decide_eq_true c37n
                  try have c37r:=eq_false (Nat.not_lt.2 c37n)
                  (try clear c37n);have c37b0:=eq_true bg;have c37b1:decide (1+(LN_.extract 1 LN_.size).size≤9223372036854775807)=true:=decide_eq_true bg
                  try have c37b2:(9223372036854775807<1+(LN_.extract 1 LN_.size).size)=False:=eq_false (Nat.not_lt.2 bg)
                  by_cases bL:ai.length+((⟨#[120]⟩:ByteArray)++(LN_.extract 1 LN_.size)).size<140737488355328
                  ·rw [if_pos bL] at H
                   have cY:=Aside0.mk bL;clear bL
                   obtain ⟨aQ,bM⟩:∃ y_:List Int,y_=(ai++bytesOf ((⟨#[120]⟩:ByteArray)++(LN_.extract 1 LN_.size))):=⟨_,rfl⟩
                   (first|replace H:=bl_ bM H|rw [←bM] at H);(try dsimp only at H);have cZ:=Aside0.mk bM;clear bM
                   by_cases bN:aQ.length<140737488355328
                   ·rw [if_pos bN] at H
                    have d0:=Aside0.mk bN;clear bN
                    obtain ⟨d1,bO⟩:∃ y_:List Int,y_=(aQ ++ [10]):=⟨_,rfl⟩
                    (first|replace H:=bl_ bO H|rw [←bO] at H);(try dsimp only at H);have d2:=Aside0.mk bO;clear bO;have H':=Aside0.mk H;clear H;obtain ⟨Ao40,ce,d3⟩:=Kd.R_slice a3.out;subst d3
                    try go_wp2
                    refine Ya4 (Kd.R_drew a3.out) (Kd.R_drew a5.out) (blk_drew a2.out) (below_drew1 HB.out) ?_;clear a3 a5 a2 HB;intro a3 a5 a2 HB;have aE:0≤(a6:Int):=oda;have aG:a6<(a8.length:Int):=oda;obtain ⟨af,bo,aW⟩:=Kd.at_string (Kd.R_reads' a3.out).2.2 a6 aE aG
                    cases bo
                    replace aE:=eq_true aE;replace aG:=eq_true aG;refine start_ (n:=8) (S:=fun w'=>w'.cell? ⟨ae,0,none⟩=some (.slice ac aa.length ad)∧w'.cell? (af.add (a6).toNat)=some (.string (rdOf ByteArray.empty a8 a6))) (ds:=[]) (fb 8 0) (by kernel_rfl) rfl rfl ⟨bc a2 0,aW⟩ (fun hHeld => ?_);refine with_tabW spec_l9Dir.tab10 spec_l9Dir.bits10 (fun HT_ HW_ => ?_);generalize wr.drew=w41 at a3 a5 a2 HB aW hHeld ⊢; refine pu 1 38 (fb 8 2) HT_ ?_;refine pu 2 39 (fb 8 6) HT_ ?_;refine pu 3 40 (fb 8 14) HT_ ?_;refine tk 0 37 (fb 8 15) HT_ HW_ hHeld ?_;refine tk 4 41 (fb 8 31) HT_ HW_ hHeld ?_;refine join_ (σ:=Nat) 1 (fb 8 127) (fun s_ => [(42,.agg #[.bool true,.string ab,.bool true]),(9,.pointer (some ⟨s_,0,none⟩))]) (fun s_ w'=>(w'.cell? ⟨ae,0,none⟩=some (.slice ac aa.length ad)∧w'.cell? (af.add (a6).toNat)=some (.string (rdOf ByteArray.empty a8 a6)))∧(Kd.R Kd.string 9 w' w.heap.size (fun _=>True) (.slice (some af) a8.length ce) a8)∧(Kd.R (Kd.int .u8) 5 w' w.heap.size (fun _=>True) u7 ai)∧(w'.heap[ae]? = some (.cells #[.slice ac aa.length ad] 32 (0,0)))∧(w'.heap[s_]? = some (.cells #[.bool false,.string (⟨#[]⟩:ByteArray),.bool false] 46 (0,0)))∧(w.heap.size≤s_)∧(w.heap.size≤s_)∧(ae≠s_)∧(s_≠ae)∧(Below w.heap.size w w')) ?_ ?_;rotate_left
                    ·intro hCont;refine two_ (i:=5) (j:=6) (Ni:=some 42) (Nj:=some 9) (fb 8 63) (fb 8 95) rfl rfl rfl rfl (two_of HT_.out (by kernel_rfl)) (by decide) (by decide) (fun K hK => ?_) (fun K hK => ?_)
                     ·skip
                      refine gs _ (#[.agg #[.slice ac aa.length ad],.string (rdOf ByteArray.empty a8 a6)]) Tryd.func19 ?_;(with_reducible refine (spec_l6At.calls k2 _ _ aa (rdOf ByteArray.empty a8 a6) true ab true _ ?side1 ?side2 b7.out).mono ?_);(case side1=>exact cb (Kd.C_below aU.out HB.out));(case side2=>exact aV.out);rintro e w42 ⟨rfl,hb⟩;have HS1_:=(hb.cell (World.block_lt_of_cell? _ _ (hHeld.2))).trans (hHeld.2);refine ⟨_,rfl,?_⟩;refine Ya4 (Kd.R_below (kr a3.out) hb) (Kd.R_below (kr a5.out) hb) (bb a2 hb) (below_step (bf HB.out) hb) ?_;clear a3 a5 a2 HB;intro a3 a5 a2 HB;(try clear hb);(try clear hb2);(try clear hk);(try clear hi);refine hK.out _ _ ⟨bc a2 0,HS1_⟩ (fun hHeld => ?_);clear hK K;refine nm 42 ?_;refine o1 6 (some 9) (fb 8 127) HT_ (fun K hK => ?_);refine bst 9 46 (#[.bool false,.string (⟨#[]⟩:ByteArray),.bool false]) ?_;intro a7 hg w43 hbox hb;have HS1_:=(hb.cell (World.block_lt_of_cell? _ _ (hHeld.2))).trans (hHeld.2);refine Ya9 (Kd.R_below (kr a3.out) hb) (Kd.R_below (kr a5.out) hb) (bb a2 hb) (below_step (bf HB.out) hb) (hbox) (bs hg (bf HB.out)) (bs hg (bf HB.out)) (bl hg a2) (br hg a2) ?_;clear a3 a5 a2 HB;intro a3 a5 a2 HB a4 au av ag aj;clear hb hbox hg;refine hK.out _ _ ⟨bc a2 0,HS1_⟩ (fun hHeld => ?_);clear hK K;refine nm 9 ?_;exact nc (hCont (a7) _ ⟨hHeld,(kr a3.out),(kr a5.out),(bk a2.out),(bk a4.out),au.out,av.out,ag.out,aj.out,(bf HB.out)⟩)
                     ·skip
                      refine bst 9 46 (#[.bool false,.string (⟨#[]⟩:ByteArray),.bool false]) ?_;intro a7 hg w42 hbox hb;have HS1_:=(hb.cell (World.block_lt_of_cell? _ _ (hHeld.2))).trans (hHeld.2);refine Ya9 (Kd.R_below (kr a3.out) hb) (Kd.R_below (kr a5.out) hb) (bb a2 hb) (below_step (bf HB.out) hb) (hbox) (bs hg (bf HB.out)) (bs hg (bf HB.out)) (bl hg a2) (br hg a2) ?_;clear a3 a5 a2 HB;intro a3 a5 a2 HB a4 au av ag aj;clear hb hbox hg;refine hK.out _ _ ⟨bc a2 0,HS1_⟩ (fun hHeld => ?_);clear hK K;refine nm 9 ?_;refine o1 5 (some 42) (fb 8 127) HT_ (fun K hK => ?_);refine gs _ (#[.agg #[.slice ac aa.length ad],.string (rdOf ByteArray.empty a8 a6)]) Tryd.func19 ?_;(with_reducible refine (spec_l6At.calls k2 _ _ aa (rdOf ByteArray.empty a8 a6) true ab true _ ?side1 ?side2 b7.out).mono ?_);(case side1=>exact cb (Kd.C_below aU.out HB.out));(case side2=>exact aV.out);rintro e w43 ⟨rfl,hb⟩;have HS1_:=(hb.cell (World.block_lt_of_cell? _ _ (hHeld.2))).trans (hHeld.2);refine ⟨_,rfl,?_⟩;refine Ya5 (Kd.R_below (kr a3.out) hb) (Kd.R_below (kr a5.out) hb) (bb a2 hb) (bb a4 hb) (below_step (bf HB.out) hb) ?_;clear a3 a5 a2 a4 HB;intro a3 a5 a2 a4 HB;(try clear hb);(try clear hb2);(try clear hk);(try clear hi);refine hK.out _ _ ⟨bc a2 0,HS1_⟩ (fun hHeld => ?_);clear hK K;refine nm 42 ?_;exact nc (hCont (a7) _ ⟨hHeld,(kr a3.out),(kr a5.out),(bk a2.out),(bk a4.out),au.out,av.out,ag.out,aj.out,(bf HB.out)⟩)
                    rintro a7 az ⟨hS_,h0_,h1_,h2_,h3_,h4_,h5_,h6_,h7_,h8_⟩
                    have ak:Aside0 (Kd.R Kd.string 9 az w.heap.size (fun _=>True) (.slice (some af) a8.length ce) a8):=⟨h0_⟩
                    have al:Aside0 (Kd.R (Kd.int .u8) 5 az w.heap.size (fun _=>True) u7 ai):=⟨h1_⟩
                    have am:Aside0 (az.heap[ae]? = some (.cells #[.slice ac aa.length ad] 32 (0,0))):=⟨h2_⟩
                    have an:Aside0 (az.heap[a7]? = some (.cells #[.bool false,.string (⟨#[]⟩:ByteArray),.bool false] 46 (0,0))):=⟨h3_⟩
                    have ao:Aside0 (w.heap.size≤a7):=⟨h4_⟩
                    have aX:Aside0 (w.heap.size≤a7):=⟨h5_⟩
                    have aY:Aside0 (ae≠a7):=⟨h6_⟩
                    have aZ:Aside0 (a7≠ae):=⟨h7_⟩
                    have b0:Aside0 (Below w.heap.size w az):=⟨h8_⟩
                    clear a3;clear a5;clear a2;clear HB;clear h0_ h1_ h2_ h3_ h4_ h5_ h6_ h7_ h8_;have a3:=ak;have a5:=al;have a2:=am;have a4:=an;have au:=ao;have av:=aX;have ag:=aY;have aj:=aZ;have HB:=b0;clear ak al am an ao aX aY aZ b0;have hHeld:az.cell? ⟨ae,0,none⟩=some (.slice ac aa.length ad)∧az.cell? (af.add (a6).toNat)=some (.string (rdOf ByteArray.empty a8 a6)):=hS_;refine norm_ (a':=?_) ?_ ?_;rotate_left
                    ·simp only [putAll,Act.put,List.setIfInBounds_toArray,List.set_cons_zero,List.set_cons_succ];rfl
                    refine o1 7 none (fb 8 255) HT_ (fun K hK => ?_);have ⟨hs45,hs46,hs47,hfs45,hfs46,hfs47⟩:=Yc3 a4.out;have dt:=ag.out;have du:=aj.out;refine skip_ (w1:=?_) (by rfl) rfl ?_ ?_;rotate_left
                    ·go_simp;rfl
                    refine hK.out _ _ ⟨((cell_far (p:=⟨a7,_,none⟩) ag.out _).trans (((cell_far (p:=⟨a7,_,none⟩) ag.out _).trans (((cell_far (p:=⟨a7,_,none⟩) ag.out _).trans (hHeld.1)))))),((cell_far (p:=⟨a7,_,none⟩) (by first|exact Kd.own_blk (Kd.R_ne a3.out a4.out (by decide))|(rw [add_block];exact Kd.own_blk (Kd.R_ne a3.out a4.out (by decide)))|(show (Addr.add _ _).block≠_;rw [add_block];exact Kd.own_blk (Kd.R_ne a3.out a4.out (by decide)))|(dsimp only;exact Kd.own_blk (Kd.R_ne a3.out a4.out (by decide)))) _).trans (((cell_far (p:=⟨a7,_,none⟩) (by first|exact Kd.own_blk (Kd.R_ne a3.out a4.out (by decide))|(rw [add_block];exact Kd.own_blk (Kd.R_ne a3.out a4.out (by decide)))|(show (Addr.add _ _).block≠_;rw [add_block];exact Kd.own_blk (Kd.R_ne a3.out a4.out (by decide)))|(dsimp only;exact Kd.own_blk (Kd.R_ne a3.out a4.out (by decide)))) _).trans (((cell_far (p:=⟨a7,_,none⟩) (by first|exact Kd.own_blk (Kd.R_ne a3.out a4.out (by decide))|(rw [add_block];exact Kd.own_blk (Kd.R_ne a3.out a4.out (by decide)))|(show (Addr.add _ _).block≠_;rw [add_block];exact Kd.own_blk (Kd.R_ne a3.out a4.out (by decide)))|(dsimp only;exact Kd.own_blk (Kd.R_ne a3.out a4.out (by decide)))) _).trans (hHeld.2))))))⟩ (fun hHeld => ?_);clear hK K;refine done_ (done_of HT_.out (by kernel_rfl)) ?_
                    try go_wp2
                    have ak:Aside0 (Kd.R Kd.string 9 (((az.setCell ⟨a7,0,none⟩ (.bool true)).setCell ⟨a7,1,none⟩ (.string ab)).setCell ⟨a7,2,none⟩ (.bool true)) w.heap.size (fun _=>True) (.slice (some af) a8.length ce) a8):=⟨by (with_reducible repeat (first|apply Kd.R_alloc|apply Kd.R_drewN|apply Kd.R_drew));exact Kd.R_mono (Kd.R_far (p:=⟨a7,2,none⟩) (Kd.R_far (p:=⟨a7,1,none⟩) (Kd.R_far (p:=⟨a7,0,none⟩) (Kd.R_types a3.out a4.out (by decide)) (fun _ hk=>hk.2) (.bool true)) (fun _ hk=>hk.2) (.string ab)) (fun _ hk=>hk.2) (.bool true)) (fun _ hk=>trivial)⟩
                    have al:Aside0 (Kd.R (Kd.int .u8) 5 (((az.setCell ⟨a7,0,none⟩ (.bool true)).setCell ⟨a7,1,none⟩ (.string ab)).setCell ⟨a7,2,none⟩ (.bool true)) w.heap.size (fun _=>True) u7 ai):=⟨by (with_reducible repeat (first|apply Kd.R_alloc|apply Kd.R_drewN|apply Kd.R_drew));exact Kd.R_mono (Kd.R_far (p:=⟨a7,2,none⟩) (Kd.R_far (p:=⟨a7,1,none⟩) (Kd.R_far (p:=⟨a7,0,none⟩) (Kd.R_types a5.out a4.out (by decide)) (fun _ hk=>hk.2) (.bool true)) (fun _ hk=>hk.2) (.string ab)) (fun _ hk=>hk.2) (.bool true)) (fun _ hk=>trivial)⟩
                    have am:Aside0 ((((az.setCell ⟨a7,0,none⟩ (.bool true)).setCell ⟨a7,1,none⟩ (.string ab)).setCell ⟨a7,2,none⟩ (.bool true)).heap[ae]? = some (.cells #[.slice ac aa.length ad] 32 (0,0))):=⟨bkf a2.out ag.out⟩
                    have an:Aside0 ((((az.setCell ⟨a7,0,none⟩ (.bool true)).setCell ⟨a7,1,none⟩ (.string ab)).setCell ⟨a7,2,none⟩ (.bool true)).heap[a7]? = some (.cells #[.bool true,.string ab,.bool true] 46 (0,0))):=⟨bp a4.out⟩
                    have ao:Aside0 (Below w.heap.size w (((az.setCell ⟨a7,0,none⟩ (.bool true)).setCell ⟨a7,1,none⟩ (.string ab)).setCell ⟨a7,2,none⟩ (.bool true))):=⟨bf HB.out⟩
                    (try clear a3);(try clear a5);(try clear a2);(try clear a4);(try clear HB);generalize (((az.setCell ⟨a7,0,none⟩ (.bool true)).setCell ⟨a7,1,none⟩ (.string ab)).setCell ⟨a7,2,none⟩ (.bool true))=w48 at ak al am an ao ⊢; have a3:=ak;have a5:=al;have a2:=am;have a4:=an;have HB:=ao;clear ak al am an ao;refine Ya5 (Kd.R_drew a3.out) (Kd.R_drew a5.out) (blk_drew a2.out) (blk_drew a4.out) (below_drew1 HB.out) ?_;clear a3 a5 a2 a4 HB;intro a3 a5 a2 a4 HB;have aH:0≤(a6:Int):=oda;have aI:a6<(a8.length:Int):=oda;obtain ⟨bq,bu,b1⟩:=Kd.at_string (Kd.R_reads' a3.out).2.2 a6 aH aI
                    obtain rfl:af=bq:=(by injection bu)
                    replace aH:=eq_true aH;replace aI:=eq_true aI;have aJ:0≤(a6:Int):=oda;have aK:a6<(a8.length:Int):=oda;obtain ⟨bv,bw,b2⟩:=Kd.at_string (Kd.R_reads' a3.out).2.2 a6 aJ aK
                    obtain rfl:af=bv:=(by injection bw)
                    replace aJ:=eq_true aJ;replace aK:=eq_true aK;refine start_ (n:=19) (S:=fun w'=>w'.cell? ⟨ae,0,none⟩=some (.slice ac aa.length ad)∧w'.cell? (af.add (a6).toNat)=some (.string (rdOf ByteArray.empty a8 a6))∧w'.cell? (af.add (a6).toNat)=some (.string (rdOf ByteArray.empty a8 a6))) (ds:=[]) (fb 19 0) (by kernel_rfl) rfl rfl ⟨bc a2 0,b1,b2⟩ (fun hHeld => ?_);refine with_tabW spec_l9Dir.tab11 spec_l9Dir.bits11 (fun HT_ HW_ => ?_);generalize w48.drew=w49 at a3 a5 a2 a4 HB b1 b2 hHeld ⊢; refine pu 0 43 (fb 19 1) HT_ ?_;refine pu 1 44 (fb 19 3) HT_ ?_;refine pu 2 45 (fb 19 7) HT_ ?_;refine pu 7 50 (fb 19 135) HT_ ?_;refine pu 8 51 (fb 19 391) HT_ ?_;refine pu 9 52 (fb 19 903) HT_ ?_;refine pu 12 55 (fb 19 4999) HT_ ?_;refine pu 14 57 (fb 19 21383) HT_ ?_;refine tk 3 46 (fb 19 21391) HT_ HW_ hHeld ?_;refine pu 4 47 (fb 19 21407) HT_ ?_;refine pu 5 48 (fb 19 21439) HT_ ?_;refine tk 6 49 (fb 19 21503) HT_ HW_ hHeld ?_;refine tk 10 53 (fb 19 22527) HT_ HW_ hHeld ?_;refine o1 11 (some 54) (fb 19 24575) HT_ (fun K hK => ?_);refine gs _ (#[.agg #[.slice ac aa.length ad],.string (rdOf ByteArray.empty a8 a6)]) Tryd.func18 ?_;(with_reducible refine (spec_l9Under.calls k2 _ _ aa (rdOf ByteArray.empty a8 a6) aw _ ?side1 ?side2 c0.out).mono ?_);(case side1=>exact cb (Kd.C_below aU.out HB.out));(case side2=>exact aV.out);rintro e w50 ⟨cv,rfl,ho0,hb⟩;have HS1_:=(hb.cell (World.block_lt_of_cell? _ _ (hHeld.2.1))).trans (hHeld.2.1);have HS2_:=(hb.cell (World.block_lt_of_cell? _ _ (hHeld.2.2))).trans (hHeld.2.2);refine ⟨_,rfl,?_⟩;refine Ya6 (Kd.R_below (kr a3.out) hb) (Kd.R_below (kr a5.out) hb) (Kd.R_lower ho0 (below_size (bf HB.out))) (bb a2 hb) (bb a4 hb) (below_step (bf HB.out) hb) ?_;clear a3 a5 a2 a4 HB;intro a3 a5 a9 a2 a4 HB;(try clear hb);(try clear hb2);(try clear hk);(try clear hi);(try clear ho0);obtain ⟨d4,d5,cw⟩:=Kd.R_slice a9.out;(first|subst cw|(injection cw with f1_ f2_ f3_;have f4_:=f1_.symm;have f5_:=f3_.symm;clear f1_ f2_ f3_;subst f4_;subst f5_));refine hK.out _ _ ⟨bc a2 0,HS1_,HS2_⟩ (fun hHeld => ?_);clear hK K;refine nm 54 ?_;refine o1 13 (some 56) (fb 19 32767) HT_ (fun K hK => ?_);refine gs _ (#[.agg #[.slice d4 aw.length d5],.int .i64 a1]) Tryd.func16 ?_;(with_reducible refine (ih k2 (by have:=HK1.out;have:=HK2.out;omega) _ _ aw a1 ax _ ?side1 ?side2 ca.out).mono ?_);(case side1=>repeat (first|exact (Kd.R_reads' a9.out).2.2|(with_reducible refine Kd.C_alloc ?_ _)|(with_reducible refine Kd.C_drewN ?_ _)|(with_reducible refine Kd.C_drew ?_)));(case side2=>exact (Kd.R_reads' a9.out).2.1);rintro e w52 ⟨rfl,hb⟩;have HS1_:=(hb.cell (World.block_lt_of_cell? _ _ (hHeld.2.1))).trans (hHeld.2.1);have HS2_:=(hb.cell (World.block_lt_of_cell? _ _ (hHeld.2.2))).trans (hHeld.2.2);refine ⟨_,rfl,?_⟩;refine Ya6 (Kd.R_below (kr a3.out) hb) (Kd.R_below (kr a5.out) hb) (Kd.R_below (kr a9.out) hb) (bb a2 hb) (bb a4 hb) (below_step (bf HB.out) hb) ?_;clear a3 a5 a9 a2 a4 HB;intro a3 a5 a9 a2 a4 HB;(try clear hb);(try clear hb2);(try clear hk);(try clear hi);refine hK.out _ _ ⟨bc a2 0,HS1_,HS2_⟩ (fun hHeld => ?_);clear hK K;refine nm 56 ?_;refine o1 15 (some 58) (fb 19 65535) HT_ (fun K hK => ?_);refine gs _ (#[.string ax,.int .i64 a1]) Tryd.func37 ?_;(with_reducible refine (spec_Sum.calls k2 ax a1 ay _ cc.out).mono ?_);rintro e w53 ⟨rfl,hb⟩;have HS1_:=(hb.cell (World.block_lt_of_cell? _ _ (hHeld.2.1))).trans (hHeld.2.1);have HS2_:=(hb.cell (World.block_lt_of_cell? _ _ (hHeld.2.2))).trans (hHeld.2.2);refine ⟨_,rfl,?_⟩;refine Ya6 (Kd.R_below (kr a3.out) hb) (Kd.R_below (kr a5.out) hb) (Kd.R_below (kr a9.out) hb) (bb a2 hb) (bb a4 hb) (below_step (bf HB.out) hb) ?_;clear a3 a5 a9 a2 a4 HB;intro a3 a5 a9 a2 a4 HB;(try clear hb);(try clear hb2);(try clear hk);(try clear hi);refine hK.out _ _ ⟨bc a2 0,HS1_,HS2_⟩ (fun hHeld => ?_);clear hK K;refine nm 58 ?_;refine o1 16 (some 59) (fb 19 131071) HT_ (fun K hK => ?_);refine gs _ (#[.string ay]) Tryd.func36 ?_;(with_reducible refine (spec_l9Hex.calls k2 ay ap _ cd.out).mono ?_);rintro e w54 ⟨rfl,hb⟩;have HS1_:=(hb.cell (World.block_lt_of_cell? _ _ (hHeld.2.1))).trans (hHeld.2.1);have HS2_:=(hb.cell (World.block_lt_of_cell? _ _ (hHeld.2.2))).trans (hHeld.2.2);refine ⟨_,rfl,?_⟩;refine Ya6 (Kd.R_below (kr a3.out) hb) (Kd.R_below (kr a5.out) hb) (Kd.R_below (kr a9.out) hb) (bb a2 hb) (bb a4 hb) (below_step (bf HB.out) hb) ?_;clear a3 a5 a9 a2 a4 HB;intro a3 a5 a9 a2 a4 HB;(try clear hb);(try clear hb2);(try clear hk);(try clear hi);refine hK.out _ _ ⟨bc a2 0,HS1_,HS2_⟩ (fun hHeld => ?_);clear hK K;refine nm 59 ?_;refine pu 17 60 (fb 19 262143) HT_ ?_;refine pu 18 10 (fb 19 524287) HT_ ?_;refine done_ (done_of HT_.out (by kernel_rfl)) ?_;have hnb55:=aj.out;have hnc55:=ag.out;have ⟨dv,dw,dx,dy,dA,dB⟩:=Yc3 a4.out
                    try go_wp2
                    refine Ya6 (Kd.R_drew a3.out) (Kd.R_drew a5.out) (Kd.R_drew a9.out) (blk_drew a2.out) (blk_drew a4.out) (below_drew1 HB.out) ?_;clear a3 a5 a9 a2 a4 HB;intro a3 a5 a9 a2 a4 HB;have b3:0≤(a6:Int):=oda;have b4:a6<(a8.length:Int):=oda;obtain ⟨cf,cg,bz⟩:=Kd.at_string (Kd.R_reads' a3.out).2.2 a6 b3 b4
                    obtain rfl:af=cf:=(by injection cg)
                    replace b3:=eq_true b3;replace b4:=eq_true b4;refine start_ (n:=14) (S:=fun w'=>w'.cell? ⟨a7,0,none⟩=some (.bool true)∧w'.cell? ⟨a7,1,none⟩=some (.string ab)∧w'.cell? ⟨a7,2,none⟩=some (.bool true)∧w'.cell? (af.add (a6).toNat)=some (.string (rdOf ByteArray.empty a8 a6))) (ds:=[]) (fb 14 0) (by kernel_rfl) rfl rfl ⟨bc a4 0,bc a4 1,bc a4 2,bz⟩ (fun hHeld => ?_);refine with_tabW spec_l9Dir.tab13 spec_l9Dir.bits13 (fun HT_ HW_ => ?_);generalize w54.drew=w57 at a3 a5 a9 a2 a4 HB bz hHeld ⊢; refine pu 0 63 (fb 14 1) HT_ ?_;refine pu 1 64 (fb 14 3) HT_ ?_;refine pu 2 65 (fb 14 7) HT_ ?_;refine pu 6 69 (fb 14 71) HT_ ?_;refine pu 9 72 (fb 14 583) HT_ ?_;refine tk 3 66 (fb 14 591) HT_ HW_ hHeld ?_;refine pu 4 67 (fb 14 607) HT_ ?_;refine pu 5 68 (fb 14 639) HT_ ?_;refine tk 7 70 (fb 14 767) HT_ HW_ hHeld ?_;refine pu 8 71 (fb 14 1023) HT_ ?_;refine o1 10 (some 73) (fb 14 2047) HT_ (fun K hK => ?_);refine gs _ (#[.string ((⟨#[102,105,108,101,32]⟩:ByteArray)++ab),.int .i64 a1]) Tryd.func37 ?_;(with_reducible refine (spec_Sum.calls k2 ((⟨#[102,105,108,101,32]⟩:ByteArray)++ab) a1 aN _ A32.out).mono ?_);rintro e w58 ⟨rfl,hb⟩;have HS3_:=(hb.cell (World.block_lt_of_cell? _ _ (hHeld.2.2.2))).trans (hHeld.2.2.2);refine ⟨_,rfl,?_⟩;refine Ya6 (Kd.R_below (kr a3.out) hb) (Kd.R_below (kr a5.out) hb) (Kd.R_below (kr a9.out) hb) (bb a2 hb) (bb a4 hb) (below_step (bf HB.out) hb) ?_;clear a3 a5 a9 a2 a4 HB;intro a3 a5 a9 a2 a4 HB;(try clear hb);(try clear hb2);(try clear hk);(try clear hi);refine hK.out _ _ ⟨bc a4 0,bc a4 1,bc a4 2,HS3_⟩ (fun hHeld => ?_);clear hK K;refine nm 73 ?_;refine o1 11 (some 74) (fb 14 4095) HT_ (fun K hK => ?_);refine gs _ (#[.string aN]) Tryd.func36 ?_;(with_reducible refine (spec_l9Hex.calls k2 aN ah _ A33.out).mono ?_);rintro e w59 ⟨rfl,hb⟩;have HS3_:=(hb.cell (World.block_lt_of_cell? _ _ (hHeld.2.2.2))).trans (hHeld.2.2.2);refine ⟨_,rfl,?_⟩;refine Ya6 (Kd.R_below (kr a3.out) hb) (Kd.R_below (kr a5.out) hb) (Kd.R_below (kr a9.out) hb) (bb a2 hb) (bb a4 hb) (below_step (bf HB.out) hb) ?_;clear a3 a5 a9 a2 a4 HB;intro a3 a5 a9 a2 a4 HB;(try clear hb);(try clear hb2);(try clear hk);(try clear hi);refine hK.out _ _ ⟨bc a4 0,bc a4 1,bc a4 2,HS3_⟩ (fun hHeld => ?_);clear hK K;refine nm 74 ?_;refine pu 12 75 (fb 14 8191) HT_ ?_;refine pu 13 10 (fb 14 16383) HT_ ?_;refine done_ (done_of HT_.out (by kernel_rfl)) ?_;have ⟨dC,dD,dE,dF,dG,dH⟩:=Yc3 a4.out;(try rw [←NLN_.out])
                    try go_wp2_with (first|(at_builtin;refine print_append_str (w0:=w) w.heap.size rfl (.tmp 81) _ 64 9 5 rfl Tryd.underlying64 Tryd.underlying9 info5 u7 ai ((⟨#[120]⟩:ByteArray)++(LN_.extract 1 LN_.size)) rfl rfl ?aO ?aB ?aS ?aL ?_;(case aB=>exact (bf HB.out));(case aO=>exact (Kd.own_of_R (kr a5.out)));(case aS=>exact (below_size (bf HB.out)));(case aL=>have:=cY.out;omega);intro cx w61 ho0 hb hg;have ho:=Kd.R_of_own (h1:=fun _=>rfl) (ok:=fun _=>True) ho0 (fun _ _=>trivial);clear ho0;have hat:=True.intro;rw [←cZ.out] at ho;change Kd.R (Kd.int .u8) 5 w61 w.heap.size (fun _=>True) cx aQ at ho;refine Ya6 (Kd.R_over' (kr a3.out) (Kd.R_typed (kr a5.out)) (by decide) hg) (blk_grown (g:=ae) (o:=.cells #[.slice ac aa.length ad] 32 (0,0)) (bk a2.out) hg (Kd.R_ne a5.out a2.out (by decide))) (blk_grown (g:=a7) (o:=.cells #[.bool true,.string ab,.bool true] 46 (0,0)) (bk a4.out) hg (Kd.R_ne a5.out a4.out (by decide))) (Kd.R_over' (kr a9.out) (Kd.R_typed (kr a5.out)) (by decide) hg) (hb) (ho) ?_;clear a3 a2 a4 a9 HB a5;intro a3 a2 a4 a9 HB bh;clear ho hb hg hat)|((with_reducible refine gate_builtin (b:=.append) (xs:=#[.tmp 84,.tmp 85]) rfl ?_);at_builtin;refine Kd.R_append (Kd.int .u8) (w0:=w) w.heap.size rfl (.tmp 84) (.tmp 85) 64 5 (.int .u8 0) 1 rfl Tryd.underlying64 info5 rfl (by decide) (by omega) cx aQ 10 [.int .u8 10] (fun _=>True) (fun _=>False) rfl rfl ?aP (fun _ hk=>hk.elim) ?aF ?aO ?aB ?aS ?aL ?_;(case aP=>exact rfl);(case aB=>exact (bf HB.out));(case aF=>exact (fun _ _=>trivial));(case aO=>exact (kr bh.out));(case aS=>exact (below_size (bf HB.out)));(case aL=>have:=d0.out;omega);intro v214 w62 ho hb hg hat;rw [←d2.out] at ho;refine Ya6 (Kd.R_over' (kr a3.out) (Kd.R_typed (kr bh.out)) (by decide) hg) (blk_grown (g:=ae) (o:=.cells #[.slice ac aa.length ad] 32 (0,0)) (bk a2.out) hg (Kd.R_ne bh.out a2.out (by decide))) (blk_grown (g:=a7) (o:=.cells #[.bool true,.string ab,.bool true] 46 (0,0)) (bk a4.out) hg (Kd.R_ne bh.out a4.out (by decide))) (Kd.R_over' (kr a9.out) (Kd.R_typed (kr bh.out)) (by decide) hg) (hb) (ho) ?_;clear a3 a2 a4 a9 HB bh;intro a3 a2 a4 a9 HB d6;clear ho hb hg hat))
                    go_roundg k2
                    case measure=>have:=HK1.out;have:=HK2.out;omega
                    case rel=>exact ⟨(d1),(wrap64 (a6+1)),Ye1,H',⟨by have:=HK1.out;have:=HK2.out;omega⟩,⟨kr a3.out⟩,⟨kr d6.out⟩,⟨bk a2.out⟩,⟨bf HB.out⟩⟩
                   ·rw [if_neg bN] at H
                    exact absurd H (by simp)
                  ·rw [if_neg bL] at H
                   exact absurd H (by simp)
                 ·rw [if_neg bg] at H
                  exact absurd H (by simp)
                ·rw [if_neg bK] at H
                 exact absurd H (by simp)
               ·replace bJ:=Bool.eq_false_iff.mpr bJ;subst bJ
                rw [if_neg (show ¬(false=true) by decide)] at H
                by_cases bP:ai.length+LN_.size<140737488355328
                ·rw [if_pos bP] at H
                 have d7:=Aside0.mk bP;clear bP
                 obtain ⟨aR,bQ⟩:∃ y_:List Int,y_=(ai++bytesOf LN_):=⟨_,rfl⟩
                 (first|replace H:=bl_ bQ H|rw [←bQ] at H);(try dsimp only at H);have d8:=Aside0.mk bQ;clear bQ
                 by_cases bR:aR.length<140737488355328
                 ·rw [if_pos bR] at H
                  have d9:=Aside0.mk bR;clear bR
                  obtain ⟨da,bS⟩:∃ y_:List Int,y_=(aR ++ [10]):=⟨_,rfl⟩
                  (first|replace H:=bl_ bS H|rw [←bS] at H);(try dsimp only at H);have db:=Aside0.mk bS;clear bS;have H':=Aside0.mk H;clear H;obtain ⟨Ao65,ch,dc⟩:=Kd.R_slice a3.out;subst dc
                  try go_wp2
                  refine Ya4 (Kd.R_drew a3.out) (Kd.R_drew a5.out) (blk_drew a2.out) (below_drew1 HB.out) ?_;clear a3 a5 a2 HB;intro a3 a5 a2 HB;have aE:0≤(a6:Int):=oda;have aG:a6<(a8.length:Int):=oda;obtain ⟨af,bo,aW⟩:=Kd.at_string (Kd.R_reads' a3.out).2.2 a6 aE aG
                  cases bo
                  replace aE:=eq_true aE;replace aG:=eq_true aG;refine start_ (n:=8) (S:=fun w'=>w'.cell? ⟨ae,0,none⟩=some (.slice ac aa.length ad)∧w'.cell? (af.add (a6).toNat)=some (.string (rdOf ByteArray.empty a8 a6))) (ds:=[]) (fb 8 0) (by kernel_rfl) rfl rfl ⟨bc a2 0,aW⟩ (fun hHeld => ?_);refine with_tabW spec_l9Dir.tab10 spec_l9Dir.bits10 (fun HT_ HW_ => ?_);generalize wr.drew=w66 at a3 a5 a2 HB aW hHeld ⊢; refine pu 1 38 (fb 8 2) HT_ ?_;refine pu 2 39 (fb 8 6) HT_ ?_;refine pu 3 40 (fb 8 14) HT_ ?_;refine tk 0 37 (fb 8 15) HT_ HW_ hHeld ?_;refine tk 4 41 (fb 8 31) HT_ HW_ hHeld ?_;refine join_ (σ:=Nat) 1 (fb 8 127) (fun s_ => [(42,.agg #[.bool true,.string ab,.bool false]),(9,.pointer (some ⟨s_,0,none⟩))]) (fun s_ w'=>(w'.cell? ⟨ae,0,none⟩=some (.slice ac aa.length ad)∧w'.cell? (af.add (a6).toNat)=some (.string (rdOf ByteArray.empty a8 a6)))∧(Kd.R Kd.string 9 w' w.heap.size (fun _=>True) (.slice (some af) a8.length ch) a8)∧(Kd.R (Kd.int .u8) 5 w' w.heap.size (fun _=>True) u7 ai)∧(w'.heap[ae]? = some (.cells #[.slice ac aa.length ad] 32 (0,0)))∧(w'.heap[s_]? = some (.cells #[.bool false,.string (⟨#[]⟩:ByteArray),.bool false] 46 (0,0)))∧(w.heap.size≤s_)∧(w.heap.size≤s_)∧(ae≠s_)∧(s_≠ae)∧(Below w.heap.size w w')) ?_ ?_;rotate_left
                  ·intro hCont;refine two_ (i:=5) (j:=6) (Ni:=some 42) (Nj:=some 9) (fb 8 63) (fb 8 95) rfl rfl rfl rfl (two_of HT_.out (by kernel_rfl)) (by decide) (by decide) (fun K hK => ?_) (fun K hK => ?_)
                   ·skip
                    refine gs _ (#[.agg #[.slice ac aa.length ad],.string (rdOf ByteArray.empty a8 a6)]) Tryd.func19 ?_;(with_reducible refine (spec_l6At.calls k2 _ _ aa (rdOf ByteArray.empty a8 a6) true ab false _ ?side1 ?side2 b7.out).mono ?_);(case side1=>exact cb (Kd.C_below aU.out HB.out));(case side2=>exact aV.out);rintro e w67 ⟨rfl,hb⟩;have HS1_:=(hb.cell (World.block_lt_of_cell? _ _ (hHeld.2))).trans (hHeld.2);refine ⟨_,rfl,?_⟩;refine Ya4 (Kd.R_below (kr a3.out) hb) (Kd.R_below (kr a5.out) hb) (bb a2 hb) (below_step (bf HB.out) hb) ?_;clear a3 a5 a2 HB;intro a3 a5 a2 HB;(try clear hb);(try clear hb2);(try clear hk);(try clear hi);refine hK.out _ _ ⟨bc a2 0,HS1_⟩ (fun hHeld => ?_);clear hK K;refine nm 42 ?_;refine o1 6 (some 9) (fb 8 127) HT_ (fun K hK => ?_);refine bst 9 46 (#[.bool false,.string (⟨#[]⟩:ByteArray),.bool false]) ?_;intro a7 hg w68 hbox hb;have HS1_:=(hb.cell (World.block_lt_of_cell? _ _ (hHeld.2))).trans (hHeld.2);refine Ya9 (Kd.R_below (kr a3.out) hb) (Kd.R_below (kr a5.out) hb) (bb a2 hb) (below_step (bf HB.out) hb) (hbox) (bs hg (bf HB.out)) (bs hg (bf HB.out)) (bl hg a2) (br hg a2) ?_;clear a3 a5 a2 HB;intro a3 a5 a2 HB a4 au av ag aj;clear hb hbox hg;refine hK.out _ _ ⟨bc a2 0,HS1_⟩ (fun hHeld => ?_);clear hK K;refine nm 9 ?_;exact nc (hCont (a7) _ ⟨hHeld,(kr a3.out),(kr a5.out),(bk a2.out),(bk a4.out),au.out,av.out,ag.out,aj.out,(bf HB.out)⟩)
                   ·skip
                    refine bst 9 46 (#[.bool false,.string (⟨#[]⟩:ByteArray),.bool false]) ?_;intro a7 hg w67 hbox hb;have HS1_:=(hb.cell (World.block_lt_of_cell? _ _ (hHeld.2))).trans (hHeld.2);refine Ya9 (Kd.R_below (kr a3.out) hb) (Kd.R_below (kr a5.out) hb) (bb a2 hb) (below_step (bf HB.out) hb) (hbox) (bs hg (bf HB.out)) (bs hg (bf HB.out)) (bl hg a2) (br hg a2) ?_;clear a3 a5 a2 HB;intro a3 a5 a2 HB a4 au av ag aj;clear hb hbox hg;refine hK.out _ _ ⟨bc a2 0,HS1_⟩ (fun hHeld => ?_);clear hK K;refine nm 9 ?_;refine o1 5 (some 42) (fb 8 127) HT_ (fun K hK => ?_);refine gs _ (#[.agg #[.slice ac aa.length ad],.string (rdOf ByteArray.empty a8 a6)]) Tryd.func19 ?_;(with_reducible refine (spec_l6At.calls k2 _ _ aa (rdOf ByteArray.empty a8 a6) true ab false _ ?side1 ?side2 b7.out).mono ?_);(case side1=>exact cb (Kd.C_below aU.out HB.out));(case side2=>exact aV.out);rintro e w68 ⟨rfl,hb⟩;have HS1_:=(hb.cell (World.block_lt_of_cell? _ _ (hHeld.2))).trans (hHeld.2);refine ⟨_,rfl,?_⟩;refine Ya5 (Kd.R_below (kr a3.out) hb) (Kd.R_below (kr a5.out) hb) (bb a2 hb) (bb a4 hb) (below_step (bf HB.out) hb) ?_;clear a3 a5 a2 a4 HB;intro a3 a5 a2 a4 HB;(try clear hb);(try clear hb2);(try clear hk);(try clear hi);refine hK.out _ _ ⟨bc a2 0,HS1_⟩ (fun hHeld => ?_);clear hK K;refine nm 42 ?_;exact nc (hCont (a7) _ ⟨hHeld,(kr a3.out),(kr a5.out),(bk a2.out),(bk a4.out),au.out,av.out,ag.out,aj.out,(bf HB.out)⟩)
                  rintro a7 aA ⟨hS_,h0_,h1_,h2_,h3_,h4_,h5_,h6_,h7_,h8_⟩
                  have ak:Aside0 (Kd.R Kd.string 9 aA w.heap.size (fun _=>True) (.slice (some af) a8.length ch) a8):=⟨h0_⟩
                  have al:Aside0 (Kd.R (Kd.int .u8) 5 aA w.heap.size (fun _=>True) u7 ai):=⟨h1_⟩
                  have am:Aside0 (aA.heap[ae]? = some (.cells #[.slice ac aa.length ad] 32 (0,0))):=⟨h2_⟩
                  have an:Aside0 (aA.heap[a7]? = some (.cells #[.bool false,.string (⟨#[]⟩:ByteArray),.bool false] 46 (0,0))):=⟨h3_⟩
                  have ao:Aside0 (w.heap.size≤a7):=⟨h4_⟩
                  have aX:Aside0 (w.heap.size≤a7):=⟨h5_⟩
                  have aY:Aside0 (ae≠a7):=⟨h6_⟩
                  have aZ:Aside0 (a7≠ae):=⟨h7_⟩
                  have b0:Aside0 (Below w.heap.size w aA):=⟨h8_⟩
                  clear a3;clear a5;clear a2;clear HB;clear h0_ h1_ h2_ h3_ h4_ h5_ h6_ h7_ h8_;have a3:=ak;have a5:=al;have a2:=am;have a4:=an;have au:=ao;have av:=aX;have ag:=aY;have aj:=aZ;have HB:=b0;clear ak al am an ao aX aY aZ b0;have hHeld:aA.cell? ⟨ae,0,none⟩=some (.slice ac aa.length ad)∧aA.cell? (af.add (a6).toNat)=some (.string (rdOf ByteArray.empty a8 a6)):=hS_;refine norm_ (a':=?_) ?_ ?_;rotate_left
                  ·simp only [putAll,Act.put,List.setIfInBounds_toArray,List.set_cons_zero,List.set_cons_succ];rfl
                  refine o1 7 none (fb 8 255) HT_ (fun K hK => ?_);have ⟨hs70,hs71,hs72,hfs70,hfs71,hfs72⟩:=Yc3 a4.out;have dI:=ag.out;have dJ:=aj.out;refine skip_ (w1:=?_) (by rfl) rfl ?_ ?_;rotate_left
                  ·go_simp;rfl
                  refine hK.out _ _ ⟨((cell_far (p:=⟨a7,_,none⟩) ag.out _).trans (((cell_far (p:=⟨a7,_,none⟩) ag.out _).trans (((cell_far (p:=⟨a7,_,none⟩) ag.out _).trans (hHeld.1)))))),((cell_far (p:=⟨a7,_,none⟩) (by first|exact Kd.own_blk (Kd.R_ne a3.out a4.out (by decide))|(rw [add_block];exact Kd.own_blk (Kd.R_ne a3.out a4.out (by decide)))|(show (Addr.add _ _).block≠_;rw [add_block];exact Kd.own_blk (Kd.R_ne a3.out a4.out (by decide)))|(dsimp only;exact Kd.own_blk (Kd.R_ne a3.out a4.out (by decide)))) _).trans (((cell_far (p:=⟨a7,_,none⟩) (by first|exact Kd.own_blk (Kd.R_ne a3.out a4.out (by decide))|(rw [add_block];exact Kd.own_blk (Kd.R_ne a3.out a4.out (by decide)))|(show (Addr.add _ _).block≠_;rw [add_block];exact Kd.own_blk (Kd.R_ne a3.out a4.out (by decide)))|(dsimp only;exact Kd.own_blk (Kd.R_ne a3.out a4.out (by decide)))) _).trans (((cell_far (p:=⟨a7,_,none⟩) (by first|exact Kd.own_blk (Kd.R_ne a3.out a4.out (by decide))|(rw [add_block];exact Kd.own_blk (Kd.R_ne a3.out a4.out (by decide)))|(show (Addr.add _ _).block≠_;rw [add_block];exact Kd.own_blk (Kd.R_ne a3.out a4.out (by decide)))|(dsimp only;exact Kd.own_blk (Kd.R_ne a3.out a4.out (by decide)))) _).trans (hHeld.2))))))⟩ (fun hHeld => ?_);clear hK K;refine done_ (done_of HT_.out (by kernel_rfl)) ?_
                  try go_wp2
                  have ak:Aside0 (Kd.R Kd.string 9 (((aA.setCell ⟨a7,0,none⟩ (.bool true)).setCell ⟨a7,1,none⟩ (.string ab)).setCell ⟨a7,2,none⟩ (.bool false)) w.heap.size (fun _=>True) (.slice (some af) a8.length ch) a8):=⟨by (with_reducible repeat (first|apply Kd.R_alloc|apply Kd.R_drewN|apply Kd.R_drew));exact Kd.R_mono (Kd.R_far (p:=⟨a7,2,none⟩) (Kd.R_far (p:=⟨a7,1,none⟩) (Kd.R_far (p:=⟨a7,0,none⟩) (Kd.R_types a3.out a4.out (by decide)) (fun _ hk=>hk.2) (.bool true)) (fun _ hk=>hk.2) (.string ab)) (fun _ hk=>hk.2) (.bool false)) (fun _ hk=>trivial)⟩
                  have al:Aside0 (Kd.R (Kd.int .u8) 5 (((aA.setCell ⟨a7,0,none⟩ (.bool true)).setCell ⟨a7,1,none⟩ (.string ab)).setCell ⟨a7,2,none⟩ (.bool false)) w.heap.size (fun _=>True) u7 ai):=⟨by (with_reducible repeat (first|apply Kd.R_alloc|apply Kd.R_drewN|apply Kd.R_drew));exact Kd.R_mono (Kd.R_far (p:=⟨a7,2,none⟩) (Kd.R_far (p:=⟨a7,1,none⟩) (Kd.R_far (p:=⟨a7,0,none⟩) (Kd.R_types a5.out a4.out (by decide)) (fun _ hk=>hk.2) (.bool true)) (fun _ hk=>hk.2) (.string ab)) (fun _ hk=>hk.2) (.bool false)) (fun _ hk=>trivial)⟩
                  have am:Aside0 ((((aA.setCell ⟨a7,0,none⟩ (.bool true)).setCell ⟨a7,1,none⟩ (.string ab)).setCell ⟨a7,2,none⟩ (.bool false)).heap[ae]? = some (.cells #[.slice ac aa.length ad] 32 (0,0))):=⟨bkf a2.out ag.out⟩
                  have an:Aside0 ((((aA.setCell ⟨a7,0,none⟩ (.bool true)).setCell ⟨a7,1,none⟩ (.string ab)).setCell ⟨a7,2,none⟩ (.bool false)).heap[a7]? = some (.cells #[.bool true,.string ab,.bool false] 46 (0,0))):=⟨bp a4.out⟩
                  have ao:Aside0 (Below w.heap.size w (((aA.setCell ⟨a7,0,none⟩ (.bool true)).setCell ⟨a7,1,none⟩ (.string ab)).setCell ⟨a7,2,none⟩ (.bool false))):=⟨bf HB.out⟩
                  (try clear a3);(try clear a5);(try clear a2);(try clear a4);(try clear HB);generalize (((aA.setCell ⟨a7,0,none⟩ (.bool true)).setCell ⟨a7,1,none⟩ (.string ab)).setCell ⟨a7,2,none⟩ (.bool false))=w73 at ak al am an ao ⊢; have a3:=ak;have a5:=al;have a2:=am;have a4:=an;have HB:=ao;clear ak al am an ao;refine Ya5 (Kd.R_drew a3.out) (Kd.R_drew a5.out) (blk_drew a2.out) (blk_drew a4.out) (below_drew1 HB.out) ?_;clear a3 a5 a2 a4 HB;intro a3 a5 a2 a4 HB;have aH:0≤(a6:Int):=oda;have aI:a6<(a8.length:Int):=oda;obtain ⟨bq,bu,b1⟩:=Kd.at_string (Kd.R_reads' a3.out).2.2 a6 aH aI
                  obtain rfl:af=bq:=(by injection bu)
                  replace aH:=eq_true aH;replace aI:=eq_true aI;have aJ:0≤(a6:Int):=oda;have aK:a6<(a8.length:Int):=oda;obtain ⟨bv,bw,b2⟩:=Kd.at_string (Kd.R_reads' a3.out).2.2 a6 aJ aK
                  obtain rfl:af=bv:=(by injection bw)
                  replace aJ:=eq_true aJ;replace aK:=eq_true aK;refine start_ (n:=19) (S:=fun w'=>w'.cell? ⟨ae,0,none⟩=some (.slice ac aa.length ad)∧w'.cell? (af.add (a6).toNat)=some (.string (rdOf ByteArray.empty a8 a6))∧w'.cell? (af.add (a6).toNat)=some (.string (rdOf ByteArray.empty a8 a6))) (ds:=[]) (fb 19 0) (by kernel_rfl) rfl rfl ⟨bc a2 0,b1,b2⟩ (fun hHeld => ?_);refine with_tabW spec_l9Dir.tab11 spec_l9Dir.bits11 (fun HT_ HW_ => ?_);generalize w73.drew=w74 at a3 a5 a2 a4 HB b1 b2 hHeld ⊢; refine pu 0 43 (fb 19 1) HT_ ?_;refine pu 1 44 (fb 19 3) HT_ ?_;refine pu 2 45 (fb 19 7) HT_ ?_;refine pu 7 50 (fb 19 135) HT_ ?_;refine pu 8 51 (fb 19 391) HT_ ?_;refine pu 9 52 (fb 19 903) HT_ ?_;refine pu 12 55 (fb 19 4999) HT_ ?_;refine pu 14 57 (fb 19 21383) HT_ ?_;refine tk 3 46 (fb 19 21391) HT_ HW_ hHeld ?_;refine pu 4 47 (fb 19 21407) HT_ ?_;refine pu 5 48 (fb 19 21439) HT_ ?_;refine tk 6 49 (fb 19 21503) HT_ HW_ hHeld ?_;refine tk 10 53 (fb 19 22527) HT_ HW_ hHeld ?_;refine o1 11 (some 54) (fb 19 24575) HT_ (fun K hK => ?_);refine gs _ (#[.agg #[.slice ac aa.length ad],.string (rdOf ByteArray.empty a8 a6)]) Tryd.func18 ?_;(with_reducible refine (spec_l9Under.calls k2 _ _ aa (rdOf ByteArray.empty a8 a6) aw _ ?side1 ?side2 c0.out).mono ?_);(case side1=>exact cb (Kd.C_below aU.out HB.out));(case side2=>exact aV.out);rintro e w75 ⟨cv,rfl,ho0,hb⟩;have HS1_:=(hb.cell (World.block_lt_of_cell? _ _ (hHeld.2.1))).trans (hHeld.2.1);have HS2_:=(hb.cell (World.block_lt_of_cell? _ _ (hHeld.2.2))).trans (hHeld.2.2);refine ⟨_,rfl,?_⟩;refine Ya6 (Kd.R_below (kr a3.out) hb) (Kd.R_below (kr a5.out) hb) (Kd.R_lower ho0 (below_size (bf HB.out))) (bb a2 hb) (bb a4 hb) (below_step (bf HB.out) hb) ?_;clear a3 a5 a2 a4 HB;intro a3 a5 a9 a2 a4 HB;(try clear hb);(try clear hb2);(try clear hk);(try clear hi);(try clear ho0);obtain ⟨dd,de,cy⟩:=Kd.R_slice a9.out;(first|subst cy|(injection cy with f1_ f2_ f3_;have f4_:=f1_.symm;have f5_:=f3_.symm;clear f1_ f2_ f3_;subst f4_;subst f5_));refine hK.out _ _ ⟨bc a2 0,HS1_,HS2_⟩ (fun hHeld => ?_);clear hK K;refine nm 54 ?_;refine o1 13 (some 56) (fb 19 32767) HT_ (fun K hK => ?_);refine gs _ (#[.agg #[.slice dd aw.length de],.int .i64 a1]) Tryd.func16 ?_;(with_reducible refine (ih k2 (by have:=HK1.out;have:=HK2.out;omega) _ _ aw a1 ax _ ?side1 ?side2 ca.out).mono ?_);(case side1=>repeat (first|exact (Kd.R_reads' a9.out).2.2|(with_reducible refine Kd.C_alloc ?_ _)|(with_reducible refine Kd.C_drewN ?_ _)|(with_reducible refine Kd.C_drew ?_)));(case side2=>exact (Kd.R_reads' a9.out).2.1);rintro e w77 ⟨rfl,hb⟩;have HS1_:=(hb.cell (World.block_lt_of_cell? _ _ (hHeld.2.1))).trans (hHeld.2.1);have HS2_:=(hb.cell (World.block_lt_of_cell? _ _ (hHeld.2.2))).trans (hHeld.2.2);refine ⟨_,rfl,?_⟩;refine Ya6 (Kd.R_below (kr a3.out) hb) (Kd.R_below (kr a5.out) hb) (Kd.R_below (kr a9.out) hb) (bb a2 hb) (bb a4 hb) (below_step (bf HB.out) hb) ?_;clear a3 a5 a9 a2 a4 HB;intro a3 a5 a9 a2 a4 HB;(try clear hb);(try clear hb2);(try clear hk);(try clear hi);refine hK.out _ _ ⟨bc a2 0,HS1_,HS2_⟩ (fun hHeld => ?_);clear hK K;refine nm 56 ?_;refine o1 15 (some 58) (fb 19 65535) HT_ (fun K hK => ?_);refine gs _ (#[.string ax,.int .i64 a1]) Tryd.func37 ?_;(with_reducible refine (spec_Sum.calls k2 ax a1 ay _ cc.out).mono ?_);rintro e w78 ⟨rfl,hb⟩;have HS1_:=(hb.cell (World.block_lt_of_cell? _ _ (hHeld.2.1))).trans (hHeld.2.1);have HS2_:=(hb.cell (World.block_lt_of_cell? _ _ (hHeld.2.2))).trans (hHeld.2.2);refine ⟨_,rfl,?_⟩;refine Ya6 (Kd.R_below (kr a3.out) hb) (Kd.R_below (kr a5.out) hb) (Kd.R_below (kr a9.out) hb) (bb a2 hb) (bb a4 hb) (below_step (bf HB.out) hb) ?_;clear a3 a5 a9 a2 a4 HB;intro a3 a5 a9 a2 a4 HB;(try clear hb);(try clear hb2);(try clear hk);(try clear hi);refine hK.out _ _ ⟨bc a2 0,HS1_,HS2_⟩ (fun hHeld => ?_);clear hK K;refine nm 58 ?_;refine o1 16 (some 59) (fb 19 131071) HT_ (fun K hK => ?_);refine gs _ (#[.string ay]) Tryd.func36 ?_;(with_reducible refine (spec_l9Hex.calls k2 ay ap _ cd.out).mono ?_);rintro e w79 ⟨rfl,hb⟩;have HS1_:=(hb.cell (World.block_lt_of_cell? _ _ (hHeld.2.1))).trans (hHeld.2.1);have HS2_:=(hb.cell (World.block_lt_of_cell? _ _ (hHeld.2.2))).trans (hHeld.2.2);refine ⟨_,rfl,?_⟩;refine Ya6 (Kd.R_below (kr a3.out) hb) (Kd.R_below (kr a5.out) hb) (Kd.R_below (kr a9.out) hb) (bb a2 hb) (bb a4 hb) (below_step (bf HB.out) hb) ?_;clear a3 a5 a9 a2 a4 HB;intro a3 a5 a9 a2 a4 HB;(try clear hb);(try clear hb2);(try clear hk);(try clear hi);refine hK.out _ _ ⟨bc a2 0,HS1_,HS2_⟩ (fun hHeld => ?_);clear hK K;refine nm 59 ?_;refine pu 17 60 (fb 19 262143) HT_ ?_;refine pu 18 10 (fb 19 524287) HT_ ?_;refine done_ (done_of HT_.out (by kernel_rfl)) ?_;have hnb80:=aj.out;have hnc80:=ag.out;have ⟨dK,dL,dM,dN,dO,dP⟩:=Yc3 a4.out
                  try go_wp2
                  refine Ya6 (Kd.R_drew a3.out) (Kd.R_drew a5.out) (Kd.R_drew a9.out) (blk_drew a2.out) (blk_drew a4.out) (below_drew1 HB.out) ?_;clear a3 a5 a9 a2 a4 HB;intro a3 a5 a9 a2 a4 HB;have b3:0≤(a6:Int):=oda;have b4:a6<(a8.length:Int):=oda;obtain ⟨cf,cg,bz⟩:=Kd.at_string (Kd.R_reads' a3.out).2.2 a6 b3 b4
                  obtain rfl:af=cf:=(by injection cg)
                  replace b3:=eq_true b3;replace b4:=eq_true b4;refine start_ (n:=14) (S:=fun w'=>w'.cell? ⟨a7,0,none⟩=some (.bool true)∧w'.cell? ⟨a7,1,none⟩=some (.string ab)∧w'.cell? ⟨a7,2,none⟩=some (.bool false)∧w'.cell? (af.add (a6).toNat)=some (.string (rdOf ByteArray.empty a8 a6))) (ds:=[]) (fb 14 0) (by kernel_rfl) rfl rfl ⟨bc a4 0,bc a4 1,bc a4 2,bz⟩ (fun hHeld => ?_);refine with_tabW spec_l9Dir.tab13 spec_l9Dir.bits13 (fun HT_ HW_ => ?_);generalize w79.drew=w82 at a3 a5 a9 a2 a4 HB bz hHeld ⊢; refine pu 0 63 (fb 14 1) HT_ ?_;refine pu 1 64 (fb 14 3) HT_ ?_;refine pu 2 65 (fb 14 7) HT_ ?_;refine pu 6 69 (fb 14 71) HT_ ?_;refine pu 9 72 (fb 14 583) HT_ ?_;refine tk 3 66 (fb 14 591) HT_ HW_ hHeld ?_;refine pu 4 67 (fb 14 607) HT_ ?_;refine pu 5 68 (fb 14 639) HT_ ?_;refine tk 7 70 (fb 14 767) HT_ HW_ hHeld ?_;refine pu 8 71 (fb 14 1023) HT_ ?_;refine o1 10 (some 73) (fb 14 2047) HT_ (fun K hK => ?_);refine gs _ (#[.string ((⟨#[102,105,108,101,32]⟩:ByteArray)++ab),.int .i64 a1]) Tryd.func37 ?_;(with_reducible refine (spec_Sum.calls k2 ((⟨#[102,105,108,101,32]⟩:ByteArray)++ab) a1 aN _ A32.out).mono ?_);rintro e w83 ⟨rfl,hb⟩;have HS3_:=(hb.cell (World.block_lt_of_cell? _ _ (hHeld.2.2.2))).trans (hHeld.2.2.2);refine ⟨_,rfl,?_⟩;refine Ya6 (Kd.R_below (kr a3.out) hb) (Kd.R_below (kr a5.out) hb) (Kd.R_below (kr a9.out) hb) (bb a2 hb) (bb a4 hb) (below_step (bf HB.out) hb) ?_;clear a3 a5 a9 a2 a4 HB;intro a3 a5 a9 a2 a4 HB;(try clear hb);(try clear hb2);(try clear hk);(try clear hi);refine hK.out _ _ ⟨bc a4 0,bc a4 1,bc a4 2,HS3_⟩ (fun hHeld => ?_);clear hK K;refine nm 73 ?_;refine o1 11 (some 74) (fb 14 4095) HT_ (fun K hK => ?_);refine gs _ (#[.string aN]) Tryd.func36 ?_;(with_reducible refine (spec_l9Hex.calls k2 aN ah _ A33.out).mono ?_);rintro e w84 ⟨rfl,hb⟩;have HS3_:=(hb.cell (World.block_lt_of_cell? _ _ (hHeld.2.2.2))).trans (hHeld.2.2.2);refine ⟨_,rfl,?_⟩;refine Ya6 (Kd.R_below (kr a3.out) hb) (Kd.R_below (kr a5.out) hb) (Kd.R_below (kr a9.out) hb) (bb a2 hb) (bb a4 hb) (below_step (bf HB.out) hb) ?_;clear a3 a5 a9 a2 a4 HB;intro a3 a5 a9 a2 a4 HB;(try clear hb);(try clear hb2);(try clear hk);(try clear hi);refine hK.out _ _ ⟨bc a4 0,bc a4 1,bc a4 2,HS3_⟩ (fun hHeld => ?_);clear hK K;refine nm 74 ?_;refine pu 12 75 (fb 14 8191) HT_ ?_;refine pu 13 10 (fb 14 16383) HT_ ?_;refine done_ (done_of HT_.out (by kernel_rfl)) ?_;have ⟨dQ,dR,dS,dT,dU,dV⟩:=Yc3 a4.out;(try rw [←NLN_.out])
                  try go_wp2_with (first|(at_builtin;refine print_append_str (w0:=w) w.heap.size rfl (.tmp 81) _ 64 9 5 rfl Tryd.underlying64 Tryd.underlying9 info5 u7 ai LN_ rfl rfl ?aO ?aB ?aS ?aL ?_;(case aB=>exact (bf HB.out));(case aO=>exact (Kd.own_of_R (kr a5.out)));(case aS=>exact (below_size (bf HB.out)));(case aL=>have:=d7.out;omega);intro cz w86 ho0 hb hg;have ho:=Kd.R_of_own (h1:=fun _=>rfl) (ok:=fun _=>True) ho0 (fun _ _=>trivial);clear ho0;have hat:=True.intro;rw [←d8.out] at ho;change Kd.R (Kd.int .u8) 5 w86 w.heap.size (fun _=>True) cz aR at ho;refine Ya6 (Kd.R_over' (kr a3.out) (Kd.R_typed (kr a5.out)) (by decide) hg) (blk_grown (g:=ae) (o:=.cells #[.slice ac aa.length ad] 32 (0,0)) (bk a2.out) hg (Kd.R_ne a5.out a2.out (by decide))) (blk_grown (g:=a7) (o:=.cells #[.bool true,.string ab,.bool false] 46 (0,0)) (bk a4.out) hg (Kd.R_ne a5.out a4.out (by decide))) (Kd.R_over' (kr a9.out) (Kd.R_typed (kr a5.out)) (by decide) hg) (hb) (ho) ?_;clear a3 a2 a4 a9 HB a5;intro a3 a2 a4 a9 HB bi;clear ho hb hg hat)|((with_reducible refine gate_builtin (b:=.append) (xs:=#[.tmp 84,.tmp 85]) rfl ?_);at_builtin;refine Kd.R_append (Kd.int .u8) (w0:=w) w.heap.size rfl (.tmp 84) (.tmp 85) 64 5 (.int .u8 0) 1 rfl Tryd.underlying64 info5 rfl (by decide) (by omega) cz aR 10 [.int .u8 10] (fun _=>True) (fun _=>False) rfl rfl ?aP (fun _ hk=>hk.elim) ?aF ?aO ?aB ?aS ?aL ?_;(case aP=>exact rfl);(case aB=>exact (bf HB.out));(case aF=>exact (fun _ _=>trivial));(case aO=>exact (kr bi.out));(case aS=>exact (below_size (bf HB.out)));(case aL=>have:=d9.out;omega);intro v220 w87 ho hb hg hat;rw [←db.out] at ho;refine Ya6 (Kd.R_over' (kr a3.out) (Kd.R_typed (kr bi.out)) (by decide) hg) (blk_grown (g:=ae) (o:=.cells #[.slice ac aa.length ad] 32 (0,0)) (bk a2.out) hg (Kd.R_ne bi.out a2.out (by decide))) (blk_grown (g:=a7) (o:=.cells #[.bool true,.string ab,.bool false] 46 (0,0)) (bk a4.out) hg (Kd.R_ne bi.out a4.out (by decide))) (Kd.R_over' (kr a9.out) (Kd.R_typed (kr bi.out)) (by decide) hg) (hb) (ho) ?_;clear a3 a2 a4 a9 HB bi;intro a3 a2 a4 a9 HB df;clear ho hb hg hat))
                  go_roundg k2
                  case measure=>have:=HK1.out;have:=HK2.out;omega
                  case rel=>exact ⟨(da),(wrap64 (a6+1)),Ye1,H',⟨by have:=HK1.out;have:=HK2.out;omega⟩,⟨kr a3.out⟩,⟨kr df.out⟩,⟨bk a2.out⟩,⟨bf HB.out⟩⟩
                 ·rw [if_neg bR] at H
                  exact absurd H (by simp)
                ·rw [if_neg bP] at H
                 exact absurd H (by simp)
              ·rw [if_neg bd] at H
               exact absurd H (by simp)
             ·rw [if_neg bn] at H
              exact absurd H (by simp)
            ·rw [if_neg ba] at H
             exact absurd H (by simp)
           ·replace bI:=Bool.eq_false_iff.mpr bI;subst bI
            rw [if_neg (show ¬(false=true) by decide)] at H
            by_cases bT:ai.length+((((⟨#[100,32]⟩:ByteArray)++(rdOf ByteArray.empty a8 a6))++(⟨#[32]⟩:ByteArray))++ap).size<140737488355328
            ·rw [if_pos bT] at H
             have dg:=Aside0.mk bT;clear bT
             obtain ⟨aT,bU⟩:∃ y_:List Int,y_=(ai++bytesOf ((((⟨#[100,32]⟩:ByteArray)++(rdOf ByteArray.empty a8 a6))++(⟨#[32]⟩:ByteArray))++ap)):=⟨_,rfl⟩
             (first|replace H:=bl_ bU H|rw [←bU] at H);(try dsimp only at H);have dh:=Aside0.mk bU;clear bU
             by_cases bV:aT.length<140737488355328
             ·rw [if_pos bV] at H
              have di:=Aside0.mk bV;clear bV
              obtain ⟨dj,bW⟩:∃ y_:List Int,y_=(aT ++ [10]):=⟨_,rfl⟩
              (first|replace H:=bl_ bW H|rw [←bW] at H);(try dsimp only at H);have dk:=Aside0.mk bW;clear bW;have H':=Aside0.mk H;clear H;obtain ⟨Ao90,ci,dl⟩:=Kd.R_slice a3.out;subst dl
              try go_wp2
              refine Ya4 (Kd.R_drew a3.out) (Kd.R_drew a5.out) (blk_drew a2.out) (below_drew1 HB.out) ?_;clear a3 a5 a2 HB;intro a3 a5 a2 HB;have aE:0≤(a6:Int):=oda;have aG:a6<(a8.length:Int):=oda;obtain ⟨af,bo,aW⟩:=Kd.at_string (Kd.R_reads' a3.out).2.2 a6 aE aG
              cases bo
              replace aE:=eq_true aE;replace aG:=eq_true aG;refine start_ (n:=8) (S:=fun w'=>w'.cell? ⟨ae,0,none⟩=some (.slice ac aa.length ad)∧w'.cell? (af.add (a6).toNat)=some (.string (rdOf ByteArray.empty a8 a6))) (ds:=[]) (fb 8 0) (by kernel_rfl) rfl rfl ⟨bc a2 0,aW⟩ (fun hHeld => ?_);refine with_tabW spec_l9Dir.tab10 spec_l9Dir.bits10 (fun HT_ HW_ => ?_);generalize wr.drew=w91 at a3 a5 a2 HB aW hHeld ⊢; refine pu 1 38 (fb 8 2) HT_ ?_;refine pu 2 39 (fb 8 6) HT_ ?_;refine pu 3 40 (fb 8 14) HT_ ?_;refine tk 0 37 (fb 8 15) HT_ HW_ hHeld ?_;refine tk 4 41 (fb 8 31) HT_ HW_ hHeld ?_;refine join_ (σ:=Nat) 1 (fb 8 127) (fun s_ => [(42,.agg #[.bool false,.string ab,.bool aq]),(9,.pointer (some ⟨s_,0,none⟩))]) (fun s_ w'=>(w'.cell? ⟨ae,0,none⟩=some (.slice ac aa.length ad)∧w'.cell? (af.add (a6).toNat)=some (.string (rdOf ByteArray.empty a8 a6)))∧(Kd.R Kd.string 9 w' w.heap.size (fun _=>True) (.slice (some af) a8.length ci) a8)∧(Kd.R (Kd.int .u8) 5 w' w.heap.size (fun _=>True) u7 ai)∧(w'.heap[ae]? = some (.cells #[.slice ac aa.length ad] 32 (0,0)))∧(w'.heap[s_]? = some (.cells #[.bool false,.string (⟨#[]⟩:ByteArray),.bool false] 46 (0,0)))∧(w.heap.size≤s_)∧(w.heap.size≤s_)∧(ae≠s_)∧(s_≠ae)∧(Below w.heap.size w w')) ?_ ?_;rotate_left
              ·intro hCont;refine two_ (i:=5) (j:=6) (Ni:=some 42) (Nj:=some 9) (fb 8 63) (fb 8 95) rfl rfl rfl rfl (two_of HT_.out (by kernel_rfl)) (by decide) (by decide) (fun K hK => ?_) (fun K hK => ?_)
               ·skip
                refine gs _ (#[.agg #[.slice ac aa.length ad],.string (rdOf ByteArray.empty a8 a6)]) Tryd.func19 ?_;(with_reducible refine (spec_l6At.calls k2 _ _ aa (rdOf ByteArray.empty a8 a6) false ab aq _ ?side1 ?side2 b7.out).mono ?_);(case side1=>exact cb (Kd.C_below aU.out HB.out));(case side2=>exact aV.out);rintro e w92 ⟨rfl,hb⟩;have HS1_:=(hb.cell (World.block_lt_of_cell? _ _ (hHeld.2))).trans (hHeld.2);refine ⟨_,rfl,?_⟩;refine Ya4 (Kd.R_below (kr a3.out) hb) (Kd.R_below (kr a5.out) hb) (bb a2 hb) (below_step (bf HB.out) hb) ?_;clear a3 a5 a2 HB;intro a3 a5 a2 HB;(try clear hb);(try clear hb2);(try clear hk);(try clear hi);refine hK.out _ _ ⟨bc a2 0,HS1_⟩ (fun hHeld => ?_);clear hK K;refine nm 42 ?_;refine o1 6 (some 9) (fb 8 127) HT_ (fun K hK => ?_);refine bst 9 46 (#[.bool false,.string (⟨#[]⟩:ByteArray),.bool false]) ?_;intro a7 hg w93 hbox hb;have HS1_:=(hb.cell (World.block_lt_of_cell? _ _ (hHeld.2))).trans (hHeld.2);refine Ya9 (Kd.R_below (kr a3.out) hb) (Kd.R_below (kr a5.out) hb) (bb a2 hb) (below_step (bf HB.out) hb) (hbox) (bs hg (bf HB.out)) (bs hg (bf HB.out)) (bl hg a2) (br hg a2) ?_;clear a3 a5 a2 HB;intro a3 a5 a2 HB a4 au av ag aj;clear hb hbox hg;refine hK.out _ _ ⟨bc a2 0,HS1_⟩ (fun hHeld => ?_);clear hK K;refine nm 9 ?_;exact nc (hCont (a7) _ ⟨hHeld,(kr a3.out),(kr a5.out),(bk a2.out),(bk a4.out),au.out,av.out,ag.out,aj.out,(bf HB.out)⟩)
               ·skip
                refine bst 9 46 (#[.bool false,.string (⟨#[]⟩:ByteArray),.bool false]) ?_;intro a7 hg w92 hbox hb;have HS1_:=(hb.cell (World.block_lt_of_cell? _ _ (hHeld.2))).trans (hHeld.2);refine Ya9 (Kd.R_below (kr a3.out) hb) (Kd.R_below (kr a5.out) hb) (bb a2 hb) (below_step (bf HB.out) hb) (hbox) (bs hg (bf HB.out)) (bs hg (bf HB.out)) (bl hg a2) (br hg a2) ?_;clear a3 a5 a2 HB;intro a3 a5 a2 HB a4 au av ag aj;clear hb hbox hg;refine hK.out _ _ ⟨bc a2 0,HS1_⟩ (fun hHeld => ?_);clear hK K;refine nm 9 ?_;refine o1 5 (some 42) (fb 8 127) HT_ (fun K hK => ?_);refine gs _ (#[.agg #[.slice ac aa.length ad],.string (rdOf ByteArray.empty a8 a6)]) Tryd.func19 ?_;(with_reducible refine (spec_l6At.calls k2 _ _ aa (rdOf ByteArray.empty a8 a6) false ab aq _ ?side1 ?side2 b7.out).mono ?_);(case side1=>exact cb (Kd.C_below aU.out HB.out));(case side2=>exact aV.out);rintro e w93 ⟨rfl,hb⟩;have HS1_:=(hb.cell (World.block_lt_of_cell? _ _ (hHeld.2))).trans (hHeld.2);refine ⟨_,rfl,?_⟩;refine Ya5 (Kd.R_below (kr a3.out) hb) (Kd.R_below (kr a5.out) hb) (bb a2 hb) (bb a4 hb) (below_step (bf HB.out) hb) ?_;clear a3 a5 a2 a4 HB;intro a3 a5 a2 a4 HB;(try clear hb);(try clear hb2);(try clear hk);(try clear hi);refine hK.out _ _ ⟨bc a2 0,HS1_⟩ (fun hHeld => ?_);clear hK K;refine nm 42 ?_;exact nc (hCont (a7) _ ⟨hHeld,(kr a3.out),(kr a5.out),(bk a2.out),(bk a4.out),au.out,av.out,ag.out,aj.out,(bf HB.out)⟩)
              rintro a7 aC ⟨hS_,h0_,h1_,h2_,h3_,h4_,h5_,h6_,h7_,h8_⟩
              have ak:Aside0 (Kd.R Kd.string 9 aC w.heap.size (fun _=>True) (.slice (some af) a8.length ci) a8):=⟨h0_⟩
              have al:Aside0 (Kd.R (Kd.int .u8) 5 aC w.heap.size (fun _=>True) u7 ai):=⟨h1_⟩
              have am:Aside0 (aC.heap[ae]? = some (.cells #[.slice ac aa.length ad] 32 (0,0))):=⟨h2_⟩
              have an:Aside0 (aC.heap[a7]? = some (.cells #[.bool false,.string (⟨#[]⟩:ByteArray),.bool false] 46 (0,0))):=⟨h3_⟩
              have ao:Aside0 (w.heap.size≤a7):=⟨h4_⟩
              have aX:Aside0 (w.heap.size≤a7):=⟨h5_⟩
              have aY:Aside0 (ae≠a7):=⟨h6_⟩
              have aZ:Aside0 (a7≠ae):=⟨h7_⟩
              have b0:Aside0 (Below w.heap.size w aC):=⟨h8_⟩
              clear a3;clear a5;clear a2;clear HB;clear h0_ h1_ h2_ h3_ h4_ h5_ h6_ h7_ h8_;have a3:=ak;have a5:=al;have a2:=am;have a4:=an;have au:=ao;have av:=aX;have ag:=aY;have aj:=aZ;have HB:=b0;clear ak al am an ao aX aY aZ b0;have hHeld:aC.cell? ⟨ae,0,none⟩=some (.slice ac aa.length ad)∧aC.cell? (af.add (a6).toNat)=some (.string (rdOf ByteArray.empty a8 a6)):=hS_;refine norm_ (a':=?_) ?_ ?_;rotate_left
              ·simp only [putAll,Act.put,List.setIfInBounds_toArray,List.set_cons_zero,List.set_cons_succ];rfl
              refine o1 7 none (fb 8 255) HT_ (fun K hK => ?_);have ⟨hs95,hs96,hs97,hfs95,hfs96,hfs97⟩:=Yc3 a4.out;have dW:=ag.out;have dX:=aj.out;refine skip_ (w1:=?_) (by rfl) rfl ?_ ?_;rotate_left
              ·go_simp;rfl
              refine hK.out _ _ ⟨((cell_far (p:=⟨a7,_,none⟩) ag.out _).trans (((cell_far (p:=⟨a7,_,none⟩) ag.out _).trans (((cell_far (p:=⟨a7,_,none⟩) ag.out _).trans (hHeld.1)))))),((cell_far (p:=⟨a7,_,none⟩) (by first|exact Kd.own_blk (Kd.R_ne a3.out a4.out (by decide))|(rw [add_block];exact Kd.own_blk (Kd.R_ne a3.out a4.out (by decide)))|(show (Addr.add _ _).block≠_;rw [add_block];exact Kd.own_blk (Kd.R_ne a3.out a4.out (by decide)))|(dsimp only;exact Kd.own_blk (Kd.R_ne a3.out a4.out (by decide)))) _).trans (((cell_far (p:=⟨a7,_,none⟩) (by first|exact Kd.own_blk (Kd.R_ne a3.out a4.out (by decide))|(rw [add_block];exact Kd.own_blk (Kd.R_ne a3.out a4.out (by decide)))|(show (Addr.add _ _).block≠_;rw [add_block];exact Kd.own_blk (Kd.R_ne a3.out a4.out (by decide)))|(dsimp only;exact Kd.own_blk (Kd.R_ne a3.out a4.out (by decide)))) _).trans (((cell_far (p:=⟨a7,_,none⟩) (by first|exact Kd.own_blk (Kd.R_ne a3.out a4.out (by decide))|(rw [add_block];exact Kd.own_blk (Kd.R_ne a3.out a4.out (by decide)))|(show (Addr.add _ _).block≠_;rw [add_block];exact Kd.own_blk (Kd.R_ne a3.out a4.out (by decide)))|(dsimp only;exact Kd.own_blk (Kd.R_ne a3.out a4.out (by decide)))) _).trans (hHeld.2))))))⟩ (fun hHeld => ?_);clear hK K;refine done_ (done_of HT_.out (by kernel_rfl)) ?_
              try go_wp2
              have ak:Aside0 (Kd.R Kd.string 9 (((aC.setCell ⟨a7,0,none⟩ (.bool false)).setCell ⟨a7,1,none⟩ (.string ab)).setCell ⟨a7,2,none⟩ (.bool aq)) w.heap.size (fun _=>True) (.slice (some af) a8.length ci) a8):=⟨by (with_reducible repeat (first|apply Kd.R_alloc|apply Kd.R_drewN|apply Kd.R_drew));exact Kd.R_mono (Kd.R_far (p:=⟨a7,2,none⟩) (Kd.R_far (p:=⟨a7,1,none⟩) (Kd.R_far (p:=⟨a7,0,none⟩) (Kd.R_types a3.out a4.out (by decide)) (fun _ hk=>hk.2) (.bool false)) (fun _ hk=>hk.2) (.string ab)) (fun _ hk=>hk.2) (.bool aq)) (fun _ hk=>trivial)⟩
              have al:Aside0 (Kd.R (Kd.int .u8) 5 (((aC.setCell ⟨a7,0,none⟩ (.bool false)).setCell ⟨a7,1,none⟩ (.string ab)).setCell ⟨a7,2,none⟩ (.bool aq)) w.heap.size (fun _=>True) u7 ai):=⟨by (with_reducible repeat (first|apply Kd.R_alloc|apply Kd.R_drewN|apply Kd.R_drew));exact Kd.R_mono (Kd.R_far (p:=⟨a7,2,none⟩) (Kd.R_far (p:=⟨a7,1,none⟩) (Kd.R_far (p:=⟨a7,0,none⟩) (Kd.R_types a5.out a4.out (by decide)) (fun _ hk=>hk.2) (.bool false)) (fun _ hk=>hk.2) (.string ab)) (fun _ hk=>hk.2) (.bool aq)) (fun _ hk=>trivial)⟩
              have am:Aside0 ((((aC.setCell ⟨a7,0,none⟩ (.bool false)).setCell ⟨a7,1,none⟩ (.string ab)).setCell ⟨a7,2,none⟩ (.bool aq)).heap[ae]? = some (.cells #[.slice ac aa.length ad] 32 (0,0))):=⟨bkf a2.out ag.out⟩
              have an:Aside0 ((((aC.setCell ⟨a7,0,none⟩ (.bool false)).setCell ⟨a7,1,none⟩ (.string ab)).setCell ⟨a7,2,none⟩ (.bool aq)).heap[a7]? = some (.cells #[.bool false,.string ab,.bool aq] 46 (0,0))):=⟨bp a4.out⟩
              have ao:Aside0 (Below w.heap.size w (((aC.setCell ⟨a7,0,none⟩ (.bool false)).setCell ⟨a7,1,none⟩ (.string ab)).setCell ⟨a7,2,none⟩ (.bool aq))):=⟨bf HB.out⟩
              (try clear a3);(try clear a5);(try clear a2);(try clear a4);(try clear HB);generalize (((aC.setCell ⟨a7,0,none⟩ (.bool false)).setCell ⟨a7,1,none⟩ (.string ab)).setCell ⟨a7,2,none⟩ (.bool aq))=w98 at ak al am an ao ⊢; have a3:=ak;have a5:=al;have a2:=am;have a4:=an;have HB:=ao;clear ak al am an ao;refine Ya5 (Kd.R_drew a3.out) (Kd.R_drew a5.out) (blk_drew a2.out) (blk_drew a4.out) (below_drew1 HB.out) ?_;clear a3 a5 a2 a4 HB;intro a3 a5 a2 a4 HB;have aH:0≤(a6:Int):=oda;have aI:a6<(a8.length:Int):=oda;obtain ⟨bq,bu,b1⟩:=Kd.at_string (Kd.R_reads' a3.out).2.2 a6 aH aI
              obtain rfl:af=bq:=(by injection bu)
              replace aH:=eq_true aH;replace aI:=eq_true aI;have aJ:0≤(a6:Int):=oda;have aK:a6<(a8.length:Int):=oda;obtain ⟨bv,bw,b2⟩:=Kd.at_string (Kd.R_reads' a3.out).2.2 a6 aJ aK
              obtain rfl:af=bv:=(by injection bw)
              replace aJ:=eq_true aJ;replace aK:=eq_true aK;refine start_ (n:=19) (S:=fun w'=>w'.cell? ⟨ae,0,none⟩=some (.slice ac aa.length ad)∧w'.cell? (af.add (a6).toNat)=some (.string (rdOf ByteArray.empty a8 a6))∧w'.cell? (af.add (a6).toNat)=some (.string (rdOf ByteArray.empty a8 a6))) (ds:=[]) (fb 19 0) (by kernel_rfl) rfl rfl ⟨bc a2 0,b1,b2⟩ (fun hHeld => ?_);refine with_tabW spec_l9Dir.tab11 spec_l9Dir.bits11 (fun HT_ HW_ => ?_);generalize w98.drew=w99 at a3 a5 a2 a4 HB b1 b2 hHeld ⊢; refine pu 0 43 (fb 19 1) HT_ ?_;refine pu 1 44 (fb 19 3) HT_ ?_;refine pu 2 45 (fb 19 7) HT_ ?_;refine pu 7 50 (fb 19 135) HT_ ?_;refine pu 8 51 (fb 19 391) HT_ ?_;refine pu 9 52 (fb 19 903) HT_ ?_;refine pu 12 55 (fb 19 4999) HT_ ?_;refine pu 14 57 (fb 19 21383) HT_ ?_;refine tk 3 46 (fb 19 21391) HT_ HW_ hHeld ?_;refine pu 4 47 (fb 19 21407) HT_ ?_;refine pu 5 48 (fb 19 21439) HT_ ?_;refine tk 6 49 (fb 19 21503) HT_ HW_ hHeld ?_;refine tk 10 53 (fb 19 22527) HT_ HW_ hHeld ?_;refine o1 11 (some 54) (fb 19 24575) HT_ (fun K hK => ?_);refine gs _ (#[.agg #[.slice ac aa.length ad],.string (rdOf ByteArray.empty a8 a6)]) Tryd.func18 ?_;(with_reducible refine (spec_l9Under.calls k2 _ _ aa (rdOf ByteArray.empty a8 a6) aw _ ?side1 ?side2 c0.out).mono ?_);(case side1=>exact cb (Kd.C_below aU.out HB.out));(case side2=>exact aV.out);rintro e w100 ⟨cv,rfl,ho0,hb⟩;have HS1_:=(hb.cell (World.block_lt_of_cell? _ _ (hHeld.2.1))).trans (hHeld.2.1);have HS2_:=(hb.cell (World.block_lt_of_cell? _ _ (hHeld.2.2))).trans (hHeld.2.2);refine ⟨_,rfl,?_⟩;refine Ya6 (Kd.R_below (kr a3.out) hb) (Kd.R_below (kr a5.out) hb) (Kd.R_lower ho0 (below_size (bf HB.out))) (bb a2 hb) (bb a4 hb) (below_step (bf HB.out) hb) ?_;clear a3 a5 a2 a4 HB;intro a3 a5 a9 a2 a4 HB;(try clear hb);(try clear hb2);(try clear hk);(try clear hi);(try clear ho0);obtain ⟨dm,dn,cA⟩:=Kd.R_slice a9.out;(first|subst cA|(injection cA with f1_ f2_ f3_;have f4_:=f1_.symm;have f5_:=f3_.symm;clear f1_ f2_ f3_;subst f4_;subst f5_));refine hK.out _ _ ⟨bc a2 0,HS1_,HS2_⟩ (fun hHeld => ?_);clear hK K;refine nm 54 ?_;refine o1 13 (some 56) (fb 19 32767) HT_ (fun K hK => ?_);refine gs _ (#[.agg #[.slice dm aw.length dn],.int .i64 a1]) Tryd.func16 ?_;(with_reducible refine (ih k2 (by have:=HK1.out;have:=HK2.out;omega) _ _ aw a1 ax _ ?side1 ?side2 ca.out).mono ?_);(case side1=>repeat (first|exact (Kd.R_reads' a9.out).2.2|(with_reducible refine Kd.C_alloc ?_ _)|(with_reducible refine Kd.C_drewN ?_ _)|(with_reducible refine Kd.C_drew ?_)));(case side2=>exact (Kd.R_reads' a9.out).2.1);rintro e w102 ⟨rfl,hb⟩;have HS1_:=(hb.cell (World.block_lt_of_cell? _ _ (hHeld.2.1))).trans (hHeld.2.1);have HS2_:=(hb.cell (World.block_lt_of_cell? _ _ (hHeld.2.2))).trans (hHeld.2.2);refine ⟨_,rfl,?_⟩;refine Ya6 (Kd.R_below (kr a3.out) hb) (Kd.R_below (kr a5.out) hb) (Kd.R_below (kr a9.out) hb) (bb a2 hb) (bb a4 hb) (below_step (bf HB.out) hb) ?_;clear a3 a5 a9 a2 a4 HB;intro a3 a5 a9 a2 a4 HB;(try clear hb);(try clear hb2);(try clear hk);(try clear hi);refine hK.out _ _ ⟨bc a2 0,HS1_,HS2_⟩ (fun hHeld => ?_);clear hK K;refine nm 56 ?_;refine o1 15 (some 58) (fb 19 65535) HT_ (fun K hK => ?_);refine gs _ (#[.string ax,.int .i64 a1]) Tryd.func37 ?_;(with_reducible refine (spec_Sum.calls k2 ax a1 ay _ cc.out).mono ?_);rintro e w103 ⟨rfl,hb⟩;have HS1_:=(hb.cell (World.block_lt_of_cell? _ _ (hHeld.2.1))).trans (hHeld.2.1);have HS2_:=(hb.cell (World.block_lt_of_cell? _ _ (hHeld.2.2))).trans (hHeld.2.2);refine ⟨_,rfl,?_⟩;refine Ya6 (Kd.R_below (kr a3.out) hb) (Kd.R_below (kr a5.out) hb) (Kd.R_below (kr a9.out) hb) (bb a2 hb) (bb a4 hb) (below_step (bf HB.out) hb) ?_;clear a3 a5 a9 a2 a4 HB;intro a3 a5 a9 a2 a4 HB;(try clear hb);(try clear hb2);(try clear hk);(try clear hi);refine hK.out _ _ ⟨bc a2 0,HS1_,HS2_⟩ (fun hHeld => ?_);clear hK K;refine nm 58 ?_;refine o1 16 (some 59) (fb 19 131071) HT_ (fun K hK => ?_);refine gs _ (#[.string ay]) Tryd.func36 ?_;(with_reducible refine (spec_l9Hex.calls k2 ay ap _ cd.out).mono ?_);rintro e w104 ⟨rfl,hb⟩;have HS1_:=(hb.cell (World.block_lt_of_cell? _ _ (hHeld.2.1))).trans (hHeld.2.1);have HS2_:=(hb.cell (World.block_lt_of_cell? _ _ (hHeld.2.2))).trans (hHeld.2.2);refine ⟨_,rfl,?_⟩;refine Ya6 (Kd.R_below (kr a3.out) hb) (Kd.R_below (kr a5.out) hb) (Kd.R_below (kr a9.out) hb) (bb a2 hb) (bb a4 hb) (below_step (bf HB.out) hb) ?_;clear a3 a5 a9 a2 a4 HB;intro a3 a5 a9 a2 a4 HB;(try clear hb);(try clear hb2);(try clear hk);(try clear hi);refine hK.out _ _ ⟨bc a2 0,HS1_,HS2_⟩ (fun hHeld => ?_);clear hK K;refine nm 59 ?_;refine pu 17 60 (fb 19 262143) HT_ ?_;refine pu 18 10 (fb 19 524287) HT_ ?_;refine done_ (done_of HT_.out (by kernel_rfl)) ?_;have dY:=aj.out;have dZ:=ag.out;have ⟨e0,e1,e2,e3,e4,e5⟩:=Yc3 a4.out
              try go_wp2_with (first|(at_builtin;refine print_append_str (w0:=w) w.heap.size rfl (.tmp 81) _ 64 9 5 rfl Tryd.underlying64 Tryd.underlying9 info5 u7 ai ((((⟨#[100,32]⟩:ByteArray)++(rdOf ByteArray.empty a8 a6))++(⟨#[32]⟩:ByteArray))++ap) rfl rfl ?aO ?aB ?aS ?aL ?_;(case aB=>exact (bf HB.out));(case aO=>exact (Kd.own_of_R (kr a5.out)));(case aS=>exact (below_size (bf HB.out)));(case aL=>have:=dg.out;omega);intro cB dp ho0 hb hg;have ho:=Kd.R_of_own (h1:=fun _=>rfl) (ok:=fun _=>True) ho0 (fun _ _=>trivial);clear ho0;have hat:=True.intro;rw [←dh.out] at ho;change Kd.R (Kd.int .u8) 5 dp w.heap.size (fun _=>True) cB aT at ho;refine Ya6 (Kd.R_over' (kr a3.out) (Kd.R_typed (kr a5.out)) (by decide) hg) (blk_grown (g:=ae) (o:=.cells #[.slice ac aa.length ad] 32 (0,0)) (bk a2.out) hg (Kd.R_ne a5.out a2.out (by decide))) (blk_grown (g:=a7) (o:=.cells #[.bool false,.string ab,.bool aq] 46 (0,0)) (bk a4.out) hg (Kd.R_ne a5.out a4.out (by decide))) (Kd.R_over' (kr a9.out) (Kd.R_typed (kr a5.out)) (by decide) hg) (hb) (ho) ?_;clear a3 a2 a4 a9 HB a5;intro a3 a2 a4 a9 HB bj;clear ho hb hg hat)|((with_reducible refine gate_builtin (b:=.append) (xs:=#[.tmp 84,.tmp 85]) rfl ?_);at_builtin;refine Kd.R_append (Kd.int .u8) (w0:=w) w.heap.size rfl (.tmp 84) (.tmp 85) 64 5 (.int .u8 0) 1 rfl Tryd.underlying64 info5 rfl (by decide) (by omega) cB aT 10 [.int .u8 10] (fun _=>True) (fun _=>False) rfl rfl ?aP (fun _ hk=>hk.elim) ?aF ?aO ?aB ?aS ?aL ?_;(case aP=>exact rfl);(case aB=>exact (bf HB.out));(case aF=>exact (fun _ _=>trivial));(case aO=>exact (kr bj.out));(case aS=>exact (below_size (bf HB.out)));(case aL=>have:=di.out;omega);intro v226 w108 ho hb hg hat;rw [←dk.out] at ho;refine Ya6 (Kd.R_over' (kr a3.out) (Kd.R_typed (kr bj.out)) (by decide) hg) (blk_grown (g:=ae) (o:=.cells #[.slice ac aa.length ad] 32 (0,0)) (bk a2.out) hg (Kd.R_ne bj.out a2.out (by decide))) (blk_grown (g:=a7) (o:=.cells #[.bool false,.string ab,.bool aq] 46 (0,0)) (bk a4.out) hg (Kd.R_ne bj.out a4.out (by decide))) (Kd.R_over' (kr a9.out) (Kd.R_typed (kr bj.out)) (by decide) hg) (hb) (ho) ?_;clear a3 a2 a4 a9 HB bj;intro a3 a2 a4 a9 HB dq;clear ho hb hg hat))
              go_roundg k2
              case measure=>have:=HK1.out;have:=HK2.out;omega
              case rel=>exact ⟨(dj),(wrap64 (a6+1)),Ye1,H',⟨by have:=HK1.out;have:=HK2.out;omega⟩,⟨kr a3.out⟩,⟨kr dq.out⟩,⟨bk a2.out⟩,⟨bf HB.out⟩⟩
             ·rw [if_neg bV] at H
              exact absurd H (by simp)
            ·rw [if_neg bT] at H
             exact absurd H (by simp)
          ·rw [if_neg b9] at H
           exact absurd H (by simp)
         ·rw [if_neg b8] at H
          exact absurd H (by simp)
        ·rw [if_neg bm] at H
         exact absurd H (by simp)
       ·rw [if_neg bH] at H
        exact absurd H (by simp)
      ·rw [if_neg b6] at H
       have cX:decide (a6<(a8.length:Int))=false:=decide_eq_false b6;clear b6;obtain rfl:=Option.some.inj H;obtain ⟨Ao109,co109,dr⟩:=Kd.R_slice a3.out;subst dr;have hcv110:=own_string (P:=Tryd.prog) Tryd.underlying64 Tryd.underlying5 Tryd.underlying9 (Kd.own_of_R a5.out)
       go_wp2
       go_ret
       exact ⟨Ye2,(bf HB.out)⟩

end Go.Proofs.YthfpoacindblgaaDoor.P


namespace Go.Proofs.YthfpoacindblgaaDoor.P
open Go.RowKit Go.Proofs.YthfpoacindblgaaDoorW.PrintWords Go.Proofs.YthfpoacindblgaaDoorW.PrintLast Go.Proofs.YthfpoacindblgaaDoorW.PrintMore
attribute [local go_sem] max2_int min2_int max_two min_two max_three min_three max_four min_four
set_option linter.unusedVariables false
set_option linter.unusedSimpArgs false

def spec_l9Good.f (k:Nat) (a2:List (S55)) (a1:Int):Option (Bool):=(spec_ValidTree.f k a2).bind fun a6=>(if a6=true then ((spec_l1In.f a1 1 8).bind fun a7=>(some a7)) else (some false))
theorem spec_l9Good.mono:∀ a0 a1 k,LeO (spec_l9Good.f k a0 a1) (spec_l9Good.f (k+1) a0 a1):=by
 intro a0 a1 k
 unfold spec_l9Good.f
 exact mo1 @spec_ValidTree.mono
set_option maxHeartbeats 8000000 in
set_option maxRecDepth 100000 in
theorem spec_l9Good.calls (k:Nat) (a4:Option Addr) (a5:Nat) (a2:List (S55)) (a1:Int) (r:Bool) (w:World) (a8:Kd.C k55 w a4 a2.length a2) (a9:a2.length≤a5) (h:spec_l9Good.f k a2 a1=some r) :
  Calls Tryd.prog 14 #[.agg #[.slice a4 a2.length a5],.int .i64 a1] w fun e w'=>e = .returned (.bool r)∧Below w.heap.size w w':=by
 have hu32:=Tryd.underlying32;have aa:=Aside0.mk a8;have ab:=Aside0.mk a9;clear a8 a9;have HB:=Aside0.mk (Below.refl w.heap.size w);have H:((spec_ValidTree.f k a2).bind fun a6=>(if a6=true then ((spec_l1In.f a1 1 8).bind fun a7=>(some a7)) else (some false)))=some r:=h;clear h;replace H:=Option.bind_eq_some_iff.mp H;obtain ⟨a6,A30,H⟩:=H;(try dsimp only at H);have A3:=Aside0.mk A30;clear A30
 by_cases c4:a6=true
 ·subst c4
  rw [if_pos rfl] at H
  replace H:=Option.bind_eq_some_iff.mp H;obtain ⟨a7,A50,H⟩:=H;(try dsimp only at H);have A5:=Aside0.mk A50;clear A50;obtain rfl:=Option.some.inj H
  go_enter Tryd.func14,Tryd.ntmps14
  go_wp2_with (first|((with_reducible refine gd 2 rfl ?_);refine bx 2 32 (#[.slice a4 a2.length a5]) ?_;intro ac hg w6 hbox hb;refine Ya4 (below_step (be HB.out) hb) (hbox) (bs hg (be HB.out)) (bs hg (be HB.out)) ?_;clear HB;intro HB a3 ad ae;clear hb hbox hg;have ⟨af,ag⟩:=Yc1 a3.out)|((with_reducible refine gc 32 rfl ?_);refine gl (some 6) _ (#[.agg #[.slice a4 a2.length a5]]) Tryd.func32 ?_;(with_reducible refine (spec_ValidTree.calls k _ _ a2 true _ ?side1 ?side2 A3.out).mono ?_);(case side1=>exact cb (Kd.C_below aa.out HB.out));(case side2=>exact ab.out);rintro e w8 ⟨rfl,hb⟩;refine ⟨_,rfl,?_⟩;refine Ya2 (bb a3 hb) (below_step (bf HB.out) hb) ?_;clear a3 HB;intro a3 HB;(try clear hb);(try clear hb2);(try clear hk);(try clear hi))|(go_at_call 33;(with_reducible refine (spec_l1In.calls a1 1 8 a7 _ A5.out).mono ?_);rintro e w' ⟨rfl,⟨nd,rfl⟩⟩))
  go_ret
  exact ⟨Ye2,(bf HB.out)⟩
 ·replace c4:=Bool.eq_false_iff.mpr c4;subst c4
  rw [if_neg (show ¬(false=true) by decide)] at H
  obtain rfl:=Option.some.inj H
  go_enter Tryd.func14,Tryd.ntmps14
  go_wp2_with (first|((with_reducible refine gd 2 rfl ?_);refine bx 2 32 (#[.slice a4 a2.length a5]) ?_;intro ac hg w9 hbox hb;refine Ya4 (below_step (be HB.out) hb) (hbox) (bs hg (be HB.out)) (bs hg (be HB.out)) ?_;clear HB;intro HB a3 ad ae;clear hb hbox hg;have ⟨ah,ai⟩:=Yc1 a3.out)|((with_reducible refine gc 32 rfl ?_);refine gl (some 6) _ (#[.agg #[.slice a4 a2.length a5]]) Tryd.func32 ?_;(with_reducible refine (spec_ValidTree.calls k _ _ a2 false _ ?side1 ?side2 A3.out).mono ?_);(case side1=>exact cb (Kd.C_below aa.out HB.out));(case side2=>exact ab.out);rintro e w11 ⟨rfl,hb⟩;refine ⟨_,rfl,?_⟩;refine Ya2 (bb a3 hb) (below_step (bf HB.out) hb) ?_;clear a3 HB;intro a3 HB;(try clear hb);(try clear hb2);(try clear hk);(try clear hi)))
  go_ret
  exact ⟨Ye2,(bf HB.out)⟩

end Go.Proofs.YthfpoacindblgaaDoor.P


namespace Go.Proofs.YthfpoacindblgaaDoor.P
open Go.RowKit Go.Proofs.YthfpoacindblgaaDoorW.PrintWords Go.Proofs.YthfpoacindblgaaDoorW.PrintLast Go.Proofs.YthfpoacindblgaaDoorW.PrintMore
attribute [local go_sem] max2_int min2_int max_two min_two max_three min_three max_four min_four
set_option linter.unusedVariables false
set_option linter.unusedSimpArgs false

mutual
def spec_Prove.j0:Nat→ByteArray→Int→Bool→List (S55)→Option (List ByteArray×Bool×ByteArray)
 | 0,_,_,_,_=>none
 | k+1,x1,x2,x20,aH=>if x20=true then (some (([]:List ByteArray),false,(⟨#[]⟩:ByteArray))) else ((spec_l9Dir.f k aH x2).bind fun ax=>((spec_l4Parts.f k x1).bind fun ai=>(spec_Prove.l0 k x1 x2 ai 0 aH (([ax]:List ByteArray)) false (⟨#[]⟩:ByteArray) aH)))
def spec_Prove.l0:Nat→ByteArray→Int→List ByteArray→Int→List (S55)→List ByteArray→Bool→ByteArray→List (S55)→Option (List ByteArray×Bool×ByteArray)
 | 0,_,_,_,_,_,_,_,_,_=>none
 | k+1,x1,x2,x8,x10,aH,b7,bN,bO,cn=>if (wrap64 (x10+1))<(x8.length:Int) then (if 0≤x10 then (if x10<(x8.length:Int) then ((spec_l9Under.f k cn (rdOf ByteArray.empty x8 x10)).bind fun a8=>(if (a8.length:Int)=0 then (some (b7,bN,bO)) else ((spec_l9Dir.f k a8 x2).bind fun aI=>(if b7.length<8796093022208 then (spec_Prove.l0 k x1 x2 x8 (wrap64 (x10+1)) aH (b7 ++ [aI]) bN bO a8) else (none))))) else (none)) else (none)) else ((spec_l6At.f k aH x1).bind fun bt241=>(some (b7,bt241.1,bt241.2.1)))
end
def spec_Prove.f (k:Nat) (aa:List (S55)) (a1:ByteArray) (a2:Int):Option (List ByteArray×Bool×ByteArray):=(spec_l9Good.f k aa a2).bind fun aY=>(if aY=true then ((spec_ValidPath.f k a1).bind fun aJ=>(spec_Prove.j0 k a1 a2 (!aJ) aa)) else (spec_Prove.j0 k a1 a2 true aa))
theorem spec_Prove.mono_l:∀ k,(∀ y0 y1 y2 y3,LeO (spec_Prove.j0 k y0 y1 y2 y3) (spec_Prove.j0 (k+1) y0 y1 y2 y3))∧(∀ y0 y1 y2 y3 y4 y5 y6 y7 y8,LeO (spec_Prove.l0 k y0 y1 y2 y3 y4 y5 y6 y7 y8) (spec_Prove.l0 (k+1) y0 y1 y2 y3 y4 y5 y6 y7 y8))
 | 0=>⟨fun _ _ _ _ r h=>by simp [spec_Prove.j0] at h,fun _ _ _ _ _ _ _ _ _ r h=>by simp [spec_Prove.l0] at h⟩
 | k + 1 => by
  obtain ⟨ih0,ih1⟩:=spec_Prove.mono_l k;refine ⟨?_,?_⟩
  ·intro y0 y1 y2 y3
   unfold spec_Prove.j0
   exact mo8 ih0 ih1 @spec_ValidPath.mono @spec_l4Parts.mono @spec_l6At.mono @spec_l9Dir.mono @spec_l9Good.mono @spec_l9Under.mono
  ·intro y0 y1 y2 y3 y4 y5 y6 y7 y8
   unfold spec_Prove.l0
   exact mo8 ih0 ih1 @spec_ValidPath.mono @spec_l4Parts.mono @spec_l6At.mono @spec_l9Dir.mono @spec_l9Good.mono @spec_l9Under.mono
theorem spec_Prove.mono:∀ a0 a1 a2 k,LeO (spec_Prove.f k a0 a1 a2) (spec_Prove.f (k+1) a0 a1 a2):=by
 intro a0 a1 a2 k;obtain ⟨ih0,ih1⟩:=spec_Prove.mono_l k
 unfold spec_Prove.f
 exact mo8 ih0 ih1 @spec_ValidPath.mono @spec_l4Parts.mono @spec_l6At.mono @spec_l9Dir.mono @spec_l9Good.mono @spec_l9Under.mono
def spec_Prove.T12:Bool×List (List Nat×List Nat):=(true,[([],[]),([0],[0]),([],[]),([],[]),([2,3],[2,3]),([4],[4]),([1,5,4],[1,5]),([0,1,2,3,4,5,6],[]),([7,6,6,0,1,2,3,4,5,6],[6,7])])
def spec_Prove.B12:List Nat:=[0,1,0,0,12,28,63,127,255]
theorem spec_Prove.tab12:rtab .any (opsOf Tryd.f5 12)=spec_Prove.T12:=by kernel_rfl
theorem spec_Prove.bits12:waitsOk spec_Prove.T12.2 spec_Prove.B12=true:=by kernel_rfl
set_option maxHeartbeats 8000000 in
set_option maxRecDepth 100000 in
theorem spec_Prove.calls (k : Nat) (P0_0_ : Nat → Prop) (al : Option Addr) (am : Nat) (aa : List (S55)) (a1 : ByteArray) (a2 : Int) (r1 : List ByteArray) (r2 : Bool) (r3 : ByteArray) (w : World) (hs0_0 : Kd.V k55 55 w w.heap.size (fun k_ => P0_0_ k_) (.slice al aa.length am) aa) (h : spec_Prove.f k aa a1 a2 = some (r1, r2, r3)) :
  Calls Tryd.prog 5 #[.agg #[.slice al aa.length am],.string a1,.int .i64 a2] w fun e w' => ∃ v0_:Value,e = .returned (.agg #[v0_,.bool r2,.string r3])∧Kd.R Kd.string 9 w' w.heap.size (fun k_=>(w.heap.size≤k_)) v0_ r1∧Below w.heap.size w w':=by
 have hu32:=Tryd.underlying32;have hu28:=Tryd.underlying28;have hu46:=Tryd.underlying46;have aj:=Aside0.mk (show Kd.V k55 55 w w.heap.size (fun k_=>(P0_0_ k_∨w.heap.size≤k_)) (.slice al aa.length am) aa from Kd.V_mono hs0_0 (fun k_ hk => .inl hk));have HB:=Aside0.mk (Below.refl w.heap.size w);have H:((spec_l9Good.f k aa a2).bind fun aY=>(if aY=true then ((spec_ValidPath.f k a1).bind fun aJ=>(spec_Prove.j0 k a1 a2 (!aJ) aa)) else (spec_Prove.j0 k a1 a2 true aa)))=some (r1,r2,r3):=h;clear h;have bq:=Aside0.mk H;clear H
 go_enter Tryd.func5,Tryd.ntmps5
 go_upto_region 1 with (first|((with_reducible refine gd 3 rfl ?_);refine bx 3 32 (#[.slice al aa.length am]) ?_;intro ao hg w5 hbox hb;refine Ya5 (Kd.V_below (Kd.V_elderB (by (with_reducible repeat (first|apply Kd.V_alloc|apply Kd.V_drewN|apply Kd.V_drew));exact aj.out) ao (Nat.le_of_eq hg.symm)) hb) (below_step (be HB.out) hb) (hbox) (bs hg (be HB.out)) (bs hg (be HB.out)) ?_;clear aj HB;intro aj HB a3 GW228 GE228;clear hb hbox hg)|((with_reducible refine gd 6 rfl ?_);refine bx 6 28 (#[.slice none 0 0,.bool false,.string (⟨#[]⟩:ByteArray)]) ?_;intro ak hg w6 hbox hb;refine Ya8 (Kd.V_below (Kd.V_elderB (by (with_reducible repeat (first|apply Kd.V_alloc|apply Kd.V_drewN|apply Kd.V_drew));exact aj.out) ak (Nat.le_of_eq hg.symm)) hb) (bb a3 hb) (below_step (bf HB.out) hb) (hbox) (bs hg (bf HB.out)) (bs hg (bf HB.out)) (bl hg a3) (br hg a3) ?_;clear aj a3 HB;intro aj a3 HB a4 GW229 GE229 aK aM;clear hb hbox hg))
 (try simp only [Act.put,List.setIfInBounds_toArray,List.set_cons_zero,List.set_cons_succ])
 go_cut [20] (fun v20 wc => ∃ (kq:Nat) (b8:Bool),v20 = .bool b8∧Aside0 (spec_Prove.j0 kq a1 a2 b8 aa=some (r1,r2,r3))∧Aside0 (kq≤k)∧Aside0 (Kd.V k55 55 wc w.heap.size (fun k_=>(P0_0_ k_∨w.heap.size≤k_)∧k_≠ao∧k_≠ak) (.slice al aa.length am) aa)∧Aside0 (wc.heap[ao]? = some (.cells #[(.slice al aa.length am)] 32 (0,0)))∧Aside0 (wc.heap[ak]? = some (.cells #[(.slice none 0 0),.bool false,.string (⟨#[]⟩:ByteArray)] 28 (0,0)))∧Aside0 (Below w.heap.size w wc))
 case first =>
  have H:=bq.out;clear bq;replace H:=Option.bind_eq_some_iff.mp H;obtain ⟨aY,A70,H⟩:=H;(try dsimp only at H);have A7:=Aside0.mk A70;clear A70
  by_cases c8:aY=true
  ·subst c8
   rw [if_pos rfl] at H
   replace H:=Option.bind_eq_some_iff.mp H;obtain ⟨aJ,A90,H⟩:=H;(try dsimp only at H);have A9:=Aside0.mk A90;clear A90;have H':=Aside0.mk H;clear H;have hnb10:=aK.out;have hnc10:=aM.out;have ⟨bP,bQ⟩:=Yc1 a3.out
   go_wp2_with (first|((with_reducible refine gc 14 rfl ?_);refine gl (some 14) _ (#[.agg #[.slice al aa.length am],.int .i64 a2]) Tryd.func14 ?_;(with_reducible refine (spec_l9Good.calls k _ _ aa a2 true _ ?side1 ?side2 A7.out).mono ?_);(case side1=>repeat (first|exact (Kd.V_reads' aj.out).2.2|(with_reducible refine Kd.C_alloc ?_ _)|(with_reducible refine Kd.C_drewN ?_ _)|(with_reducible refine Kd.C_drew ?_)));(case side2=>exact (Kd.V_reads' aj.out).2.1);rintro e w12 ⟨rfl,hb⟩;refine ⟨_,rfl,?_⟩;refine Ya4 (Kd.V_below (by (with_reducible repeat (first|apply Kd.V_alloc|apply Kd.V_drewN|apply Kd.V_drew));exact aj.out) hb) (bb a3 hb) (bb a4 hb) (below_step (bf HB.out) hb) ?_;clear aj a3 a4 HB;intro aj a3 a4 HB;(try clear hb);(try clear hb2);(try clear hk);(try clear hi))|(go_at_call 15;(with_reducible refine (spec_ValidPath.calls k a1 aJ _ A9.out).mono ?_);rintro e w13 ⟨rfl,hb⟩;refine Ya4 (Kd.V_below (by (with_reducible repeat (first|apply Kd.V_alloc|apply Kd.V_drewN|apply Kd.V_drew));exact aj.out) hb) (bb a3 hb) (bb a4 hb) (below_step (bf HB.out) hb) ?_;clear aj a3 a4 HB;intro aj a3 a4 HB;(try clear hb);(try clear hb2);(try clear hk);(try clear hi)))
   go_meet
   case rel=>exact ⟨_,(!aJ),Ye1,H',⟨by first|omega|exact Nat.le_refl _⟩,⟨by (with_reducible repeat (first|apply Kd.V_alloc|apply Kd.V_drewN|apply Kd.V_drew));exact Kd.V_mono aj.out (fun _ hk=>⟨hk.1.1,⟨hk.1.2,hk.2⟩⟩)⟩,⟨bk a3.out⟩,⟨bk a4.out⟩,⟨bf HB.out⟩⟩
  ·replace c8:=Bool.eq_false_iff.mpr c8;subst c8
   rw [if_neg (show ¬(false=true) by decide)] at H
   have H':=Aside0.mk H;clear H;have hnb14:=aK.out;have hnc14:=aM.out;have ⟨bR,bS⟩:=Yc1 a3.out
   go_wp2_with (first|((with_reducible refine gc 14 rfl ?_);refine gl (some 14) _ (#[.agg #[.slice al aa.length am],.int .i64 a2]) Tryd.func14 ?_;(with_reducible refine (spec_l9Good.calls k _ _ aa a2 false _ ?side1 ?side2 A7.out).mono ?_);(case side1=>repeat (first|exact (Kd.V_reads' aj.out).2.2|(with_reducible refine Kd.C_alloc ?_ _)|(with_reducible refine Kd.C_drewN ?_ _)|(with_reducible refine Kd.C_drew ?_)));(case side2=>exact (Kd.V_reads' aj.out).2.1);rintro e w16 ⟨rfl,hb⟩;refine ⟨_,rfl,?_⟩;refine Ya4 (Kd.V_below (by (with_reducible repeat (first|apply Kd.V_alloc|apply Kd.V_drewN|apply Kd.V_drew));exact aj.out) hb) (bb a3 hb) (bb a4 hb) (below_step (bf HB.out) hb) ?_;clear aj a3 a4 HB;intro aj a3 a4 HB;(try clear hb);(try clear hb2);(try clear hk);(try clear hi)))
   go_meet
   case rel=>exact ⟨_,(true),Ye1,H',⟨by first|omega|exact Nat.le_refl _⟩,⟨by (with_reducible repeat (first|apply Kd.V_alloc|apply Kd.V_drewN|apply Kd.V_drew));exact Kd.V_mono aj.out (fun _ hk=>⟨hk.1.1,⟨hk.1.2,hk.2⟩⟩)⟩,⟨bk a3.out⟩,⟨bk a4.out⟩,⟨bf HB.out⟩⟩
 case rest =>
  clear bq;(try clear c1);(try clear p2);(try clear c5);(try clear c8);(try clear c10);(try clear c14);(try clear bP);(try clear bR);(try clear bQ);(try clear bS);obtain ⟨kq,b8,rfl,HA,HJ3,a7,a3,a4,HB⟩:=hcut
  cases kq with
  | zero=>exact absurd HA.out (by simp [spec_Prove.j0])
  | succ b9 =>
   have H:=HA.out;clear HA;simp only [spec_Prove.j0] at H
   by_cases aZ:b8=true
   ·subst aZ
    rw [if_pos rfl] at H
    simp only [Option.some.injEq,Prod.mk.injEq] at H;obtain ⟨rfl,rfl,rfl⟩:=H;have hnb18:=aM.out;have hnc18:=aK.out;have ⟨co,cp,cq,cr,cs,ct⟩:=Yc3 a4.out
    go_wp2
    refine bodyPost_ret (results_cell_row rfl _ _ ak 28 #[.slice none 0 0,.bool false,.string (⟨#[]⟩:ByteArray)] (0,0) _ rfl (bp a4.out) Tryd.underlying28 rfl (by kernel_rfl)) rfl ?_;exact ⟨_,Ye2,nl,(bf HB.out)⟩
   ·replace aZ := Bool.eq_false_iff.mpr aZ; subst aZ
    rw [if_neg (show ¬(false=true) by decide)] at H
    replace H:=Option.bind_eq_some_iff.mp H;obtain ⟨ax,bT,H⟩:=H;(try dsimp only at H);have A20:=Aside0.mk bT;clear bT
    obtain ⟨ba,bd⟩:∃ y_:List ByteArray,y_=(([ax]:List ByteArray)):=⟨_,rfl⟩
    (first|replace H:=bl_ bd H|rw [←bd] at H);(try dsimp only at H);have bU:=Aside0.mk bd;clear bd;replace H:=Option.bind_eq_some_iff.mp H;obtain ⟨ai,bV,H⟩:=H;(try dsimp only at H);have A21:=Aside0.mk bV;clear bV;have H':=Aside0.mk H;clear H;have hnb22:=aK.out;have hnc22:=aM.out;have ⟨cu,cv⟩:=Yc1 a3.out
    go_wp2_with (first|((with_reducible refine gc 16 rfl ?_);refine gl (some 24) _ (#[.agg #[.slice al aa.length am],.int .i64 a2]) Tryd.func16 ?_;(with_reducible refine (spec_l9Dir.calls b9 _ _ aa a2 ax _ ?side1 ?side2 A20.out).mono ?_);(case side1=>repeat (first|exact (Kd.V_reads' a7.out).2.2|(with_reducible refine Kd.C_alloc ?_ _)|(with_reducible refine Kd.C_drewN ?_ _)|(with_reducible refine Kd.C_drew ?_)));(case side2=>exact (Kd.V_reads' a7.out).2.1);rintro e w24 ⟨rfl,hb⟩;refine ⟨_,rfl,?_⟩;refine Ya4 (Kd.V_below (by (with_reducible repeat (first|apply Kd.V_alloc|apply Kd.V_drewN|apply Kd.V_drew));exact a7.out) hb) (bb a3 hb) (bb a4 hb) (below_step (bf HB.out) hb) ?_;clear a7 a3 a4 HB;intro a7 a3 a4 HB;(try clear hb);(try clear hb2);(try clear hk);(try clear hi))|((with_reducible refine gd 25 rfl ?_);refine Kd.R_lit Kd.string _ 9 ?hg (N:=25) ?hd (xs:=([ax]:List ByteArray)) (inner:=[.string ax]) (ok:=fun _=>True) (okp:=fun _=>True) ?hr ?hp (fun _ hk=>hk) trivial (Below.refl _ _) (Nat.le_refl _) (by simp) ?_;(case hd=>rfl);(case hg=>rfl);(case hr=>first|(go_simp;done)|(go_simp;rfl));(case hp=>exact (Reps.one (show Kd.M Kd.string _ _ _ ax [.string ax] from rfl) (Reps.none _ _)));intro v234 w25 ho26 hb hg_ hnew_;clear hg_ hnew_;(first|rw [←bU.out] at ho26|(simp only [Int.reduceToNat] at ho26;rw [←bU.out] at ho26));refine Ya5 (Kd.V_elder' (by (with_reducible repeat (first|apply Kd.V_alloc|apply Kd.V_drewN|apply Kd.V_drew));exact a7.out) (Kd.R_base ho26) hb) (Kd.R_lower (Kd.R_newM (M:=fun k_=>(w.heap.size≤k_)) ho26 (below_size (bf HB.out)) (fun k_ h_=>h_)) (below_size (bf HB.out))) (bb a3 hb) (bb a4 hb) (below_step (bf HB.out) hb) ?_;clear a7 a3 a4 HB;intro a7 ap a3 a4 HB;clear hb ho26;obtain ⟨bu,bv,cw⟩:=Kd.R_slice ap.out;subst cw)|((with_reducible refine gd 7 rfl ?_);refine bx 7 28 (#[.slice none 0 0,.bool false,.string (⟨#[]⟩:ByteArray)]) ?_;intro ae hg w28 hbox hb;refine Ya12 (Kd.V_below (Kd.V_elderB (by (with_reducible repeat (first|apply Kd.V_alloc|apply Kd.V_drewN|apply Kd.V_drew));exact a7.out) ae (Nat.le_of_eq hg.symm)) hb) (Kd.R_below (kr ap.out) hb) (bb a3 hb) (bb a4 hb) (below_step (bf HB.out) hb) (hbox) (bs hg (bf HB.out)) (bs hg (bf HB.out)) (bl hg a3) (br hg a3) (bl hg a4) (br hg a4) ?_;clear a7 ap a3 a4 HB;intro a7 ap a3 a4 HB a5 GW236 GE236 aN bg aQ bh;clear hb hbox hg;have hnb29:=bg.out;have hnc29:=aN.out;have hnb30:=bh.out;have hnc30:=aQ.out;have ⟨cx,cy,cz,cA,cB,cC⟩:=Yc3 a5.out)|((with_reducible refine gc 17 rfl ?_);refine gl (some 28) _ (#[.string a1]) Tryd.func17 ?_;(with_reducible refine (spec_l4Parts.calls b9 a1 ai _ A21.out).mono ?_);rintro e w32 ⟨bw,rfl,ho0,hb⟩;refine ⟨_,rfl,?_⟩;refine Ya7 (Kd.V_elder' (by (with_reducible repeat (first|apply Kd.V_alloc|apply Kd.V_drewN|apply Kd.V_drew));exact (Kd.V_mono (Kd.V_far (p:=⟨ae,2,none⟩) (Kd.V_far (p:=⟨ae,1,none⟩) (Kd.V_far (p:=⟨ae,0,none⟩) (Kd.V_mono a7.out (fun k_ hk=>(⟨hk,hk.2⟩:_∧k_≠ae))) (fun _ hk=>hk.2) (.slice bu ba.length bv)) (fun _ hk=>hk.2) (.bool false)) (fun _ hk=>hk.2) (.string (⟨#[]⟩:ByteArray))) (fun _ h_=>h_.1))) (Kd.R_base ho0) hb) (Kd.R_elder' (rf ap a5) (Kd.R_base ho0) hb) (Kd.R_lower (Kd.R_new' (Kd.R_newM (M:=fun k_=>(w.heap.size≤k_)) ho0 (below_size (bf HB.out)) (fun k_ h_=>h_)) (Kd.R_lt (rf ap a5))) (below_size (bf HB.out))) (bbf a3 aN hb) (bbf a4 aQ hb) (blk_below (g:=ae) (o:=.cells #[.slice bu ba.length bv,.bool false,.string (⟨#[]⟩:ByteArray)] 28 (0,0)) (bp a5.out) hb) (below_step (bf HB.out) hb) ?_;clear a7 ap a3 a4 a5 HB;intro a7 ap bi a3 a4 a5 HB;(try clear hb);(try clear hb2);(try clear hk);(try clear hi);(try clear ho0);have ⟨cD,cE⟩:=Yc1 a3.out)|((with_reducible refine gd 9 rfl ?_);refine bx 9 32 (#[.slice none 0 0]) ?_;intro ac hg w34 hbox hb;refine Ya16 (Kd.V_below (Kd.V_elderB (by (with_reducible repeat (first|apply Kd.V_alloc|apply Kd.V_drewN|apply Kd.V_drew));exact a7.out) ac (Nat.le_of_eq hg.symm)) hb) (Kd.R_below (kr ap.out) hb) (Kd.R_below (kr bi.out) hb) (bb a3 hb) (bb a4 hb) (bb a5 hb) (below_step (bf HB.out) hb) (hbox) (bs hg (bf HB.out)) (bs hg (bf HB.out)) (bl hg a3) (br hg a3) (bl hg a4) (br hg a4) (bl hg a5) (br hg a5) ?_;clear a7 ap bi a3 a4 a5 HB;intro a7 ap bi a3 a4 a5 HB a6 GW240 GE240 ay aR az aT aw aA;clear hb hbox hg;have hnb35:=aR.out;have hnc35:=ay.out;have hnb36:=aT.out;have hnc36:=az.out;have hnb37:=aA.out;have hnc37:=aw.out;have ⟨cF,cG⟩:=Yc1 a6.out))
    go_loopg [10] b9 (fun kq v10 w' => ∃ (af:Int) (b0:Bool) (b1:ByteArray) (aq:List ByteArray) (au:List (S55)) (ar:Value) (bz:Value),v10 = .int .i64 af∧Aside0 (spec_Prove.l0 kq a1 a2 ai af aa aq false (⟨#[]⟩:ByteArray) au=some (r1,r2,r3))∧Aside0 (kq≤b9)∧Aside0 (Kd.R Kd.string 9 w' w.heap.size (fun k_=>(w.heap.size≤k_)∧some k_≠(ar:Value).ownBlock) bw ai)∧Aside0 (Kd.V k55 55 w' w.heap.size (fun k_=>(P0_0_ k_∨w.heap.size≤k_)∧some k_≠(bw:Value).ownBlock∧some k_≠(ar:Value).ownBlock∧k_≠ao∧k_≠ak∧k_≠ae∧k_≠ac) (.slice al aa.length am) aa)∧Aside0 (Kd.R Kd.string 9 w' w.heap.size (fun k_=>(w.heap.size≤k_)∧some k_≠(bw:Value).ownBlock) ar aq)∧Aside0 (Kd.V k55 55 w' w.heap.size (fun k_=>(P0_0_ k_∨w.heap.size≤k_)∧k_≠ao∧k_≠ak∧k_≠ae∧k_≠ac) bz au)∧Aside0 (w'.heap[ao]? = some (.cells #[(.slice al aa.length am)] 32 (0,0)))∧Aside0 (w'.heap[ak]? = some (.cells #[(.slice none 0 0),.bool b0,.string b1] 28 (0,0)))∧Aside0 (w'.heap[ae]? = some (.cells #[ar,.bool false,.string (⟨#[]⟩:ByteArray)] 28 (0,0)))∧Aside0 (w'.heap[ac]? = some (.cells #[bz] 32 (0,0)))∧Aside0 (Below w.heap.size w w'))
    case atStart=>exact ⟨(0),(false),((⟨#[]⟩:ByteArray)),(ba),(aa),(.slice bu ba.length bv),(.slice al aa.length am),Ye1,H',⟨Nat.le_refl _⟩,⟨by (with_reducible repeat (first|apply Kd.R_alloc|apply Kd.R_drewN|apply Kd.R_drew));exact Kd.R_mono (Kd.R_far (p:=⟨ac,0,none⟩) (Kd.R_types bi.out a6.out (by decide)) (fun _ hk=>hk.2) (.slice al aa.length am)) (fun _ hk=>⟨hk.1.1.1,hk.1.2⟩)⟩,⟨by (with_reducible repeat (first|apply Kd.V_alloc|apply Kd.V_drewN|apply Kd.V_drew));exact Kd.V_mono (Kd.V_far (p:=⟨ac,0,none⟩) (Kd.V_mono a7.out (fun k_ hk=>(⟨hk,hk.2⟩:_∧k_≠ac))) (fun _ hk=>hk.2) (.slice al aa.length am)) (fun _ hk=>⟨hk.1.1.1.1.1.1,⟨hk.1.1.2,⟨hk.1.1.1.1.2,⟨hk.1.1.1.1.1.2.1,⟨hk.1.1.1.1.1.2.2,⟨hk.1.1.1.2,hk.1.2⟩⟩⟩⟩⟩⟩)⟩,⟨by (with_reducible repeat (first|apply Kd.R_alloc|apply Kd.R_drewN|apply Kd.R_drew));exact Kd.R_mono (Kd.R_far (p:=⟨ac,0,none⟩) (Kd.R_types ap.out a6.out (by decide)) (fun _ hk=>hk.2) (.slice al aa.length am)) (fun _ hk=>⟨hk.1.1.1,hk.1.2⟩)⟩,⟨by (with_reducible repeat (first|apply Kd.V_alloc|apply Kd.V_drewN|apply Kd.V_drew));exact Kd.V_mono (Kd.V_far (p:=⟨ac,0,none⟩) (Kd.V_mono a7.out (fun k_ hk=>(⟨hk,hk.2⟩:_∧k_≠ac))) (fun _ hk=>hk.2) (.slice al aa.length am)) (fun _ hk=>⟨hk.1.1.1.1.1.1,⟨hk.1.1.1.1.1.2.1,⟨hk.1.1.1.1.1.2.2,⟨hk.1.1.1.2,hk.1.2⟩⟩⟩⟩)⟩,⟨bkf a3.out ay.out⟩,⟨bkf a4.out az.out⟩,⟨bkf a5.out aw.out⟩,⟨bp a6.out⟩,⟨bf HB.out⟩⟩
    case round =>
     clear H';(try clear c1);(try clear c2);(try clear p2);(try clear c3);(try clear c5);(try clear c8);(try clear c10);(try clear c14);(try clear c16);(try clear aZ);(try clear c18);(try clear c22);(try clear c29);(try clear c30);(try clear c35);(try clear c36);(try clear c37);(try clear bP);(try clear bR);(try clear co);(try clear cp);(try clear cq);(try clear cu);(try clear cx);(try clear cy);(try clear cz);(try clear cD);(try clear cF);(try clear bQ);(try clear bS);(try clear cr);(try clear cs);(try clear ct);(try clear cv);(try clear cA);(try clear cB);(try clear cC);(try clear cE);(try clear cG);(try clear p2);obtain ⟨af,b0,b1,aq,au,ar,bz,rfl,HA,HK2,ab,a7,a9,ad,a3,a4,a5,a6,HB⟩:=hrel
     cases gk with
     | zero=>exact absurd HA.out (by simp [spec_Prove.l0])
     | succ k2 =>
      have H:=HA.out;clear HA;simp only [spec_Prove.l0] at H
      by_cases aU:(wrap64 (af+1))<(ai.length:Int)
      ·rw [if_pos aU] at H
       have cH:decide ((wrap64 (af+1))<(ai.length:Int))=true:=decide_eq_true aU;clear aU
       by_cases bj:0≤af
       ·rw [if_pos bj] at H
        have c40b0:decide (0≤af)=true:=decide_eq_true bj;clear bj
        by_cases bm:af<(ai.length:Int)
        ·rw [if_pos bm] at H
         have c41b0:decide (af<(ai.length:Int))=true:=decide_eq_true bm;clear bm;replace H:=Option.bind_eq_some_iff.mp H;obtain ⟨a8,bW,H⟩:=H;(try dsimp only at H);have A42:=Aside0.mk bW;clear bW
         by_cases aC:(a8.length:Int)=0
         ·rw [if_pos aC] at H
          have cI:((a8.length:Int)==0)=true:=beq_iff_eq.mpr aC;have cJ:((a8.length:Int) != 0)=false:=bne_eq_false_iff_eq.mpr aC;clear aC;simp only [Option.some.injEq,Prod.mk.injEq] at H;obtain ⟨rfl,rfl,rfl⟩:=H;obtain ⟨Ao44,co44,cK⟩:=Kd.R_slice ab.out;subst cK
          try go_wp2
          refine Ya9 (Kd.R_drew ab.out) (Kd.V_drew a7.out) (Kd.R_drew a9.out) (Kd.V_drew ad.out) (blk_drew a3.out) (blk_drew a4.out) (blk_drew a5.out) (blk_drew a6.out) (below_drew1 HB.out) ?_;clear ab a7 a9 ad a3 a4 a5 a6 HB;intro ab a7 a9 ad a3 a4 a5 a6 HB;have aE:0≤(af:Int):=oda;have aG:af<(ai.length:Int):=oda;obtain ⟨aD,bA,b2⟩:=Kd.at_string (Kd.R_reads' ab.out).2.2 af aE aG
          cases bA
          replace aE:=eq_true aE;replace aG:=eq_true aG;obtain ⟨bX,bY,bZ⟩:=Kd.V_slice ad.out;(first|subst bZ|(injection bZ with f1_ f2_ f3_;have f4_:=f1_.symm;have f5_:=f3_.symm;clear f1_ f2_ f3_;subst f4_;subst f5_));refine start_ (n:=7) (S:=fun w'=>w'.cell? ⟨ac,0,none⟩=some (.slice bX au.length bY)∧w'.cell? (aD.add (af).toNat)=some (.string (rdOf ByteArray.empty ai af))) (ds:=[6]) (fb 7 0) (by kernel_rfl) rfl rfl ⟨bc a6 0,b2⟩ (fun hHeld => ?_);generalize wr.drew=w45 at ab a7 a9 ad a3 a4 a5 a6 HB b2 hHeld ⊢; refine pure_ (i:=1) (N:=some 38) (v:=?_) (a':=?_) (fb 7 2) rfl rfl (by kernel_rfl) (fun _ _ _ h=>h) (Or.inl ⟨by rfl,?_⟩) ?_ ?_;rotate_left
          ·intro w';go_simp;(with_reducible rfl)
          rotate_left
          ·simp only [Act.put,List.setIfInBounds_toArray,List.set_cons_zero,List.set_cons_succ,i64_w,i32_w];rfl
          refine pure_ (i:=2) (N:=some 39) (v:=?_) (a':=?_) (fb 7 6) rfl rfl (by kernel_rfl) (fun _ _ _ h=>h) (Or.inl ⟨by rfl,?_⟩) ?_ ?_;rotate_left
          ·intro w';go_simp;(with_reducible rfl)
          rotate_left
          ·simp only [Act.put,List.setIfInBounds_toArray,List.set_cons_zero,List.set_cons_succ,i64_w,i32_w];rfl
          refine pure_ (i:=3) (N:=some 40) (v:=?_) (a':=?_) (fb 7 14) rfl rfl (by kernel_rfl) (fun _ _ _ h=>h) (Or.inl ⟨by rfl,?_⟩) ?_ ?_;rotate_left
          ·intro w';go_simp;(with_reducible rfl)
          rotate_left
          ·simp only [Act.put,List.setIfInBounds_toArray,List.set_cons_zero,List.set_cons_succ,i64_w,i32_w];rfl
          refine take_ (i:=0) (N:=some 37) (v:=?_) (a':=?_) (fb 7 15) rfl rfl (by kernel_rfl) (fun _ _ _ h=>h) (Or.inl ⟨by rfl,?_⟩) hHeld ?_ ?_;rotate_left
          ·rintro w' ⟨s0,s1⟩;go_simp;(with_reducible rfl)
          rotate_left
          ·simp only [Act.put,List.setIfInBounds_toArray,List.set_cons_zero,List.set_cons_succ,i64_w,i32_w];rfl
          refine take_ (i:=4) (N:=some 41) (v:=?_) (a':=?_) (fb 7 31) rfl rfl (by kernel_rfl) (fun _ _ _ h=>h) (Or.inl ⟨by rfl,?_⟩) hHeld ?_ ?_;rotate_left
          ·rintro w' ⟨s0,s1⟩;go_simp;(with_reducible rfl)
          rotate_left
          ·simp only [Act.put,List.setIfInBounds_toArray,List.set_cons_zero,List.set_cons_succ,i64_w,i32_w];rfl
          refine one_ (i:=5) (N:=some 42) (fb 7 63) rfl rfl (by kernel_rfl) (by decide) (fun K hK => ?_);refine gs _ (#[.agg #[.slice bX au.length bY],.string (rdOf ByteArray.empty ai af)]) Tryd.func18 ?_;(with_reducible refine (spec_l9Under.calls k2 _ _ au (rdOf ByteArray.empty ai af) a8 _ ?side1 ?side2 A42.out).mono ?_);(case side1=>repeat (first|exact (Kd.V_reads' ad.out).2.2|(with_reducible refine Kd.C_alloc ?_ _)|(with_reducible refine Kd.C_drewN ?_ _)|(with_reducible refine Kd.C_drew ?_)));(case side2=>exact (Kd.V_reads' ad.out).2.1);rintro e w47 ⟨cL,rfl,ho0,hb⟩;have HS1_:=(hb.cell (World.block_lt_of_cell? _ _ (hHeld.2))).trans (hHeld.2);refine ⟨_,rfl,?_⟩;refine Ya10 (Kd.R_below (kr ab.out) hb) (Kd.V_elder' (by (with_reducible repeat (first|apply Kd.V_alloc|apply Kd.V_drewN|apply Kd.V_drew));exact a7.out) (Kd.R_base ho0) hb) (Kd.R_below (kr a9.out) hb) (Kd.V_elder' (by (with_reducible repeat (first|apply Kd.V_alloc|apply Kd.V_drewN|apply Kd.V_drew));exact ad.out) (Kd.R_base ho0) hb) (Kd.R_lower (Kd.R_newM (M:=fun k_=>(w.heap.size≤k_)) ho0 (below_size (bf HB.out)) (fun k_ h_=>h_)) (below_size (bf HB.out))) (bb a3 hb) (bb a4 hb) (bb a5 hb) (bb a6 hb) (below_step (bf HB.out) hb) ?_;clear ab a7 a9 ad a3 a4 a5 a6 HB;intro ab a7 a9 ad an a3 a4 a5 a6 HB;(try clear hb);(try clear hb2);(try clear hk);(try clear hi);(try clear ho0);obtain ⟨cM,cN,c0⟩:=Kd.R_slice an.out;(first|subst c0|(injection c0 with f1_ f2_ f3_;have f4_:=f1_.symm;have f5_:=f3_.symm;clear f1_ f2_ f3_;subst f4_;subst f5_));refine hK.out _ _ ⟨bc a6 0,HS1_⟩ (fun hHeld => ?_);clear hK K;refine nm 42 ?_;refine last_ (i:=6) (N:=none) (fb 7 127) rfl rfl (by kernel_rfl) (by decide) (fun K hK => ?_);have ⟨hs49,hfs49⟩:=Yc1 a6.out;have d2:=ay.out;have d3:=az.out;have d4:=aw.out;have d5:=aR.out;have d6:=aT.out;have d7:=aA.out;refine skip_ (w1:=?_) (by rfl) rfl ?_ ?_;rotate_left
          ·go_simp;rfl
          refine hK.out _ _ ?_;clear hK K;refine done_ (by kernel_rfl) ?_;have hnb50:=aR.out;have hnc50:=ay.out;have hnb51:=aT.out;have hnc51:=az.out;have hnb52:=aA.out;have hnc52:=aw.out;have ⟨d8,d9⟩:=Yc1 a6.out;have hnb54:=bg.out;have hnc54:=aN.out;have hnb55:=bh.out;have hnc55:=aQ.out;have ⟨da,db,dc,dd,de,df⟩:=Yc3 a5.out;obtain ⟨ca,cc,cO⟩:=Kd.R_slice a9.out;subst cO;have hnb58:=aM.out;have hnc58:=aK.out;have ⟨dg,dh,di,dj,dk,dl⟩:=Yc3 a4.out
          try go_wp2
          refine bodyPost_ret (results_cell_row rfl _ _ ak 28 #[.slice ca aq.length cc,.bool false,.string (⟨#[]⟩:ByteArray)] (0,0) _ rfl (bp a4.out) Tryd.underlying28 rfl (by kernel_rfl)) rfl ?_;exact ⟨_,Ye2,by (with_reducible repeat (first|apply Kd.R_alloc|apply Kd.R_drewN|apply Kd.R_drew));exact Kd.R_mono (Kd.R_far (p:=⟨ak,2,none⟩) (Kd.R_far (p:=⟨ak,1,none⟩) (Kd.R_far (p:=⟨ak,0,none⟩) (Kd.R_far (p:=⟨ac,0,none⟩) (Kd.R_types (Kd.R_types a9.out a6.out (by decide)) a4.out (by decide)) (fun _ hk=>hk.1.2) (.slice cM a8.length cN)) (fun _ hk=>hk.2) (.slice ca aq.length cc)) (fun _ hk=>hk.2) (.bool false)) (fun _ hk=>hk.2) (.string (⟨#[]⟩:ByteArray))) (fun _ hk=>hk.1.1.1),(bf HB.out)⟩
         ·rw [if_neg aC] at H
          have cI:((a8.length:Int)==0)=false:=beq_eq_false_iff_ne.mpr aC;have cJ:((a8.length:Int) != 0)=true:=bne_iff_ne.mpr aC
          have c43b2:¬ (a8 = []):=fun h_=>aC (by rw [h_];rfl)
          replace H:=Option.bind_eq_some_iff.mp H;obtain ⟨aI,cd,H⟩:=H;(try dsimp only at H);have A60:=Aside0.mk cd;clear cd
          by_cases bn:aq.length<8796093022208
          ·rw [if_pos bn] at H
           have cP:=Aside0.mk bn;clear bn
           obtain ⟨aV,bo⟩:∃ y_:List ByteArray,y_=(aq ++ [aI]):=⟨_,rfl⟩
           (first|replace H:=bl_ bo H|rw [←bo] at H);(try dsimp only at H);have cQ:=Aside0.mk bo;clear bo;have H':=Aside0.mk H;clear H;obtain ⟨Ao62,b3,cR⟩:=Kd.R_slice ab.out;subst cR
           try go_wp2
           refine Ya9 (Kd.R_drew ab.out) (Kd.V_drew a7.out) (Kd.R_drew a9.out) (Kd.V_drew ad.out) (blk_drew a3.out) (blk_drew a4.out) (blk_drew a5.out) (blk_drew a6.out) (below_drew1 HB.out) ?_;clear ab a7 a9 ad a3 a4 a5 a6 HB;intro ab a7 a9 ad a3 a4 a5 a6 HB;have aE:0≤(af:Int):=oda;have aG:af<(ai.length:Int):=oda;obtain ⟨aD,bA,b2⟩:=Kd.at_string (Kd.R_reads' ab.out).2.2 af aE aG
           cases bA
           replace aE:=eq_true aE;replace aG:=eq_true aG;obtain ⟨bB,bC,ce⟩:=Kd.V_slice ad.out;(first|subst ce|(injection ce with f1_ f2_ f3_;have f4_:=f1_.symm;have f5_:=f3_.symm;clear f1_ f2_ f3_;subst f4_;subst f5_));refine start_ (n:=7) (S:=fun w'=>w'.cell? ⟨ac,0,none⟩=some (.slice bB au.length bC)∧w'.cell? (aD.add (af).toNat)=some (.string (rdOf ByteArray.empty ai af))) (ds:=[6]) (fb 7 0) (by kernel_rfl) rfl rfl ⟨bc a6 0,b2⟩ (fun hHeld => ?_);generalize wr.drew=w63 at ab a7 a9 ad a3 a4 a5 a6 HB b2 hHeld ⊢; refine pure_ (i:=1) (N:=some 38) (v:=?_) (a':=?_) (fb 7 2) rfl rfl (by kernel_rfl) (fun _ _ _ h=>h) (Or.inl ⟨by rfl,?_⟩) ?_ ?_;rotate_left
           ·intro w';go_simp;(with_reducible rfl)
           rotate_left
           ·simp only [Act.put,List.setIfInBounds_toArray,List.set_cons_zero,List.set_cons_succ,i64_w,i32_w];rfl
           refine pure_ (i:=2) (N:=some 39) (v:=?_) (a':=?_) (fb 7 6) rfl rfl (by kernel_rfl) (fun _ _ _ h=>h) (Or.inl ⟨by rfl,?_⟩) ?_ ?_;rotate_left
           ·intro w';go_simp;(with_reducible rfl)
           rotate_left
           ·simp only [Act.put,List.setIfInBounds_toArray,List.set_cons_zero,List.set_cons_succ,i64_w,i32_w];rfl
           refine pure_ (i:=3) (N:=some 40) (v:=?_) (a':=?_) (fb 7 14) rfl rfl (by kernel_rfl) (fun _ _ _ h=>h) (Or.inl ⟨by rfl,?_⟩) ?_ ?_;rotate_left
           ·intro w';go_simp;(with_reducible rfl)
           rotate_left
           ·simp only [Act.put,List.setIfInBounds_toArray,List.set_cons_zero,List.set_cons_succ,i64_w,i32_w];rfl
           refine take_ (i:=0) (N:=some 37) (v:=?_) (a':=?_) (fb 7 15) rfl rfl (by kernel_rfl) (fun _ _ _ h=>h) (Or.inl ⟨by rfl,?_⟩) hHeld ?_ ?_;rotate_left
           ·rintro w' ⟨s0,s1⟩;go_simp;(with_reducible rfl)
           rotate_left
           ·simp only [Act.put,List.setIfInBounds_toArray,List.set_cons_zero,List.set_cons_succ,i64_w,i32_w];rfl
           refine take_ (i:=4) (N:=some 41) (v:=?_) (a':=?_) (fb 7 31) rfl rfl (by kernel_rfl) (fun _ _ _ h=>h) (Or.inl ⟨by rfl,?_⟩) hHeld ?_ ?_;rotate_left
           ·rintro w' ⟨s0,s1⟩;go_simp;(with_reducible rfl)
           rotate_left
           ·simp only [Act.put,List.setIfInBounds_toArray,List.set_cons_zero,List.set_cons_succ,i64_w,i32_w];rfl
           refine one_ (i:=5) (N:=some 42) (fb 7 63) rfl rfl (by kernel_rfl) (by decide) (fun K hK => ?_);refine gs _ (#[.agg #[.slice bB au.length bC],.string (rdOf ByteArray.empty ai af)]) Tryd.func18 ?_;(with_reducible refine (spec_l9Under.calls k2 _ _ au (rdOf ByteArray.empty ai af) a8 _ ?side1 ?side2 A42.out).mono ?_);(case side1=>repeat (first|exact (Kd.V_reads' ad.out).2.2|(with_reducible refine Kd.C_alloc ?_ _)|(with_reducible refine Kd.C_drewN ?_ _)|(with_reducible refine Kd.C_drew ?_)));(case side2=>exact (Kd.V_reads' ad.out).2.1);rintro e av ⟨cL,rfl,ho0,hb⟩;have HS1_:=(hb.cell (World.block_lt_of_cell? _ _ (hHeld.2))).trans (hHeld.2);refine ⟨_,rfl,?_⟩;refine Ya10 (Kd.R_below (kr ab.out) hb) (Kd.V_elder' (by (with_reducible repeat (first|apply Kd.V_alloc|apply Kd.V_drewN|apply Kd.V_drew));exact a7.out) (Kd.R_base ho0) hb) (Kd.R_below (kr a9.out) hb) (Kd.V_elder' (by (with_reducible repeat (first|apply Kd.V_alloc|apply Kd.V_drewN|apply Kd.V_drew));exact ad.out) (Kd.R_base ho0) hb) (Kd.R_lower (Kd.R_newM (M:=fun k_=>(w.heap.size≤k_)) ho0 (below_size (bf HB.out)) (fun k_ h_=>h_)) (below_size (bf HB.out))) (bb a3 hb) (bb a4 hb) (bb a5 hb) (bb a6 hb) (below_step (bf HB.out) hb) ?_;clear ab a7 a9 ad a3 a4 a5 a6 HB;intro ab a7 a9 ad an a3 a4 a5 a6 HB;(try clear hb);(try clear hb2);(try clear hk);(try clear hi);(try clear ho0);obtain ⟨ag,ah,cf⟩:=Kd.R_slice an.out;(first|subst cf|(injection cf with f1_ f2_ f3_;have f4_:=f1_.symm;have f5_:=f3_.symm;clear f1_ f2_ f3_;subst f4_;subst f5_));refine hK.out _ _ ⟨bc a6 0,HS1_⟩ (fun hHeld => ?_);clear hK K;refine nm 42 ?_;refine last_ (i:=6) (N:=none) (fb 7 127) rfl rfl (by kernel_rfl) (by decide) (fun K hK => ?_);have ⟨hs67,hfs67⟩:=Yc1 a6.out;have dm:=ay.out;have dn:=az.out;have dp:=aw.out;have dq:=aR.out;have dr:=aT.out;have dt:=aA.out;refine skip_ (w1:=?_) (by rfl) rfl ?_ ?_;rotate_left
           ·go_simp;rfl
           refine hK.out _ _ ?_;clear hK K;refine done_ (by kernel_rfl) ?_;have hnb68:=aR.out;have hnc68:=ay.out;have hnb69:=aT.out;have hnc69:=az.out;have hnb70:=aA.out;have hnc70:=aw.out;have ⟨du,dv⟩:=Yc1 a6.out
           try go_wp2
           have bD:Aside0 (Kd.R Kd.string 9 (av.setCell ⟨ac,0,none⟩ (.slice ag a8.length ah)) w.heap.size (fun k_=>(w.heap.size≤k_)∧some k_≠(ar:Value).ownBlock) (.slice (some aD) ai.length b3) ai):=⟨by (with_reducible repeat (first|apply Kd.R_alloc|apply Kd.R_drewN|apply Kd.R_drew));exact Kd.R_mono (Kd.R_far (p:=⟨ac,0,none⟩) (Kd.R_types ab.out a6.out (by decide)) (fun _ hk=>hk.2) (.slice ag a8.length ah)) (fun _ hk=>⟨hk.1.1,hk.1.2⟩)⟩
           have bE:Aside0 (Kd.V k55 55 (av.setCell ⟨ac,0,none⟩ (.slice ag a8.length ah)) w.heap.size (fun k_=>(P0_0_ k_∨w.heap.size≤k_)∧some k_≠(.slice (some aD) ai.length b3:Value).ownBlock∧some k_≠(ar:Value).ownBlock∧some k_≠(.slice ag a8.length ah:Value).ownBlock∧k_≠ao∧k_≠ak∧k_≠ae∧k_≠ac) (.slice al aa.length am) aa):=⟨by (with_reducible repeat (first|apply Kd.V_alloc|apply Kd.V_drewN|apply Kd.V_drew));exact Kd.V_mono (Kd.V_far (p:=⟨ac,0,none⟩) (Kd.V_mono a7.out (fun k_ hk=>(⟨hk,hk.1.2.2.2.2.2.2⟩:_∧k_≠ac))) (fun _ hk=>hk.2) (.slice ag a8.length ah)) (fun _ hk=>⟨hk.1.1.1,⟨hk.1.1.2.1,⟨hk.1.1.2.2.1,⟨hk.1.2,⟨hk.1.1.2.2.2.1,⟨hk.1.1.2.2.2.2.1,⟨hk.1.1.2.2.2.2.2.1,hk.1.1.2.2.2.2.2.2⟩⟩⟩⟩⟩⟩⟩)⟩
           have bF:Aside0 (Kd.R Kd.string 9 (av.setCell ⟨ac,0,none⟩ (.slice ag a8.length ah)) w.heap.size (fun k_=>(w.heap.size≤k_)∧some k_≠(.slice (some aD) ai.length b3:Value).ownBlock) ar aq):=⟨by (with_reducible repeat (first|apply Kd.R_alloc|apply Kd.R_drewN|apply Kd.R_drew));exact Kd.R_mono (Kd.R_far (p:=⟨ac,0,none⟩) (Kd.R_types a9.out a6.out (by decide)) (fun _ hk=>hk.2) (.slice ag a8.length ah)) (fun _ hk=>⟨hk.1.1,hk.1.2⟩)⟩
           have bG:Aside0 (Kd.V k55 55 (av.setCell ⟨ac,0,none⟩ (.slice ag a8.length ah)) w.heap.size (fun k_=>(P0_0_ k_∨w.heap.size≤k_)∧some k_≠(.slice ag a8.length ah:Value).ownBlock∧k_≠ao∧k_≠ak∧k_≠ae∧k_≠ac) (.slice bB au.length bC) au):=⟨by (with_reducible repeat (first|apply Kd.V_alloc|apply Kd.V_drewN|apply Kd.V_drew));exact Kd.V_mono (Kd.V_far (p:=⟨ac,0,none⟩) (Kd.V_mono ad.out (fun k_ hk=>(⟨hk,hk.1.2.2.2.2⟩:_∧k_≠ac))) (fun _ hk=>hk.2) (.slice ag a8.length ah)) (fun _ hk=>⟨hk.1.1.1,⟨hk.1.2,⟨hk.1.1.2.1,⟨hk.1.1.2.2.1,⟨hk.1.1.2.2.2.1,hk.1.1.2.2.2.2⟩⟩⟩⟩⟩)⟩
           have bH:Aside0 (Kd.R k55 55 (av.setCell ⟨ac,0,none⟩ (.slice ag a8.length ah)) w.heap.size (fun k_=>(w.heap.size≤k_)) (.slice ag a8.length ah) a8):=⟨by (with_reducible repeat (first|apply Kd.R_alloc|apply Kd.R_drewN|apply Kd.R_drew));exact Kd.R_mono (Kd.R_far (p:=⟨ac,0,none⟩) (Kd.R_types an.out a6.out (by decide)) (fun _ hk=>hk.2) (.slice ag a8.length ah)) (fun _ hk=>hk.1.1)⟩
           have bI:Aside0 ((av.setCell ⟨ac,0,none⟩ (.slice ag a8.length ah)).heap[ao]? = some (.cells #[.slice al aa.length am] 32 (0,0))):=⟨bkf a3.out ay.out⟩
           have bJ:Aside0 ((av.setCell ⟨ac,0,none⟩ (.slice ag a8.length ah)).heap[ak]? = some (.cells #[.slice none 0 0,.bool b0,.string b1] 28 (0,0))):=⟨bkf a4.out az.out⟩
           have bK:Aside0 ((av.setCell ⟨ac,0,none⟩ (.slice ag a8.length ah)).heap[ae]? = some (.cells #[ar,.bool false,.string (⟨#[]⟩:ByteArray)] 28 (0,0))):=⟨bkf a5.out aw.out⟩
           have bL:Aside0 ((av.setCell ⟨ac,0,none⟩ (.slice ag a8.length ah)).heap[ac]? = some (.cells #[.slice ag a8.length ah] 32 (0,0))):=⟨bp a6.out⟩
           have bM:Aside0 (Below w.heap.size w (av.setCell ⟨ac,0,none⟩ (.slice ag a8.length ah))):=⟨bf HB.out⟩
           (try clear ab);(try clear a7);(try clear a9);(try clear ad);(try clear an);(try clear a3);(try clear a4);(try clear a5);(try clear a6);(try clear HB);generalize (av.setCell ⟨ac,0,none⟩ (.slice ag a8.length ah))=w72 at bD bE bF bG bH bI bJ bK bL bM ⊢; have ab:=bD;have a7:=bE;have a9:=bF;have ad:=bG;have an:=bH;have a3:=bI;have a4:=bJ;have a5:=bK;have a6:=bL;have HB:=bM;clear bD bE bF bG bH bI bJ bK bL bM;refine Ya10 (Kd.R_drew ab.out) (Kd.V_drew a7.out) (Kd.R_drew a9.out) (Kd.V_drew ad.out) (Kd.R_drew an.out) (blk_drew a3.out) (blk_drew a4.out) (blk_drew a5.out) (blk_drew a6.out) (below_drew1 HB.out) ?_;clear ab a7 a9 ad an a3 a4 a5 a6 HB;intro ab a7 a9 ad an a3 a4 a5 a6 HB;refine start_ (n:=9) (S:=fun w'=>w'.cell? ⟨ae,0,none⟩=some (ar)∧w'.cell? ⟨ae,1,none⟩=some (.bool false)∧w'.cell? ⟨ae,2,none⟩=some (.string (⟨#[]⟩:ByteArray))∧w'.cell? ⟨ac,0,none⟩=some (.slice ag a8.length ah)) (ds:=[8]) (fb 9 0) (by kernel_rfl) rfl rfl ⟨bc a5 0,bc a5 1,bc a5 2,bc a6 0⟩ (fun hHeld => ?_);refine with_tabW spec_Prove.tab12 spec_Prove.bits12 (fun HT_ HW_ => ?_);generalize w72.drew=w73 at ab a7 a9 ad an a3 a4 a5 a6 HB hHeld ⊢; refine pu 0 48 (fb 9 1) HT_ ?_;refine pu 3 51 (fb 9 9) HT_ ?_;refine tk 1 49 (fb 9 11) HT_ HW_ hHeld ?_;refine tk 2 50 (fb 9 15) HT_ HW_ hHeld ?_;refine o1 4 (some 52) (fb 9 31) HT_ (fun K hK => ?_);refine gs _ (#[.agg #[.slice ag a8.length ah],.int .i64 a2]) Tryd.func16 ?_;(with_reducible refine (spec_l9Dir.calls k2 _ _ a8 a2 aI _ ?side1 ?side2 A60.out).mono ?_);(case side1=>repeat (first|exact (Kd.R_reads' an.out).2.2|(with_reducible refine Kd.C_alloc ?_ _)|(with_reducible refine Kd.C_drewN ?_ _)|(with_reducible refine Kd.C_drew ?_)));(case side2=>exact (Kd.R_reads' an.out).2.1);rintro e w74 ⟨rfl,hb⟩;refine ⟨_,rfl,?_⟩;refine Ya10 (Kd.R_below (kr ab.out) hb) (Kd.V_below (by (with_reducible repeat (first|apply Kd.V_alloc|apply Kd.V_drewN|apply Kd.V_drew));exact a7.out) hb) (Kd.R_below (kr a9.out) hb) (Kd.V_below (by (with_reducible repeat (first|apply Kd.V_alloc|apply Kd.V_drewN|apply Kd.V_drew));exact ad.out) hb) (Kd.R_below (kr an.out) hb) (bb a3 hb) (bb a4 hb) (bb a5 hb) (bb a6 hb) (below_step (bf HB.out) hb) ?_;clear ab a7 a9 ad an a3 a4 a5 a6 HB;intro ab a7 a9 ad an a3 a4 a5 a6 HB;(try clear hb);(try clear hb2);(try clear hk);(try clear hi);refine hK.out _ _ ⟨bc a5 0,bc a5 1,bc a5 2,bc a6 0⟩ (fun hHeld => ?_);clear hK K;refine nm 52 ?_;refine o1 5 (some 53) (fb 9 63) HT_ (fun K hK => ?_);refine value_ (w1:=?_) (v:=?_) (by rfl) rfl ?_ ?_;rotate_left 2
           ·go_simp
            constructor
            ·rfl
            ·rfl
           refine hK.out _ _ ⟨(blk_cell (blk_alloc a5.out _) 0).trans rfl,(blk_cell (blk_alloc a5.out _) 1).trans rfl,(blk_cell (blk_alloc a5.out _) 2).trans rfl,(blk_cell (blk_alloc a6.out _) 0).trans rfl⟩ (fun hHeld => ?_);clear hK K;refine nm 53 ?_;refine o1 6 (some 54) (fb 9 127) HT_ (fun K hK => ?_);refine Kd.R_append_step Kd.string (w0:=w) w.heap.size (by rfl) (.tmp 49) (.tmp 53) 26 9 (.string ⟨#[]⟩) 16 rfl Tryd.underlying26 info9 rfl (by decide) (by omega) ar aq aI [.string aI] (fun k_=>(w.heap.size≤k_)∧some k_≠(.slice (some aD) ai.length b3:Value).ownBlock) (fun _=>False) rfl rfl ?aP (fun _ hk=>hk.elim) ?aF ?aO ?aB ?aS ?aL ?_;(case aP=>exact rfl);(case aB=>exact (bf HB.out));(case aF=>exact (fun k_ hk=>⟨(Nat.le_trans (below_size (bf HB.out)) hk),Kd.fresh' (Kd.R_lt (kr ab.out)) k_ hk⟩));(case aO=>exact (kr a9.out));(case aS=>exact (below_size (bf HB.out)));(case aL=>have:=cP.out;omega);intro v251 w75 ho hb hg hat
           rw [←cQ.out] at ho
           refine Ya9 (Kd.R_after (ok:=(fun k_=>(w.heap.size≤k_))) (kr ab.out) hg hat) (Kd.V_afterv (ok:=(fun k_=>(P0_0_ k_∨w.heap.size≤k_)∧some k_≠(.slice (some aD) ai.length b3:Value).ownBlock∧some k_≠(.slice ag a8.length ah:Value).ownBlock∧k_≠ao∧k_≠ak∧k_≠ae∧k_≠ac)) (by (with_reducible repeat (first|apply Kd.V_alloc|apply Kd.V_drewN|apply Kd.V_drew));exact Kd.V_mono a7.out (fun _ hk=>⟨⟨hk.1,⟨hk.2.1,⟨hk.2.2.2.1,⟨hk.2.2.2.2.1,⟨hk.2.2.2.2.2.1,⟨hk.2.2.2.2.2.2.1,hk.2.2.2.2.2.2.2⟩⟩⟩⟩⟩⟩,hk.2.2.1⟩)) hg hat) (blk_grown (g:=ao) (o:=.cells #[.slice al aa.length am] 32 (0,0)) (bk a3.out) hg (Kd.R_ne a9.out a3.out (by decide))) (blk_grown (g:=ak) (o:=.cells #[.slice none 0 0,.bool b0,.string b1] 28 (0,0)) (bk a4.out) hg (Kd.R_ne a9.out a4.out (by decide))) (blk_grown (g:=ae) (o:=.cells #[ar,.bool false,.string (⟨#[]⟩:ByteArray)] 28 (0,0)) (bk a5.out) hg (Kd.R_ne a9.out a5.out (by decide))) (blk_grown (g:=ac) (o:=.cells #[.slice ag a8.length ah] 32 (0,0)) (bk a6.out) hg (Kd.R_ne a9.out a6.out (by decide))) (Kd.R_over' (kr an.out) (Kd.R_typed (kr a9.out)) (by decide) hg) (hb) (ho) ?_;clear ab a7 a3 a4 a5 a6 an HB a9;intro ab a7 a3 a4 a5 a6 an HB cg;clear ho hb hg hat;obtain ⟨b4,b5,ch⟩:=Kd.R_slice cg.out;(first|subst ch|(injection ch with f1_ f2_ f3_;have f4_:=f1_.symm;have f5_:=f3_.symm;clear f1_ f2_ f3_;subst f4_;subst f5_));refine hK.out _ _ ⟨bc a5 0,bc a5 1,bc a5 2,bc a6 0⟩ (fun hHeld => ?_);clear hK K;refine nm 54 ?_;refine pu 7 55 (fb 9 255) HT_ ?_;refine last_ (i:=8) (N:=none) (fb 9 511) rfl rfl (one_of HT_.out (by kernel_rfl)) (by decide) (fun K hK => ?_);have ⟨hs77,_,_,hfs77,_,_⟩:=Yc3 a5.out;have dw:=aN.out;have dx:=aQ.out;have dy:=aA.out;have dA:=bg.out;have dB:=bh.out;have dC:=aw.out;refine skip_ (w1:=?_) (by rfl) rfl ?_ ?_;rotate_left
           ·go_simp;rfl
           refine hK.out _ _ ?_;clear hK K;refine done_ (done_of HT_.out (by kernel_rfl)) ?_
           try go_wp2
           go_roundg k2
           case measure=>have:=HJ3.out;have:=HK2.out;omega
           case rel=>exact ⟨(wrap64 (af+1)),(b0),(b1),(aV),(a8),(.slice b4 aV.length b5),(.slice ag a8.length ah),Ye1,H',⟨by have:=HJ3.out;have:=HK2.out;omega⟩,⟨by (with_reducible repeat (first|apply Kd.R_alloc|apply Kd.R_drewN|apply Kd.R_drew));exact Kd.R_mono (Kd.R_far (p:=⟨ae,0,none⟩) (Kd.R_types ab.out a5.out (by decide)) (fun _ hk=>hk.2) (.slice b4 aV.length b5)) (fun _ hk=>⟨hk.1.1,hk.1.2⟩)⟩,⟨by (with_reducible repeat (first|apply Kd.V_alloc|apply Kd.V_drewN|apply Kd.V_drew));exact Kd.V_mono (Kd.V_far (p:=⟨ae,0,none⟩) (Kd.V_mono a7.out (fun k_ hk=>(⟨hk,hk.1.2.2.2.2.2.1⟩:_∧k_≠ae))) (fun _ hk=>hk.2) (.slice b4 aV.length b5)) (fun _ hk=>⟨hk.1.1.1,⟨hk.1.1.2.1,⟨hk.1.2,⟨hk.1.1.2.2.2.1,⟨hk.1.1.2.2.2.2.1,⟨hk.1.1.2.2.2.2.2.1,hk.1.1.2.2.2.2.2.2⟩⟩⟩⟩⟩⟩)⟩,⟨by (with_reducible repeat (first|apply Kd.R_alloc|apply Kd.R_drewN|apply Kd.R_drew));exact Kd.R_mono (Kd.R_far (p:=⟨ae,0,none⟩) (Kd.R_types cg.out a5.out (by decide)) (fun _ hk=>hk.2) (.slice b4 aV.length b5)) (fun _ hk=>⟨hk.1.1,hk.1.2⟩)⟩,⟨Kd.V_mono (Kd.R_V (ok:=fun k_=>(w.heap.size≤k_)∧k_≠ao∧k_≠ak∧k_≠ae∧k_≠ac) (by (with_reducible repeat (first|apply Kd.R_alloc|apply Kd.R_drewN|apply Kd.R_drew));exact Kd.R_mono (Kd.R_far (p:=⟨ae,0,none⟩) (Kd.R_types (Kd.R_types (Kd.R_types (Kd.R_types (Kd.R_types an.out a3.out (by decide)) a4.out (by decide)) a5.out (by decide)) a6.out (by decide)) a5.out (by decide)) (fun _ hk=>hk.2) (.slice b4 aV.length b5)) (fun _ hk=>⟨hk.1.1.1.1.1,⟨hk.1.1.1.1.2,⟨hk.1.1.1.2,⟨hk.1.1.2,hk.1.2⟩⟩⟩⟩))) (fun k_ hk=>by first|exact ⟨(.inr (hk.1)),hk.2⟩|exact (.inr (hk)))⟩,⟨bkf a3.out aN.out⟩,⟨bkf a4.out aQ.out⟩,⟨bp a5.out⟩,⟨bkf a6.out aA.out⟩,⟨bf HB.out⟩⟩
          ·rw [if_neg bn] at H
           exact absurd H (by simp)
        ·rw [if_neg bm] at H
         exact absurd H (by simp)
       ·rw [if_neg bj] at H
        exact absurd H (by simp)
      ·rw [if_neg aU] at H
       have cH:decide ((wrap64 (af+1))<(ai.length:Int))=false:=decide_eq_false aU;clear aU;replace H:=Option.bind_eq_some_iff.mp H;obtain ⟨⟨aW,aX,ci⟩,cj,H⟩:=H;replace H:(some (aq,aW,aX))=some (r1,r2,r3):=H;have A78:=Aside0.mk cj;clear cj;simp only [Option.some.injEq,Prod.mk.injEq] at H;obtain ⟨rfl,rfl,rfl⟩:=H;obtain ⟨Ao79,co79,cS⟩:=Kd.R_slice ab.out;subst cS;have hnb80:=aK.out;have hnc80:=aM.out;have hnb81:=aN.out;have hnc81:=bg.out;have hnb82:=ay.out;have hnc82:=aR.out;have ⟨dD,dE⟩:=Yc1 a3.out
       go_wp2_with (first|((with_reducible refine gc 19 rfl ?_);refine gl (some 58) _ (#[.agg #[.slice al aa.length am],.string a1]) Tryd.func19 ?_;(with_reducible refine (spec_l6At.calls k2 _ _ aa a1 aW aX ci _ ?side1 ?side2 A78.out).mono ?_);(case side1=>repeat (first|exact (Kd.V_reads' a7.out).2.2|(with_reducible refine Kd.C_alloc ?_ _)|(with_reducible refine Kd.C_drewN ?_ _)|(with_reducible refine Kd.C_drew ?_)));(case side2=>exact (Kd.V_reads' a7.out).2.1);rintro e w84 ⟨rfl,hb⟩;refine ⟨_,rfl,?_⟩;refine Ya9 (Kd.R_below (kr ab.out) hb) (Kd.V_below (by (with_reducible repeat (first|apply Kd.V_alloc|apply Kd.V_drewN|apply Kd.V_drew));exact a7.out) hb) (Kd.R_below (kr a9.out) hb) (Kd.V_below (by (with_reducible repeat (first|apply Kd.V_alloc|apply Kd.V_drewN|apply Kd.V_drew));exact ad.out) hb) (bb a3 hb) (bb a4 hb) (bb a5 hb) (bb a6 hb) (below_step (bf HB.out) hb) ?_;clear ab a7 a9 ad a3 a4 a5 a6 HB;intro ab a7 a9 ad a3 a4 a5 a6 HB;(try clear hb);(try clear hb2);(try clear hk);(try clear hi))|((with_reducible refine gd 11 rfl ?_);refine bx 11 46 (#[.bool false,.string (⟨#[]⟩:ByteArray),.bool false]) ?_;intro b6 hg w85 hbox hb;refine Ya20 (Kd.R_below (kr ab.out) hb) (Kd.V_below (Kd.V_elderB (by (with_reducible repeat (first|apply Kd.V_alloc|apply Kd.V_drewN|apply Kd.V_drew));exact a7.out) b6 (Nat.le_of_eq hg.symm)) hb) (Kd.R_below (kr a9.out) hb) (Kd.V_below (Kd.V_elderB (by (with_reducible repeat (first|apply Kd.V_alloc|apply Kd.V_drewN|apply Kd.V_drew));exact ad.out) b6 (Nat.le_of_eq hg.symm)) hb) (bb a3 hb) (bb a4 hb) (bb a5 hb) (bb a6 hb) (below_step (bf HB.out) hb) (hbox) (bs hg (bf HB.out)) (bs hg (bf HB.out)) (bl hg a3) (br hg a3) (bl hg a4) (br hg a4) (bl hg a5) (br hg a5) (bl hg a6) (br hg a6) ?_;clear ab a7 a9 ad a3 a4 a5 a6 HB;intro ab a7 a9 ad a3 a4 a5 a6 HB ck GW244 GE244 cT cU cV cW cX cY cZ d0;clear hb hbox hg;have hnb86:=cU.out;have hnc86:=cT.out;have hnb87:=cW.out;have hnc87:=cV.out;have hnb88:=cY.out;have hnc88:=cX.out;have hnb89:=d0.out;have hnc89:=cZ.out;have ⟨dF,dG,dH,dI,dJ,dK⟩:=Yc3 ck.out;have hnb91:=bh.out;have hnc91:=aQ.out;have hnb92:=aw.out;have hnc92:=aA.out;have ⟨dL,dM,dN,dO,dP,dQ⟩:=Yc3 a5.out;obtain ⟨cl,cm,d1⟩:=Kd.R_slice a9.out;subst d1;have hnb95:=az.out;have hnc95:=aT.out;have ⟨dR,dS,dT,dU,dV,dW⟩:=Yc3 a4.out))
       refine bodyPost_ret (results_cell_row rfl _ _ ak 28 #[.slice cl aq.length cm,.bool aW,.string aX] (0,0) _ rfl (bp a4.out) Tryd.underlying28 rfl (by kernel_rfl)) rfl ?_;exact ⟨_,Ye2,by (with_reducible repeat (first|apply Kd.R_alloc|apply Kd.R_drewN|apply Kd.R_drew));exact Kd.R_mono (Kd.R_far (p:=⟨ak,2,none⟩) (Kd.R_far (p:=⟨ak,1,none⟩) (Kd.R_far (p:=⟨ak,0,none⟩) (Kd.R_far (p:=⟨ae,2,none⟩) (Kd.R_far (p:=⟨ae,1,none⟩) (Kd.R_far (p:=⟨b6,2,none⟩) (Kd.R_far (p:=⟨b6,1,none⟩) (Kd.R_far (p:=⟨b6,0,none⟩) (Kd.R_types (Kd.R_types (Kd.R_types a9.out ck.out (by decide)) a5.out (by decide)) a4.out (by decide)) (fun _ hk=>hk.1.1.2) (.bool aW)) (fun _ hk=>hk.1.1.2) (.string aX)) (fun _ hk=>hk.1.1.2) (.bool ci)) (fun _ hk=>hk.1.2) (.bool aW)) (fun _ hk=>hk.1.2) (.string aX)) (fun _ hk=>hk.2) (.slice cl aq.length cm)) (fun _ hk=>hk.2) (.bool aW)) (fun _ hk=>hk.2) (.string aX)) (fun _ hk=>hk.1.1.1.1),(bf HB.out)⟩

end Go.Proofs.YthfpoacindblgaaDoor.P

