/- Several texts of this claim in one file: YtknagppkeodggaaDoorPImplPartMatch, YtknagppkeodggaaDoorPImplMatchParts, YtknagppkeodggaaDoorPImplIn, YtknagppkeodggaaDoorPImplGoodPart, YtknagppkeodggaaDoorPStringsSplit, YtknagppkeodggaaDoorPImplParts, YtknagppkeodggaaDoorPImplValidGlob, YtknagppkeodggaaDoorPImplValidPath, YtknagppkeodggaaDoorPImplMatch, YtknagppkeodggaaDoorPImplGoodEntry, YtknagppkeodggaaDoorPStringsliteHasPrefix, YtknagppkeodggaaDoorPStringsHasPrefix, YtknagppkeodggaaDoorPImplOver, YtknagppkeodggaaDoorPImplValidTree, YtknagppkeodggaaDoorPSlicesContainsFuncStringString, YtknagppkeodggaaDoorPImplPick, YtknagppkeodggaaDoorPLawsWTree, YtknagppkeodggaaDoorPSpecL1Many, YtknagppkeodggaaDoorPSpecL1Open, YtknagppkeodggaaDoorPSpecL4Parts. -/
import Derived.Test.YtknagppkeodggaaDoorM2
import Derived.Test.YtknagppkeodggaaDoorM3
import Derived.Lib.SplitLaws
namespace Go.Proofs.YtknagppkeodggaaDoor.P
open Go.RowKit Go.Proofs.YtknagppkeodggaaDoorW.PrintWords Go.Proofs.YtknagppkeodggaaDoorW.PrintLast Go.Proofs.YtknagppkeodggaaDoorW.PrintMore
attribute [local go_sem] max2_int min2_int max_two min_two max_three min_three max_four min_four
set_option linter.unusedVariables false
set_option linter.unusedSimpArgs false

mutual
def impl_partMatch.l0:Nat→ByteArray→ByteArray→List Bool→Int→Option (Bool)
 | 0,_,_,_,_=>none
 | k+1,x0,x1,x5,x6=>if x6<(x0.size:Int) then (if 0≤(wrap64 ((x1.size:Int)+1)) then (if (wrap64 ((x1.size:Int)+1):Int).toNat≤281474976710656 then ((some (List.replicate (wrap64 ((x1.size:Int)+1):Int).toNat false:List Bool)).bind fun ai=>(if 0≤x6 then (if (bt x0 x6)=42 then (impl_partMatch.l1 k x0 x1 x5 x6 ai false (x5.length:Int) 0) else (impl_partMatch.l2 k x0 x1 x5 x6 ai 0)) else (none))) else (none)) else (none)) else (if 0≤(x1.size:Int) then (if (x1.size:Int)<(x5.length:Int) then (some (rdOf false x5 (x1.size:Int))) else (none)) else (none))
def impl_partMatch.l1:Nat→ByteArray→ByteArray→List Bool→Int→List Bool→Bool→Int→Int→Option (Bool)
 | 0,_,_,_,_,_,_,_,_=>none
 | k+1,x0,x1,x5,x6,x7,x8,x32,x33=>if x33<x32 then (if x8=true then (if 0≤x33 then (if x33<(x7.length:Int) then (impl_partMatch.l1 k x0 x1 x5 x6 (x7.set (x33:Int).toNat true) true x32 (wrap64 (x33+1))) else (none)) else (none)) else (if 0≤x33 then (if x33<(x5.length:Int) then (if x33<(x7.length:Int) then (impl_partMatch.l1 k x0 x1 x5 x6 (x7.set (x33:Int).toNat (rdOf false x5 x33)) (rdOf false x5 x33) x32 (wrap64 (x33+1))) else (none)) else (none)) else (none))) else (impl_partMatch.l0 k x0 x1 x7 (wrap64 (x6+1)))
def impl_partMatch.l2:Nat→ByteArray→ByteArray→List Bool→Int→List Bool→Int→Option (Bool)
 | 0,_,_,_,_,_,_=>none
 | k+1,x0,x1,x5,x6,x7,x10=>if x10<(x1.size:Int) then (if 0≤x10 then (if x10<(x5.length:Int) then (if rdOf false x5 x10=true then (if 0≤x6 then (if x6<(x0.size:Int) then (if (bt x0 x6)=63 then (if 0≤(wrap64 (x10+1)) then (if (wrap64 (x10+1))<(x7.length:Int) then (impl_partMatch.l2 k x0 x1 x5 x6 (x7.set ((wrap64 (x10+1)):Int).toNat true) (wrap64 (x10+1))) else (none)) else (none)) else (if 0≤(wrap64 (x10+1)) then (if (wrap64 (x10+1))<(x7.length:Int) then (impl_partMatch.l2 k x0 x1 x5 x6 (x7.set ((wrap64 (x10+1)):Int).toNat ((bt x0 x6)==(bt x1 x10))) (wrap64 (x10+1))) else (none)) else (none))) else (none)) else (none)) else (if 0≤(wrap64 (x10+1)) then (if (wrap64 (x10+1))<(x7.length:Int) then (impl_partMatch.l2 k x0 x1 x5 x6 (x7.set ((wrap64 (x10+1)):Int).toNat false) (wrap64 (x10+1))) else (none)) else (none))) else (none)) else (none)) else (impl_partMatch.l0 k x0 x1 x7 (wrap64 (x6+1)))
end
def impl_partMatch.f (k:Nat) (a0:ByteArray) (a1:ByteArray):Option (Bool):=if 0≤(wrap64 ((a1.size:Int)+1)) then (if (wrap64 ((a1.size:Int)+1):Int).toNat≤281474976710656 then ((some (List.replicate (wrap64 ((a1.size:Int)+1):Int).toNat false:List Bool)).bind fun a9=>(if 0<(a9.length:Int) then (impl_partMatch.l0 k a0 a1 (a9.set (0:Int).toNat true) 0) else (none))) else (none)) else (none)
theorem impl_partMatch.mono_l:∀ k,(∀ y0 y1 y2 y3,LeO (impl_partMatch.l0 k y0 y1 y2 y3) (impl_partMatch.l0 (k+1) y0 y1 y2 y3))∧(∀ y0 y1 y2 y3 y4 y5 y6 y7,LeO (impl_partMatch.l1 k y0 y1 y2 y3 y4 y5 y6 y7) (impl_partMatch.l1 (k+1) y0 y1 y2 y3 y4 y5 y6 y7))∧(∀ y0 y1 y2 y3 y4 y5,LeO (impl_partMatch.l2 k y0 y1 y2 y3 y4 y5) (impl_partMatch.l2 (k+1) y0 y1 y2 y3 y4 y5))
 | 0=>⟨fun _ _ _ _ r h=>by simp [impl_partMatch.l0] at h,fun _ _ _ _ _ _ _ _ r h=>by simp [impl_partMatch.l1] at h,fun _ _ _ _ _ _ r h=>by simp [impl_partMatch.l2] at h⟩
 | k + 1 => by
  obtain ⟨ih0,ih1,ih2⟩:=impl_partMatch.mono_l k;refine ⟨?_,?_,?_⟩
  ·intro y0 y1 y2 y3
   unfold impl_partMatch.l0
   repeat' first
   | (with_reducible exact ih0 _ _ _ _)
   | (with_reducible exact ih1 _ _ _ _ _ _ _ _)
   | (with_reducible exact ih2 _ _ _ _ _ _)
   | (with_reducible exact LeO.refl _)
   | (with_reducible exact LeO.none _)
   | (with_reducible refine LeO.ite ?_ ?_)
   | (with_reducible refine LeO.bind ?_ (fun _ => ?_))
   | exact ih0 _ _ _ _
   | exact ih1 _ _ _ _ _ _ _ _
   | exact ih2 _ _ _ _ _ _
   | exact LeO.none _
   | refine LeO.ite ?_ ?_
   | refine LeO.bind ?_ (fun _ => ?_)
  ·intro y0 y1 y2 y3 y4 y5 y6 y7
   unfold impl_partMatch.l1
   repeat' first
   | (with_reducible exact ih0 _ _ _ _)
   | (with_reducible exact ih1 _ _ _ _ _ _ _ _)
   | (with_reducible exact ih2 _ _ _ _ _ _)
   | (with_reducible exact LeO.refl _)
   | (with_reducible exact LeO.none _)
   | (with_reducible refine LeO.ite ?_ ?_)
   | (with_reducible refine LeO.bind ?_ (fun _ => ?_))
   | exact ih0 _ _ _ _
   | exact ih1 _ _ _ _ _ _ _ _
   | exact ih2 _ _ _ _ _ _
   | exact LeO.none _
   | refine LeO.ite ?_ ?_
   | refine LeO.bind ?_ (fun _ => ?_)
  ·intro y0 y1 y2 y3 y4 y5
   unfold impl_partMatch.l2
   repeat' first
   | (with_reducible exact ih0 _ _ _ _)
   | (with_reducible exact ih1 _ _ _ _ _ _ _ _)
   | (with_reducible exact ih2 _ _ _ _ _ _)
   | (with_reducible exact LeO.refl _)
   | (with_reducible exact LeO.none _)
   | (with_reducible refine LeO.ite ?_ ?_)
   | (with_reducible refine LeO.bind ?_ (fun _ => ?_))
   | exact ih0 _ _ _ _
   | exact ih1 _ _ _ _ _ _ _ _
   | exact ih2 _ _ _ _ _ _
   | exact LeO.none _
   | refine LeO.ite ?_ ?_
   | refine LeO.bind ?_ (fun _ => ?_)
theorem impl_partMatch.mono:∀ a0 a1 k,LeO (impl_partMatch.f k a0 a1) (impl_partMatch.f (k+1) a0 a1):=by
 intro a0 a1 k;obtain ⟨ih0,ih1,ih2⟩:=impl_partMatch.mono_l k
 unfold impl_partMatch.f
 repeat' first
   | (with_reducible exact ih0 _ _ _ _)
   | (with_reducible exact ih1 _ _ _ _ _ _ _ _)
   | (with_reducible exact ih2 _ _ _ _ _ _)
   | (with_reducible exact LeO.refl _)
   | (with_reducible exact LeO.none _)
   | (with_reducible refine LeO.ite ?_ ?_)
   | (with_reducible refine LeO.bind ?_ (fun _ => ?_))
   | exact ih0 _ _ _ _
   | exact ih1 _ _ _ _ _ _ _ _
   | exact ih2 _ _ _ _ _ _
   | exact LeO.none _
   | refine LeO.ite ?_ ?_
   | refine LeO.bind ?_ (fun _ => ?_)
def impl_partMatch.T18:Bool×List (List Nat×List Nat):=(true,[([],[]),([],[]),([1],[1]),([],[]),([],[]),([3,4],[3,4]),([5],[5]),([6],[6]),([7],[7]),([7],[7]),([8,9,7],[7,8,9]),([10,7],[7,10]),([11,7,7],[7,11]),([12],[12]),([12],[12]),([13,14,12],[12,13,14]),([12],[12]),([12],[12]),([16,17,12],[12,16,17]),([15,18,12],[12,15,18]),([12,19,7],[7,12,19]),([7,20],[7,20]),([0,2,0,1,2,3,4,5,6,7,8,9,10,11,12,13,14,15,16,17,18,19,20,21],[0,2]),([22,21,12,0,1,2,3,4,5,6,7,8,9,10,11,12,13,14,15,16,17,18,19,20,21],[21,22])])
def impl_partMatch.B18:List Nat:=[0,0,2,0,0,24,56,120,248,248,1016,2040,4088,8184,8184,32760,8184,8184,204792,524280,1048568,2097144,4194303,8388607]
theorem impl_partMatch.tab18:rtab .any (opsOf Tryd.f146 18)=impl_partMatch.T18:=by kernel_rfl
theorem impl_partMatch.bits18:waitsOk impl_partMatch.T18.2 impl_partMatch.B18=true:=by kernel_rfl
set_option maxHeartbeats 8000000 in
set_option maxRecDepth 100000 in
theorem impl_partMatch.calls (k : Nat) (a0 : ByteArray) (a1 : ByteArray) (r : Bool) (w : World) (h : impl_partMatch.f k a0 a1 = some r) :
  Calls Tryd.prog 146 #[.string a0,.string a1] w fun e w'=>e = .returned (.bool r)∧Below w.heap.size w w':=by
 have HB:=Aside0.mk (Below.refl w.heap.size w);have H:(if 0≤(wrap64 ((a1.size:Int)+1)) then (if (wrap64 ((a1.size:Int)+1):Int).toNat≤281474976710656 then ((some (List.replicate (wrap64 ((a1.size:Int)+1):Int).toNat false:List Bool)).bind fun a9=>(if 0<(a9.length:Int) then (impl_partMatch.l0 k a0 a1 (a9.set (0:Int).toNat true) 0) else (none))) else (none)) else (none))=some r:=h;clear h
 obtain ⟨ae,ax⟩:∃ j_:Int,(wrap64 ((a1.size:Int)+1))=j_:=⟨_,rfl⟩
 replace H:(if 0≤(ae) then (if (ae:Int).toNat≤281474976710656 then ((some (List.replicate (ae:Int).toNat false:List Bool)).bind fun a9=>(if 0<(a9.length:Int) then (impl_partMatch.l0 k a0 a1 (a9.set (0:Int).toNat true) 0) else (none))) else (none)) else (none))=some r:=by first|(rw [ax] at H;exact H)|(simp only [ax] at H ⊢; exact H)
 have hji3w:(IntKind.i64.wrap ((a1.size:Int)+1))=ae:=(i64_w _).trans ax
 by_cases c4:0≤(ae)
 ·rw [if_pos c4] at H
  have ba:=eq_true c4;have bd:decide (0≤(ae))=true:=decide_eq_true c4;clear c4
  by_cases c5:(ae:Int).toNat≤281474976710656
  ·rw [if_pos c5] at H
   have bg:=eq_true c5;have bh:decide ((ae:Int).toNat≤281474976710656)=true:=decide_eq_true c5;clear c5
   obtain ⟨a9,ay⟩:∃ y_:List Bool,y_=(List.replicate (ae:Int).toNat false):=⟨_,rfl⟩
   replace H:(if 0<(a9.length:Int) then (impl_partMatch.l0 k a0 a1 (a9.set (0:Int).toNat true) 0) else (none))=some r:=by first|(rw [ay];with_reducible exact H)|(have H2_:=(Option.bind_some _ _).symm.trans H;rw [ay];with_reducible exact H2_)|(have H2_:=(Option.bind_some _ _).symm.trans H;with_reducible exact H2_)|with_reducible exact H|(rw [ay];exact H)|exact H
   have bP:=Aside0.mk ay;clear ay
   by_cases c6:0<(a9.length:Int)
   ·rw [if_pos c6] at H
    have bi:decide (0<(a9.length:Int))=true:=decide_eq_true c6;have bj:decide (0<a9.length)=true:=decide_eq_true (by omega);clear c6
    obtain ⟨bm,az⟩:∃ y_:List Bool,y_=(a9.set (0:Int).toNat true):=⟨_,rfl⟩
    replace H:(impl_partMatch.l0 k a0 a1 bm 0)=some r:=by first|(rw [az];with_reducible exact H)|(have H2_:=(Option.bind_some _ _).symm.trans H;rw [az];with_reducible exact H2_)|(have H2_:=(Option.bind_some _ _).symm.trans H;with_reducible exact H2_)|with_reducible exact H|(rw [az];exact H)|exact H
    have cp:=Aside0.mk az;clear az;have H':=Aside0.mk H;clear H
    go_enter Tryd.func146,Tryd.ntmps146
    go_wp2_with (first|((with_reducible refine gd 14 rfl ?_);refine Kd.R_make Kd.bool _ 4 rfl (N:=14) rfl 233 _ _ rfl ae rfl rfl Tryd.underlying233 (.bool false) 1 info4 rfl (by decide) (by omega) false (ok:=fun _=>True) (okp:=fun _=>True) rfl (fun _ hk=>hk) trivial (oda) (Nat.le_trans (Nat.mul_le_mul_right _ (oda:ae.toNat≤281474976710656)) (by omega)) (Below.refl _ _) (Nat.le_refl _) ?_;intro v503 w8 ho9 hb hg_ hnew_;clear hg_ hnew_;(first|rw [←bP.out] at ho9|(simp only [Int.reduceToNat] at ho9;rw [←bP.out] at ho9));refine Ya2 (Kd.R_lower ho9 (below_size (be HB.out))) (below_step (be HB.out) hb) ?_;clear HB;intro am HB;clear hb ho9;have p7:0≤(0:Int):=(by omega);have q7:(0:Int)<((a9.length:Int):Int):=oda;have qi7:(0<a9.length)=True:=eq_true (by omega);obtain ⟨bn,co7,eo7,gb7,gl7,cl7,HG7⟩:=Kd.R_form am.out (by omega);(first|cases eo7|(injection eo7 with ea_ en_ ec_;(first|subst ea_|(injection ea_ with ea_;subst ea_));subst ec_;clear en_));have GB7:=Aside0.mk gb7;have GG7:=Aside0.mk HG7;clear gb7 gl7 HG7;obtain ⟨aA,hf7_0⟩:=Kd.R_celln false am.out (0:Int) p7 q7;(try rw [show ((0:Int)).toNat=0 from rfl] at aA);(try simp only [Nat.reduceMul,Nat.zero_mul,Nat.zero_add,Nat.reduceAdd] at aA);(try rw [show ((0:Int)).toNat=0 from rfl] at hf7_0);(try simp only [Nat.reduceMul,Nat.zero_mul,Nat.zero_add,Nat.reduceAdd] at hf7_0);replace p7:=eq_true p7;replace q7:=eq_true q7;obtain ⟨hy10_,hz10_⟩:=Kd.R_celln false am.out (0:Int) (by omega) (oda);(try simp only [Int.reduceToNat,Int.toNat_zero,Int.toNat_ofNat,Nat.reduceMul,Nat.zero_mul,Nat.zero_add] at hy10_ hz10_);(try rw [show ((0:Int)).toNat=0 from rfl] at hy10_);(try rw [show ((0:Int)).toNat=0 from rfl] at hz10_);have bo:=Kd.R_putg am.out (0:Int) true)|((with_reducible refine gate_store (t:=4) (p:=16) rfl ?_);refine store_event (t:=4) (p:=16) (v:=?vo_w11) (w1:=(w8.setCell ⟨bn,(0:Int).toNat,none⟩ (.bool true))) ?hg ?ho ?hn ?hr ?_;(case ho=>rfl);(case hg=>rfl);(case hn=>rfl);(case hr=>first|(go_simp;done)|(go_simp;rfl));intro bq hw;have hg:w8.grownBy bq (some bn):=(by rw [hw];exact bo.2);have hp_:Kd.R Kd.bool 4 bq w.heap.size (fun _=>True) (.slice (some ⟨bn,0,none⟩) a9.length co7) bm:=(by rw [hw,cp.out];exact bo.1);clear bo;refine Ya2 (hp_) ((by rw [hw];exact below_set (HB.out) GB7.out:Below w.heap.size w bq)) ?_;clear am HB;intro am HB;clear hg hw hp_))
    go_loopg [5,6] k (fun kq v5 v6 w' => ∃ (a3:List Bool) (a2:Int),v6 = .int .i64 a2∧Aside0 (impl_partMatch.l0 kq a0 a1 a3 a2=some r)∧Aside0 (kq≤k)∧Aside0 (Kd.R Kd.bool 4 w' w.heap.size (fun _=>True) v5 a3)∧Aside0 (Below w.heap.size w w'))
    case atStart=>exact ⟨(bm),(0),Ye1,H',⟨Nat.le_refl _⟩,⟨kr am.out⟩,⟨be HB.out⟩⟩
    case round =>
     clear H';(try clear c1);(try clear p2);(try clear c4);(try clear ba);(try clear bd);(try clear c5);(try clear bg);(try clear bh);(try clear c6);(try clear bi);(try clear bj);(try clear p6);(try clear p7);(try clear q7);(try clear hx7);(try clear qi7);(try clear hf7);(try clear aA);(try clear p7);(try clear q7);obtain ⟨a3,a2,rfl,HA,HK1,a7,HB⟩:=hrel
     cases gk with
     | zero=>exact absurd HA.out (by simp [impl_partMatch.l0])
     | succ k1 =>
      have H:=HA.out;clear HA;simp only [impl_partMatch.l0] at H
      by_cases ak:a2<(a0.size:Int)
      ·rw [if_pos ak] at H
       have bu:decide (a2<(a0.size:Int))=true:=decide_eq_true ak;clear ak
       obtain ⟨ad,bv⟩:∃ j_:Int,(wrap64 ((a1.size:Int)+1))=j_:=⟨_,rfl⟩
       (try clear hji3w);(try clear ax)
       replace H:(if 0≤(ad) then (if (ad:Int).toNat≤281474976710656 then ((some (List.replicate (ad:Int).toNat false:List Bool)).bind fun ai=>(if 0≤a2 then (if (bt a0 a2)=42 then (impl_partMatch.l1 k1 a0 a1 a3 a2 ai false (a3.length:Int) 0) else (impl_partMatch.l2 k1 a0 a1 a3 a2 ai 0)) else (none))) else (none)) else (none))=some r:=by first|(rw [bv] at H;exact H)|(simp only [bv] at H ⊢; exact H)
       have hji13w:(IntKind.i64.wrap ((a1.size:Int)+1))=ad:=(i64_w _).trans bv
       by_cases an:0≤(ad)
       ·rw [if_pos an] at H
        have bQ:=eq_true an;have bR:decide (0≤(ad))=true:=decide_eq_true an;clear an
        by_cases ao:(ad:Int).toNat≤281474976710656
        ·rw [if_pos ao] at H
         have bS:=eq_true ao;have bT:decide ((ad:Int).toNat≤281474976710656)=true:=decide_eq_true ao;clear ao
         obtain ⟨ai,aB⟩:∃ y_:List Bool,y_=(List.replicate (ad:Int).toNat false):=⟨_,rfl⟩
         replace H:(if 0≤a2 then (if (bt a0 a2)=42 then (impl_partMatch.l1 k1 a0 a1 a3 a2 ai false (a3.length:Int) 0) else (impl_partMatch.l2 k1 a0 a1 a3 a2 ai 0)) else (none))=some r:=by first|(rw [aB];with_reducible exact H)|(have H2_:=(Option.bind_some _ _).symm.trans H;rw [aB];with_reducible exact H2_)|(have H2_:=(Option.bind_some _ _).symm.trans H;with_reducible exact H2_)|with_reducible exact H|(rw [aB];exact H)|exact H
         have aT:=Aside0.mk aB;clear aB
         by_cases au:0≤a2
         ·rw [if_pos au] at H
          have bU:decide (0≤a2)=true:=decide_eq_true au;clear au
          by_cases aj:(bt a0 a2)=42
          ·rw [if_pos aj] at H
           have bw:((bt a0 a2)==42)=true:=beq_iff_eq.mpr aj;have bz:((bt a0 a2) != 42)=false:=bne_eq_false_iff_eq.mpr aj;clear aj;have H':=Aside0.mk H;clear H
           go_wp2_with (first|((with_reducible refine gd 26 rfl ?_);refine Kd.R_make Kd.bool _ 4 rfl (N:=26) rfl 233 _ _ rfl ad rfl rfl Tryd.underlying233 (.bool false) 1 info4 rfl (by decide) (by omega) false (ok:=fun _=>True) (okp:=fun _=>True) rfl (fun _ hk=>hk) trivial (oda) (Nat.le_trans (Nat.mul_le_mul_right _ (oda:ad.toNat≤281474976710656)) (by omega)) (Below.refl _ _) (Nat.le_refl _) ?_;intro aC w19 ho20 hb hg_ hnew_;clear hg_ hnew_;(first|rw [←aT.out] at ho20|(simp only [Int.reduceToNat] at ho20;rw [←aT.out] at ho20));refine Ya3 (Kd.R_elder' (kr a7.out) (Kd.R_base ho20) hb) (Kd.R_lower (Kd.R_new' ho20 (Kd.R_lt (kr a7.out))) (below_size (be HB.out))) (below_step (be HB.out) hb) ?_;clear a7 HB;intro a7 bA HB;clear hb ho20;have p17:0≤(a2:Int):=oda;have q17:a2<(a0.size:Int):=oda;have hx17:=bt_at a0 a2;replace p17:=eq_true p17;replace q17:=eq_true q17;obtain ⟨bB,aU,cq⟩:=Kd.R_slice a7.out;subst cq))
           go_loopg [8,33] k1 (fun kq v8 v33 w' => ∃ (a5:List Bool) (aV:Bool) (a6:Int),v8 = .bool aV∧v33 = .int .i64 a6∧Aside0 (impl_partMatch.l1 kq a0 a1 a3 a2 a5 aV (a3.length:Int) a6=some r)∧Aside0 (kq≤k1)∧Aside0 (Kd.R Kd.bool 4 w' w.heap.size (fun k_=>some k_≠(aC:Value).ownBlock) (.slice bB a3.length aU) a3)∧Aside0 (Kd.R Kd.bool 4 w' w.heap.size (fun k_=>some k_≠((.slice bB a3.length aU):Value).ownBlock) aC a5)∧Aside0 (Below w.heap.size w w'))
           case atStart=>exact ⟨(ai),(false),(0),Ye1,Ye1,H',⟨Nat.le_refl _⟩,⟨by (with_reducible repeat (first|apply Kd.R_alloc|apply Kd.R_drewN|apply Kd.R_drew));exact Kd.R_mono a7.out (fun _ hk=>hk.2)⟩,⟨by (with_reducible repeat (first|apply Kd.R_alloc|apply Kd.R_drewN|apply Kd.R_drew));exact Kd.R_mono bA.out (fun _ hk=>hk.2)⟩,⟨be HB.out⟩⟩
           case round =>
            clear H';(try clear c1);(try clear p1);(try clear q1);(try clear hx1);(try clear p2);(try clear c4);(try clear ba);(try clear bd);(try clear c5);(try clear bg);(try clear bh);(try clear c6);(try clear bi);(try clear bj);(try clear p6);(try clear p7);(try clear q7);(try clear hx7);(try clear qi7);(try clear hf7);(try clear ak);(try clear bu);(try clear an);(try clear bQ);(try clear bR);(try clear ao);(try clear bS);(try clear bT);(try clear au);(try clear bU);(try clear p17);(try clear q17);(try clear hx17);(try clear aj);(try clear bw);(try clear bz);(try clear aA);(try clear p17);(try clear p2);(try clear p6);(try clear p7);(try clear q17);(try clear q7);obtain ⟨a5,aV,a6,rfl,rfl,HA,HK2,a7,a8,HB⟩:=hrel
            cases gk with
            | zero=>exact absurd HA.out (by simp [impl_partMatch.l1])
            | succ k2 =>
             have H:=HA.out;clear HA;simp only [impl_partMatch.l1] at H
             by_cases ap:a6<(a3.length:Int)
             ·rw [if_pos ap] at H
              have bV:decide (a6<(a3.length:Int))=true:=decide_eq_true ap;clear ap
              by_cases aD:aV=true
              ·subst aD
               have H1:(if 0≤a6 then (if a6<(a5.length:Int) then (impl_partMatch.l1 k2 a0 a1 a3 a2 (a5.set (a6:Int).toNat true) true (a3.length:Int) (wrap64 (a6+1))) else (none)) else (none))=some r:=by rw [if_pos rfl] at H;exact H
               clear H;have H:=H1;clear H1
               by_cases aE:0≤a6
               ·rw [if_pos aE] at H
                have cr:decide (0≤a6)=true:=decide_eq_true aE;clear aE
                by_cases aF:a6<(a5.length:Int)
                ·rw [if_pos aF] at H
                 have cs:decide (a6<(a5.length:Int))=true:=decide_eq_true aF;clear aF
                 obtain ⟨bC,aG⟩:∃ y_:List Bool,y_=(a5.set (a6:Int).toNat true):=⟨_,rfl⟩
                 replace H:(impl_partMatch.l1 k2 a0 a1 a3 a2 bC true (a3.length:Int) (wrap64 (a6+1)))=some r:=by first|(rw [aG];with_reducible exact H)|(have H2_:=(Option.bind_some _ _).symm.trans H;rw [aG];with_reducible exact H2_)|(have H2_:=(Option.bind_some _ _).symm.trans H;with_reducible exact H2_)|with_reducible exact H|(rw [aG];exact H)|exact H
                 have ct:=Aside0.mk aG;clear aG;have H':=Aside0.mk H;clear H;have p26:0≤(a6:Int):=oda;have q26:(a6:Int)<((a5.length:Int):Int):=oda;obtain ⟨aH,bD,bW,bX,gl26,cl26,HG26⟩:=Kd.R_form a8.out (by omega);(first|cases bW|(injection bW with ea_ en_ ec_;(first|subst ea_|(injection ea_ with ea_;subst ea_));subst ec_;clear en_));have cu:=Aside0.mk bX;have GG26:=Aside0.mk HG26;clear bX gl26 HG26;obtain ⟨cv,hf26_0⟩:=Kd.R_celln false a8.out (a6:Int) p26 q26;replace p26:=eq_true p26;replace q26:=eq_true q26;have bE:=Kd.R_putg a8.out (a6:Int) true
                 go_wp2_with (first|((with_reducible refine gate_store (t:=4) (p:=46) rfl ?_);refine store_event (t:=4) (p:=46) (v:=?vo_w28) (w1:=(wr.setCell ⟨aH,(a6:Int).toNat,none⟩ (.bool true))) ?hg ?ho ?hn ?hr ?_;(case ho=>rfl);(case hg=>rfl);(case hn=>rfl);(case hr=>first|(go_simp;done)|(go_simp;rfl));intro bF hw;have hg:wr.grownBy bF (some aH):=(by rw [hw];exact bE.2);have hp_:Kd.R Kd.bool 4 bF w.heap.size (fun k_=>some k_≠(.slice bB a3.length aU:Value).ownBlock) (.slice (some ⟨aH,0,none⟩) a5.length bD) bC:=(by rw [hw,ct.out];exact bE.1);clear bE;refine Ya3 (Kd.R_after (v:=(.slice (some ⟨aH,0,none⟩) a5.length bD)) (v1:=(.slice (some ⟨aH,0,none⟩) a5.length bD)) (ok:=(fun _=>True)) (by (with_reducible repeat (first|apply Kd.R_alloc|apply Kd.R_drewN|apply Kd.R_drew));exact Kd.R_mono a7.out (fun _ hk=>⟨trivial,(by first|exact hk|exact fun e_=>hk (e_.trans (own_len _ _ _ _ _)))⟩)) hg (.inl rfl)) (hp_) ((by rw [hw];exact below_set (HB.out) cu.out:Below w.heap.size w bF)) ?_;clear a7 a8 HB;intro a7 a8 HB;clear hg hw hp_))
                 go_roundg k2
                 case measure=>have:=HK1.out;have:=HK2.out;omega
                 case rel=>exact ⟨(bC),(true),(wrap64 (a6+1)),Ye1,Ye1,H',⟨by have:=HK1.out;have:=HK2.out;omega⟩,⟨by (with_reducible repeat (first|apply Kd.R_alloc|apply Kd.R_drewN|apply Kd.R_drew));exact Kd.R_mono a7.out (fun _ hk=>hk.2)⟩,⟨kr a8.out⟩,⟨be HB.out⟩⟩
                ·rw [if_neg aF] at H
                 exact absurd H (by simp)
               ·rw [if_neg aE] at H
                exact absurd H (by simp)
              ·replace aD:=Bool.eq_false_iff.mpr aD;subst aD
               have H1:(if 0≤a6 then (if a6<(a3.length:Int) then (if a6<(a5.length:Int) then (impl_partMatch.l1 k2 a0 a1 a3 a2 (a5.set (a6:Int).toNat (rdOf false a3 a6)) (rdOf false a3 a6) (a3.length:Int) (wrap64 (a6+1))) else (none)) else (none)) else (none))=some r:=by rw [if_neg (show ¬(false=true) by decide)] at H;exact H
               clear H;have H:=H1;clear H1
               by_cases aI:0≤a6
               ·rw [if_pos aI] at H
                have cw:decide (0≤a6)=true:=decide_eq_true aI;clear aI
                by_cases aJ:a6<(a3.length:Int)
                ·rw [if_pos aJ] at H
                 have cx:decide (a6<(a3.length:Int))=true:=decide_eq_true aJ;clear aJ
                 by_cases aK:a6<(a5.length:Int)
                 ·rw [if_pos aK] at H
                  have cy:decide (a6<(a5.length:Int))=true:=decide_eq_true aK;clear aK
                  obtain ⟨bG,aL⟩:∃ y_:List Bool,y_=(a5.set (a6:Int).toNat (rdOf false a3 a6)):=⟨_,rfl⟩
                  replace H:(impl_partMatch.l1 k2 a0 a1 a3 a2 bG (rdOf false a3 a6) (a3.length:Int) (wrap64 (a6+1)))=some r:=by first|(rw [aL];with_reducible exact H)|(have H2_:=(Option.bind_some _ _).symm.trans H;rw [aL];with_reducible exact H2_)|(have H2_:=(Option.bind_some _ _).symm.trans H;with_reducible exact H2_)|with_reducible exact H|(rw [aL];exact H)|exact H
                  have cz:=Aside0.mk aL;clear aL;have H':=Aside0.mk H;clear H;have aW:0≤(a6:Int):=oda;have aX:a6<(a3.length:Int):=oda;obtain ⟨cA,cB,cC⟩:=Kd.at_bool (Kd.R_reads' a7.out).2.2 a6 aW aX
                  cases cB
                  replace aW:=eq_true aW;replace aX:=eq_true aX;have p32:0≤(a6:Int):=oda;have q32:(a6:Int)<((a5.length:Int):Int):=oda;obtain ⟨aM,bH,bY,bZ,gl32,cl32,HG32⟩:=Kd.R_form a8.out (by omega);(first|cases bY|(injection bY with ea_ en_ ec_;(first|subst ea_|(injection ea_ with ea_;subst ea_));subst ec_;clear en_));have cD:=Aside0.mk bZ;have GG32:=Aside0.mk HG32;clear bZ gl32 HG32;obtain ⟨cE,hf32_0⟩:=Kd.R_celln false a8.out (a6:Int) p32 q32;replace p32:=eq_true p32;replace q32:=eq_true q32;have bI:=Kd.R_putg a8.out (a6:Int) (rdOf false a3 a6)
                  go_wp2_with (first|((with_reducible refine gate_store (t:=4) (p:=46) rfl ?_);refine store_event (t:=4) (p:=46) (v:=?vo_w34) (w1:=(wr.setCell ⟨aM,(a6:Int).toNat,none⟩ (.bool (rdOf false a3 a6)))) ?hg ?ho ?hn ?hr ?_;(case ho=>rfl);(case hg=>rfl);(case hn=>rfl);(case hr=>first|(go_simp;done)|(go_simp;rfl));intro bJ hw;have hg:wr.grownBy bJ (some aM):=(by rw [hw];exact bI.2);have hp_:Kd.R Kd.bool 4 bJ w.heap.size (fun k_=>some k_≠(.slice (some cA) a3.length aU:Value).ownBlock) (.slice (some ⟨aM,0,none⟩) a5.length bH) bG:=(by rw [hw,cz.out];exact bI.1);clear bI;refine Ya3 (Kd.R_after (v:=(.slice (some ⟨aM,0,none⟩) a5.length bH)) (v1:=(.slice (some ⟨aM,0,none⟩) a5.length bH)) (ok:=(fun _=>True)) (by (with_reducible repeat (first|apply Kd.R_alloc|apply Kd.R_drewN|apply Kd.R_drew));exact Kd.R_mono a7.out (fun _ hk=>⟨trivial,(by first|exact hk|exact fun e_=>hk (e_.trans (own_len _ _ _ _ _)))⟩)) hg (.inl rfl)) (hp_) ((by rw [hw];exact below_set (HB.out) cD.out:Below w.heap.size w bJ)) ?_;clear a7 a8 HB;intro a7 a8 HB;clear hg hw hp_))
                  go_roundg k2
                  case measure=>have:=HK1.out;have:=HK2.out;omega
                  case rel=>exact ⟨(bG),(rdOf false a3 a6),(wrap64 (a6+1)),Ye1,Ye1,H',⟨by have:=HK1.out;have:=HK2.out;omega⟩,⟨by (with_reducible repeat (first|apply Kd.R_alloc|apply Kd.R_drewN|apply Kd.R_drew));exact Kd.R_mono a7.out (fun _ hk=>hk.2)⟩,⟨kr a8.out⟩,⟨be HB.out⟩⟩
                 ·rw [if_neg aK] at H
                  exact absurd H (by simp)
                ·rw [if_neg aJ] at H
                 exact absurd H (by simp)
               ·rw [if_neg aI] at H
                exact absurd H (by simp)
             ·rw [if_neg ap] at H
              have bV:decide (a6<(a3.length:Int))=false:=decide_eq_false ap;clear ap;have H':=Aside0.mk H;clear H
              go_wp2
              go_roundg k2
              case measure=>have:=HK1.out;have:=HK2.out;omega
              case rel=>exact ⟨(a5),(wrap64 (a2+1)),Ye1,H',⟨by have:=HK1.out;have:=HK2.out;omega⟩,⟨by (with_reducible repeat (first|apply Kd.R_alloc|apply Kd.R_drewN|apply Kd.R_drew));exact Kd.R_mono a8.out (fun _ hk=>trivial)⟩,⟨be HB.out⟩⟩
          ·rw [if_neg aj] at H
           have bw:((bt a0 a2)==42)=false:=beq_eq_false_iff_ne.mpr aj;have bz:((bt a0 a2) != 42)=true:=bne_iff_ne.mpr aj;have H':=Aside0.mk H;clear H
           go_wp2_with (first|((with_reducible refine gd 26 rfl ?_);refine Kd.R_make Kd.bool _ 4 rfl (N:=26) rfl 233 _ _ rfl ad rfl rfl Tryd.underlying233 (.bool false) 1 info4 rfl (by decide) (by omega) false (ok:=fun _=>True) (okp:=fun _=>True) rfl (fun _ hk=>hk) trivial (oda) (Nat.le_trans (Nat.mul_le_mul_right _ (oda:ad.toNat≤281474976710656)) (by omega)) (Below.refl _ _) (Nat.le_refl _) ?_;intro aC w35 ho36 hb hg_ hnew_;clear hg_ hnew_;(first|rw [←aT.out] at ho36|(simp only [Int.reduceToNat] at ho36;rw [←aT.out] at ho36));refine Ya3 (Kd.R_elder' (kr a7.out) (Kd.R_base ho36) hb) (Kd.R_lower (Kd.R_new' ho36 (Kd.R_lt (kr a7.out))) (below_size (be HB.out))) (below_step (be HB.out) hb) ?_;clear a7 HB;intro a7 bA HB;clear hb ho36;have p17:0≤(a2:Int):=oda;have q17:a2<(a0.size:Int):=oda;have hx17:=bt_at a0 a2;replace p17:=eq_true p17;replace q17:=eq_true q17))
           go_loopg [10] k1 (fun kq v10 w' => ∃ (a5:List Bool) (a4:Int),v10 = .int .i64 a4∧Aside0 (impl_partMatch.l2 kq a0 a1 a3 a2 a5 a4=some r)∧Aside0 (kq≤k1)∧Aside0 (Kd.R Kd.bool 4 w' w.heap.size (fun k_=>some k_≠(aC:Value).ownBlock) u5 a3)∧Aside0 (Kd.R Kd.bool 4 w' w.heap.size (fun k_=>some k_≠(u5:Value).ownBlock) aC a5)∧Aside0 (Below w.heap.size w w'))
           case atStart=>exact ⟨(ai),(0),Ye1,H',⟨Nat.le_refl _⟩,⟨by (with_reducible repeat (first|apply Kd.R_alloc|apply Kd.R_drewN|apply Kd.R_drew));exact Kd.R_mono a7.out (fun _ hk=>hk.2)⟩,⟨by (with_reducible repeat (first|apply Kd.R_alloc|apply Kd.R_drewN|apply Kd.R_drew));exact Kd.R_mono bA.out (fun _ hk=>hk.2)⟩,⟨be HB.out⟩⟩
           case round =>
            clear H';(try clear c1);(try clear p1);(try clear q1);(try clear hx1);(try clear c2);(try clear p2);(try clear q2);(try clear hx2);(try clear hf2);(try clear c3);(try clear p3);(try clear q3);(try clear hx3);(try clear hf3);(try clear c4);(try clear ba);(try clear bd);(try clear c5);(try clear bg);(try clear bh);(try clear p5);(try clear q5);(try clear hx5);(try clear c6);(try clear bi);(try clear bj);(try clear p6);(try clear p7);(try clear q7);(try clear hx7);(try clear qi7);(try clear hf7);(try clear ak);(try clear bu);(try clear an);(try clear bQ);(try clear bR);(try clear ao);(try clear bS);(try clear bT);(try clear au);(try clear bU);(try clear p17);(try clear q17);(try clear hx17);(try clear aj);(try clear bw);(try clear bz);(try clear ap);(try clear bV);(try clear aD);(try clear aE);(try clear cr);(try clear aF);(try clear cs);(try clear p26);(try clear q26);(try clear hx26);(try clear hf26);(try clear aI);(try clear cw);(try clear aJ);(try clear cx);(try clear aK);(try clear cy);(try clear p32);(try clear q32);(try clear hx32);(try clear hf32);(try clear cv);(try clear cE);(try clear cC);(try clear aA);(try clear p1);(try clear p17);(try clear p2);(try clear p26);(try clear p32);(try clear aW);(try clear p6);(try clear p7);(try clear q1);(try clear q17);(try clear q26);(try clear q32);(try clear aX);(try clear q7);obtain ⟨a5,a4,rfl,HA,HK2,a7,a8,HB⟩:=hrel
            cases gk with
            | zero=>exact absurd HA.out (by simp [impl_partMatch.l2])
            | succ k2 =>
             have H:=HA.out;clear HA;simp only [impl_partMatch.l2] at H
             by_cases av:a4<(a1.size:Int)
             ·rw [if_pos av] at H
              have cF:decide (a4<(a1.size:Int))=true:=decide_eq_true av;clear av
              by_cases aY:0≤a4
              ·rw [if_pos aY] at H
               have c38b0:decide (0≤a4)=true:=decide_eq_true aY;clear aY
               by_cases aZ:a4<(a3.length:Int)
               ·rw [if_pos aZ] at H
                have c39b0:decide (a4<(a3.length:Int))=true:=decide_eq_true aZ;clear aZ
                obtain ⟨bq40,hbq40⟩:∃ b_:Bool,b_=(rdOf false a3 a4):=⟨_,rfl⟩
                replace H:(if bq40=true then (if 0≤a2 then (if a2<(a0.size:Int) then (if (bt a0 a2)=63 then (if 0≤(wrap64 (a4+1)) then (if (wrap64 (a4+1))<(a5.length:Int) then (impl_partMatch.l2 k2 a0 a1 a3 a2 (a5.set ((wrap64 (a4+1)):Int).toNat true) (wrap64 (a4+1))) else (none)) else (none)) else (if 0≤(wrap64 (a4+1)) then (if (wrap64 (a4+1))<(a5.length:Int) then (impl_partMatch.l2 k2 a0 a1 a3 a2 (a5.set ((wrap64 (a4+1)):Int).toNat ((bt a0 a2)==(bt a1 a4))) (wrap64 (a4+1))) else (none)) else (none))) else (none)) else (none)) else (if 0≤(wrap64 (a4+1)) then (if (wrap64 (a4+1))<(a5.length:Int) then (impl_partMatch.l2 k2 a0 a1 a3 a2 (a5.set ((wrap64 (a4+1)):Int).toNat false) (wrap64 (a4+1))) else (none)) else (none)))=some r:=by rw [←hbq40] at H;exact H
                have Nbq40:=Aside0.mk hbq40;clear hbq40
                by_cases b0:bq40=true
                ·subst b0
                 have H1:(if 0≤a2 then (if a2<(a0.size:Int) then (if (bt a0 a2)=63 then (if 0≤(wrap64 (a4+1)) then (if (wrap64 (a4+1))<(a5.length:Int) then (impl_partMatch.l2 k2 a0 a1 a3 a2 (a5.set ((wrap64 (a4+1)):Int).toNat true) (wrap64 (a4+1))) else (none)) else (none)) else (if 0≤(wrap64 (a4+1)) then (if (wrap64 (a4+1))<(a5.length:Int) then (impl_partMatch.l2 k2 a0 a1 a3 a2 (a5.set ((wrap64 (a4+1)):Int).toNat ((bt a0 a2)==(bt a1 a4))) (wrap64 (a4+1))) else (none)) else (none))) else (none)) else (none))=some r:=by rw [if_pos rfl] at H;exact H
                 clear H;have H:=H1;clear H1
                 by_cases b1:0≤a2
                 ·rw [if_pos b1] at H
                  have c42b0:decide (0≤a2)=true:=decide_eq_true b1;clear b1
                  by_cases b2:a2<(a0.size:Int)
                  ·rw [if_pos b2] at H
                   have c43b0:decide (a2<(a0.size:Int))=true:=decide_eq_true b2;clear b2
                   by_cases aq:(bt a0 a2)=63
                   ·rw [if_pos aq] at H
                    have cG:((bt a0 a2)==63)=true:=beq_iff_eq.mpr aq;have cH:((bt a0 a2) != 63)=false:=bne_eq_false_iff_eq.mpr aq;clear aq
                    obtain ⟨aa,al⟩:∃ j_:Int,(wrap64 (a4+1))=j_:=⟨_,rfl⟩
                    replace H:(if 0≤(aa) then (if (aa)<(a5.length:Int) then (impl_partMatch.l2 k2 a0 a1 a3 a2 (a5.set ((aa):Int).toNat true) aa) else (none)) else (none))=some r:=by first|(rw [al] at H;exact H)|(simp only [al] at H ⊢; exact H)
                    have hji46w:(IntKind.i64.wrap (a4+1))=aa:=(i64_w _).trans al
                    by_cases b3:0≤(aa)
                    ·rw [if_pos b3] at H
                     have c47b0:decide (0≤(aa))=true:=decide_eq_true b3;clear b3
                     by_cases b4:(aa)<(a5.length:Int)
                     ·rw [if_pos b4] at H
                      have c48b0:decide ((aa)<(a5.length:Int))=true:=decide_eq_true b4;clear b4
                      obtain ⟨c0,aN⟩:∃ y_:List Bool,y_=(a5.set ((aa):Int).toNat true):=⟨_,rfl⟩
                      replace H:(impl_partMatch.l2 k2 a0 a1 a3 a2 c0 aa)=some r:=by first|(rw [aN];with_reducible exact H)|(have H2_:=(Option.bind_some _ _).symm.trans H;rw [aN];with_reducible exact H2_)|(have H2_:=(Option.bind_some _ _).symm.trans H;with_reducible exact H2_)|with_reducible exact H|(rw [aN];exact H)|exact H
                      have cI:=Aside0.mk aN;clear aN;have H':=Aside0.mk H;clear H
                      try go_wp2
                      refine Ya3 (Kd.R_drew a7.out) (Kd.R_drew a8.out) (below_drew1 HB.out) ?_;clear a7 a8 HB;intro a7 a8 HB;obtain ⟨Ao51,co51,ca⟩:=Kd.R_slice a7.out;(first|subst ca|(injection ca with f1_ f2_ f3_;have f4_:=f1_.symm;have f5_:=f3_.symm;clear f1_ f2_ f3_;subst f4_;subst f5_));have af:0≤(a4:Int):=oda;have ag:a4<(a3.length:Int):=oda;obtain ⟨aO,aP,ah⟩:=Kd.at_bool (Kd.R_reads' a7.out).2.2 a4 af ag;(try rw [←Nbq40.out] at ah)
                      cases aP
                      replace af:=eq_true af;replace ag:=eq_true ag;have p44:0≤(a2:Int):=oda;have q44:a2<(a0.size:Int):=oda;have hx44:=bt_at a0 a2;replace p44:=eq_true p44;replace q44:=eq_true q44;have p49:0≤((aa):Int):=oda;have q49:((aa):Int)<((a5.length:Int):Int):=oda;obtain ⟨cc,co49,cd,ce,gl49,cl49,HG49⟩:=Kd.R_form a8.out (by omega);(first|cases cd|(injection cd with ea_ en_ ec_;(first|subst ea_|(injection ea_ with ea_;subst ea_));subst ec_;clear en_));have GB49:=Aside0.mk ce;have GG49:=Aside0.mk HG49;clear ce gl49 HG49;obtain ⟨cJ,hf49_0⟩:=Kd.R_celln false a8.out ((aa):Int) p49 q49;replace p49:=eq_true p49;replace q49:=eq_true q49;have bK:=Kd.R_putn a8.out ((aa):Int) true
                      rw [←cI.out] at bK
                      have HQ52:=Aside0.mk bK;clear bK;refine start_ (n:=24) (S:=fun w'=>w'.cell? (aO.add (a4).toNat)=some (.bool true)) (ds:=[23]) (fb 24 0) (by kernel_rfl) rfl rfl (ah) (fun hHeld => ?_);refine with_tabW impl_partMatch.tab18 impl_partMatch.bits18 (fun HT_ HW_ => ?_);generalize wr.drew=w50 at a7 a8 HB GG49 HQ52 hf49_0 cJ ah hHeld ⊢; refine pu 0 54 (fb 24 1) HT_ ?_;refine pu 1 55 (fb 24 3) HT_ ?_;refine pu 2 56 (fb 24 7) HT_ ?_;refine pu 3 57 (fb 24 15) HT_ ?_;refine pu 4 58 (fb 24 31) HT_ ?_;refine pu 5 59 (fb 24 63) HT_ ?_;refine take_ (i:=6) (N:=some 60) (v:=?_) (a':=?_) (fb 24 127) rfl rfl (take_ofW HT_.out HW_.out (by kernel_rfl)) (fun _ _ _ h=>h) (Or.inl ⟨by rfl,?_⟩) hHeld ?_ ?_;rotate_left
                      ·intro w' s0;go_simp;(with_reducible rfl)
                      rotate_left
                      ·simp only [Act.put,List.setIfInBounds_toArray,List.set_cons_zero,List.set_cons_succ,i64_w,i32_w];rfl
                      refine pu 7 61 (fb 24 255) HT_ ?_;refine pu 8 62 (fb 24 511) HT_ ?_;refine pu 9 63 (fb 24 1023) HT_ ?_;refine take_ (i:=10) (N:=some 64) (v:=?_) (a':=?_) (fb 24 2047) rfl rfl (take_ofW HT_.out HW_.out (by kernel_rfl)) (fun _ _ _ h=>h) (Or.inl ⟨by rfl,?_⟩) hHeld ?_ ?_;rotate_left
                      ·intro w' s0;go_simp;(with_reducible rfl)
                      rotate_left
                      ·simp only [Act.put,List.setIfInBounds_toArray,List.set_cons_zero,List.set_cons_succ,i64_w,i32_w];rfl
                      refine pu 11 65 (fb 24 4095) HT_ ?_;refine pu 12 66 (fb 24 8191) HT_ ?_;refine pn 13 67 (fb 24 16383) HT_ ?_;refine pn 14 68 (fb 24 32767) HT_ ?_;refine pn 15 69 (fb 24 65535) HT_ ?_;refine pn 16 70 (fb 24 131071) HT_ ?_;refine pn 17 71 (fb 24 262143) HT_ ?_;refine pn 18 72 (fb 24 524287) HT_ ?_;refine pn 19 73 (fb 24 1048575) HT_ ?_;refine pu 20 74 (fb 24 2097151) HT_ ?_;refine pu 21 75 (fb 24 4194303) HT_ ?_;refine pu 22 76 (fb 24 8388607) HT_ ?_;refine last_ (i:=23) (N:=none) (fb 24 16777215) rfl rfl (one_of HT_.out (by kernel_rfl)) (by decide) (fun K hK => ?_);refine skip_ (w1:=?_) (by rfl) rfl ?_ ?_;rotate_left
                      ·go_simp;rfl
                      refine hK.out _ _ ?_;clear hK K;refine done_ (done_of HT_.out (by kernel_rfl)) ?_
                      try go_wp2
                      go_roundg k2
                      case measure=>have:=HK1.out;have:=HK2.out;omega
                      case rel=>exact ⟨(c0),(aa),(by first|rfl|(simp;done)|(simp only [←al] <;> (first|rfl|simp))|(simp [*];done)),(by first|exact H'|(subst al;exact H')|(simp only [←al] at H' ⊢; exact H')),⟨by have:=HK1.out;have:=HK2.out;omega⟩,⟨by (with_reducible repeat (first|apply Kd.R_alloc|apply Kd.R_drewN|apply Kd.R_drew));exact Kd.R_mono (Kd.R_far (p:=⟨cc,((aa):Int).toNat,none⟩) (Kd.R_mono a7.out (fun k_ hk=>(⟨hk,fun e_=>hk (by rw [e_];rfl)⟩:_∧k_≠cc))) (fun _ hk=>hk.2) (.bool true)) (fun _ hk=>hk.1)⟩,⟨kr HQ52.out⟩,⟨bf HB.out⟩⟩
                     ·rw [if_neg b4] at H
                      exact absurd H (by simp)
                    ·rw [if_neg b3] at H
                     exact absurd H (by simp)
                   ·rw [if_neg aq] at H
                    have cG:((bt a0 a2)==63)=false:=beq_eq_false_iff_ne.mpr aq;have cH:((bt a0 a2) != 63)=true:=bne_iff_ne.mpr aq
                    obtain ⟨ab,ar⟩:∃ j_:Int,(wrap64 (a4+1))=j_:=⟨_,rfl⟩
                    (try clear hji46w);(try clear al)
                    replace H:(if 0≤(ab) then (if (ab)<(a5.length:Int) then (impl_partMatch.l2 k2 a0 a1 a3 a2 (a5.set ((ab):Int).toNat ((bt a0 a2)==(bt a1 a4))) ab) else (none)) else (none))=some r:=by first|(rw [ar] at H;exact H)|(simp only [ar] at H ⊢; exact H)
                    have hji55w:(IntKind.i64.wrap (a4+1))=ab:=(i64_w _).trans ar
                    by_cases b5:0≤(ab)
                    ·rw [if_pos b5] at H
                     have c56b0:decide (0≤(ab))=true:=decide_eq_true b5;clear b5
                     by_cases b6:(ab)<(a5.length:Int)
                     ·rw [if_pos b6] at H
                      have c57b0:decide ((ab)<(a5.length:Int))=true:=decide_eq_true b6;clear b6
                      obtain ⟨cf,aQ⟩:∃ y_:List Bool,y_=(a5.set ((ab):Int).toNat ((bt a0 a2)==(bt a1 a4))):=⟨_,rfl⟩
                      replace H:(impl_partMatch.l2 k2 a0 a1 a3 a2 cf ab)=some r:=by first|(rw [aQ];with_reducible exact H)|(have H2_:=(Option.bind_some _ _).symm.trans H;rw [aQ];with_reducible exact H2_)|(have H2_:=(Option.bind_some _ _).symm.trans H;with_reducible exact H2_)|with_reducible exact H|(rw [aQ];exact H)|exact H
                      have cK:=Aside0.mk aQ;clear aQ;have H':=Aside0.mk H;clear H
                      try go_wp2
                      refine Ya3 (Kd.R_drew a7.out) (Kd.R_drew a8.out) (below_drew1 HB.out) ?_;clear a7 a8 HB;intro a7 a8 HB;obtain ⟨Ao60,co60,cg⟩:=Kd.R_slice a7.out;(first|subst cg|(injection cg with f1_ f2_ f3_;have f4_:=f1_.symm;have f5_:=f3_.symm;clear f1_ f2_ f3_;subst f4_;subst f5_));have af:0≤(a4:Int):=oda;have ag:a4<(a3.length:Int):=oda;obtain ⟨aO,aP,ah⟩:=Kd.at_bool (Kd.R_reads' a7.out).2.2 a4 af ag;(try rw [←Nbq40.out] at ah)
                      cases aP
                      replace af:=eq_true af;replace ag:=eq_true ag;have p44:0≤(a2:Int):=oda;have q44:a2<(a0.size:Int):=oda;have hx44:=bt_at a0 a2;replace p44:=eq_true p44;replace q44:=eq_true q44;have p53:0≤(a2:Int):=oda;have q53:a2<(a0.size:Int):=oda;have hx53:=bt_at a0 a2;replace p53:=eq_true p53;replace q53:=eq_true q53;have p54:0≤(a4:Int):=oda;have q54:a4<(a1.size:Int):=oda;have hx54:=bt_at a1 a4;replace p54:=eq_true p54;replace q54:=eq_true q54;have p58:0≤((ab):Int):=oda;have q58:((ab):Int)<((a5.length:Int):Int):=oda;obtain ⟨ch,co58,ci,cj,gl58,cl58,HG58⟩:=Kd.R_form a8.out (by omega);(first|cases ci|(injection ci with ea_ en_ ec_;(first|subst ea_|(injection ea_ with ea_;subst ea_));subst ec_;clear en_));have GB58:=Aside0.mk cj;have GG58:=Aside0.mk HG58;clear cj gl58 HG58;obtain ⟨cL,hf58_0⟩:=Kd.R_celln false a8.out ((ab):Int) p58 q58;replace p58:=eq_true p58;replace q58:=eq_true q58;have bL:=Kd.R_putn a8.out ((ab):Int) ((bt a0 a2)==(bt a1 a4))
                      rw [←cK.out] at bL
                      have HQ61:=Aside0.mk bL;clear bL;refine start_ (n:=24) (S:=fun w'=>w'.cell? (aO.add (a4).toNat)=some (.bool true)) (ds:=[23]) (fb 24 0) (by kernel_rfl) rfl rfl (ah) (fun hHeld => ?_);refine with_tabW impl_partMatch.tab18 impl_partMatch.bits18 (fun HT_ HW_ => ?_);generalize wr.drew=w59 at a7 a8 HB GG58 HQ61 hf58_0 ah cL hHeld ⊢; refine pu 0 54 (fb 24 1) HT_ ?_;refine pu 1 55 (fb 24 3) HT_ ?_;refine pu 2 56 (fb 24 7) HT_ ?_;refine pu 3 57 (fb 24 15) HT_ ?_;refine pu 4 58 (fb 24 31) HT_ ?_;refine pu 5 59 (fb 24 63) HT_ ?_;refine take_ (i:=6) (N:=some 60) (v:=?_) (a':=?_) (fb 24 127) rfl rfl (take_ofW HT_.out HW_.out (by kernel_rfl)) (fun _ _ _ h=>h) (Or.inl ⟨by rfl,?_⟩) hHeld ?_ ?_;rotate_left
                      ·intro w' s0;go_simp;(with_reducible rfl)
                      rotate_left
                      ·simp only [Act.put,List.setIfInBounds_toArray,List.set_cons_zero,List.set_cons_succ,i64_w,i32_w];rfl
                      refine pu 7 61 (fb 24 255) HT_ ?_;refine pu 8 62 (fb 24 511) HT_ ?_;refine pu 9 63 (fb 24 1023) HT_ ?_;refine take_ (i:=10) (N:=some 64) (v:=?_) (a':=?_) (fb 24 2047) rfl rfl (take_ofW HT_.out HW_.out (by kernel_rfl)) (fun _ _ _ h=>h) (Or.inl ⟨by rfl,?_⟩) hHeld ?_ ?_;rotate_left
                      ·intro w' s0;go_simp;(with_reducible rfl)
                      rotate_left
                      ·simp only [Act.put,List.setIfInBounds_toArray,List.set_cons_zero,List.set_cons_succ,i64_w,i32_w];rfl
                      refine pu 11 65 (fb 24 4095) HT_ ?_;refine pu 12 66 (fb 24 8191) HT_ ?_;refine pu 13 67 (fb 24 16383) HT_ ?_;refine pu 14 68 (fb 24 32767) HT_ ?_;refine pu 16 70 (fb 24 98303) HT_ ?_;refine pu 17 71 (fb 24 229375) HT_ ?_;refine take_ (i:=15) (N:=some 69) (v:=?_) (a':=?_) (fb 24 262143) rfl rfl (take_ofW HT_.out HW_.out (by kernel_rfl)) (fun _ _ _ h=>h) (Or.inl ⟨by rfl,?_⟩) hHeld ?_ ?_;rotate_left
                      ·intro w' s0;go_simp;(with_reducible rfl)
                      rotate_left
                      ·simp only [Act.put,List.setIfInBounds_toArray,List.set_cons_zero,List.set_cons_succ,i64_w,i32_w];rfl
                      refine take_ (i:=18) (N:=some 72) (v:=?_) (a':=?_) (fb 24 524287) rfl rfl (take_ofW HT_.out HW_.out (by kernel_rfl)) (fun _ _ _ h=>h) (Or.inl ⟨by rfl,?_⟩) hHeld ?_ ?_;rotate_left
                      ·intro w' s0;go_simp;(with_reducible rfl)
                      rotate_left
                      ·simp only [Act.put,List.setIfInBounds_toArray,List.set_cons_zero,List.set_cons_succ,i64_w,i32_w];rfl
                      refine pu 19 73 (fb 24 1048575) HT_ ?_;refine pu 20 74 (fb 24 2097151) HT_ ?_;refine pu 21 75 (fb 24 4194303) HT_ ?_;refine pu 22 76 (fb 24 8388607) HT_ ?_;refine last_ (i:=23) (N:=none) (fb 24 16777215) rfl rfl (one_of HT_.out (by kernel_rfl)) (by decide) (fun K hK => ?_);refine skip_ (w1:=?_) (by rfl) rfl ?_ ?_;rotate_left
                      ·go_simp;rfl
                      refine hK.out _ _ ?_;clear hK K;refine done_ (done_of HT_.out (by kernel_rfl)) ?_
                      try go_wp2
                      go_roundg k2
                      case measure=>have:=HK1.out;have:=HK2.out;omega
                      case rel=>exact ⟨(cf),(ab),(by first|rfl|(simp;done)|(simp only [←ar] <;> (first|rfl|simp))|(simp [*];done)),(by first|exact H'|(subst ar;exact H')|(simp only [←ar] at H' ⊢; exact H')),⟨by have:=HK1.out;have:=HK2.out;omega⟩,⟨by (with_reducible repeat (first|apply Kd.R_alloc|apply Kd.R_drewN|apply Kd.R_drew));exact Kd.R_mono (Kd.R_far (p:=⟨ch,((ab):Int).toNat,none⟩) (Kd.R_mono a7.out (fun k_ hk=>(⟨hk,fun e_=>hk (by rw [e_];rfl)⟩:_∧k_≠ch))) (fun _ hk=>hk.2) (.bool ((bt a0 a2)==(bt a1 a4)))) (fun _ hk=>hk.1)⟩,⟨kr HQ61.out⟩,⟨bf HB.out⟩⟩
                     ·rw [if_neg b6] at H
                      exact absurd H (by simp)
                    ·rw [if_neg b5] at H
                     exact absurd H (by simp)
                  ·rw [if_neg b2] at H
                   exact absurd H (by simp)
                 ·rw [if_neg b1] at H
                  exact absurd H (by simp)
                ·replace b0:=Bool.eq_false_iff.mpr b0;subst b0
                 have H1:(if 0≤(wrap64 (a4+1)) then (if (wrap64 (a4+1))<(a5.length:Int) then (impl_partMatch.l2 k2 a0 a1 a3 a2 (a5.set ((wrap64 (a4+1)):Int).toNat false) (wrap64 (a4+1))) else (none)) else (none))=some r:=by rw [if_neg (show ¬(false=true) by decide)] at H;exact H
                 clear H;have H:=H1;clear H1
                 obtain ⟨ac,aw⟩:∃ j_:Int,(wrap64 (a4+1))=j_:=⟨_,rfl⟩
                 (try clear hji46w);(try clear hji55w);(try clear al);(try clear ar)
                 replace H:(if 0≤(ac) then (if (ac)<(a5.length:Int) then (impl_partMatch.l2 k2 a0 a1 a3 a2 (a5.set ((ac):Int).toNat false) ac) else (none)) else (none))=some r:=by first|(rw [aw] at H;exact H)|(simp only [aw] at H ⊢; exact H)
                 have hji62w:(IntKind.i64.wrap (a4+1))=ac:=(i64_w _).trans aw
                 by_cases b7:0≤(ac)
                 ·rw [if_pos b7] at H
                  have c63b0:decide (0≤(ac))=true:=decide_eq_true b7;clear b7
                  by_cases b8:(ac)<(a5.length:Int)
                  ·rw [if_pos b8] at H
                   have c64b0:decide ((ac)<(a5.length:Int))=true:=decide_eq_true b8;clear b8
                   obtain ⟨ck,aR⟩:∃ y_:List Bool,y_=(a5.set ((ac):Int).toNat false):=⟨_,rfl⟩
                   replace H:(impl_partMatch.l2 k2 a0 a1 a3 a2 ck ac)=some r:=by first|(rw [aR];with_reducible exact H)|(have H2_:=(Option.bind_some _ _).symm.trans H;rw [aR];with_reducible exact H2_)|(have H2_:=(Option.bind_some _ _).symm.trans H;with_reducible exact H2_)|with_reducible exact H|(rw [aR];exact H)|exact H
                   have cM:=Aside0.mk aR;clear aR;have H':=Aside0.mk H;clear H
                   try go_wp2
                   refine Ya3 (Kd.R_drew a7.out) (Kd.R_drew a8.out) (below_drew1 HB.out) ?_;clear a7 a8 HB;intro a7 a8 HB;obtain ⟨Ao67,co67,cl⟩:=Kd.R_slice a7.out;(first|subst cl|(injection cl with f1_ f2_ f3_;have f4_:=f1_.symm;have f5_:=f3_.symm;clear f1_ f2_ f3_;subst f4_;subst f5_));have af:0≤(a4:Int):=oda;have ag:a4<(a3.length:Int):=oda;obtain ⟨aO,aP,ah⟩:=Kd.at_bool (Kd.R_reads' a7.out).2.2 a4 af ag;(try rw [←Nbq40.out] at ah)
                   cases aP
                   replace af:=eq_true af;replace ag:=eq_true ag;have p65:0≤((ac):Int):=oda;have q65:((ac):Int)<((a5.length:Int):Int):=oda;obtain ⟨cm,co65,cn,co,gl65,cl65,HG65⟩:=Kd.R_form a8.out (by omega);(first|cases cn|(injection cn with ea_ en_ ec_;(first|subst ea_|(injection ea_ with ea_;subst ea_));subst ec_;clear en_));have GB65:=Aside0.mk co;have GG65:=Aside0.mk HG65;clear co gl65 HG65;obtain ⟨cN,hf65_0⟩:=Kd.R_celln false a8.out ((ac):Int) p65 q65;replace p65:=eq_true p65;replace q65:=eq_true q65;have bM:=Kd.R_putn a8.out ((ac):Int) false
                   rw [←cM.out] at bM
                   have HQ68:=Aside0.mk bM;clear bM;refine start_ (n:=24) (S:=fun w'=>w'.cell? (aO.add (a4).toNat)=some (.bool false)) (ds:=[23]) (fb 24 0) (by kernel_rfl) rfl rfl (ah) (fun hHeld => ?_);refine with_tabW impl_partMatch.tab18 impl_partMatch.bits18 (fun HT_ HW_ => ?_);generalize wr.drew=w66 at a7 a8 HB GG65 HQ68 hf65_0 ah cN hHeld ⊢; refine pu 0 54 (fb 24 1) HT_ ?_;refine pu 1 55 (fb 24 3) HT_ ?_;refine pu 2 56 (fb 24 7) HT_ ?_;refine pu 3 57 (fb 24 15) HT_ ?_;refine pu 4 58 (fb 24 31) HT_ ?_;refine pu 5 59 (fb 24 63) HT_ ?_;refine take_ (i:=6) (N:=some 60) (v:=?_) (a':=?_) (fb 24 127) rfl rfl (take_ofW HT_.out HW_.out (by kernel_rfl)) (fun _ _ _ h=>h) (Or.inl ⟨by rfl,?_⟩) hHeld ?_ ?_;rotate_left
                   ·intro w' s0;go_simp;(with_reducible rfl)
                   rotate_left
                   ·simp only [Act.put,List.setIfInBounds_toArray,List.set_cons_zero,List.set_cons_succ,i64_w,i32_w];rfl
                   refine pu 7 61 (fb 24 255) HT_ ?_;refine pn 8 62 (fb 24 511) HT_ ?_;refine pn 9 63 (fb 24 1023) HT_ ?_;refine pn 10 64 (fb 24 2047) HT_ ?_;refine pn 11 65 (fb 24 4095) HT_ ?_;refine pn 12 66 (fb 24 8191) HT_ ?_;refine pn 13 67 (fb 24 16383) HT_ ?_;refine pn 14 68 (fb 24 32767) HT_ ?_;refine pn 15 69 (fb 24 65535) HT_ ?_;refine pn 16 70 (fb 24 131071) HT_ ?_;refine pn 17 71 (fb 24 262143) HT_ ?_;refine pn 18 72 (fb 24 524287) HT_ ?_;refine pn 19 73 (fb 24 1048575) HT_ ?_;refine pn 20 74 (fb 24 2097151) HT_ ?_;refine pu 21 75 (fb 24 4194303) HT_ ?_;refine pu 22 76 (fb 24 8388607) HT_ ?_;refine last_ (i:=23) (N:=none) (fb 24 16777215) rfl rfl (one_of HT_.out (by kernel_rfl)) (by decide) (fun K hK => ?_);refine skip_ (w1:=?_) (by rfl) rfl ?_ ?_;rotate_left
                   ·go_simp;rfl
                   refine hK.out _ _ ?_;clear hK K;refine done_ (done_of HT_.out (by kernel_rfl)) ?_
                   try go_wp2
                   go_roundg k2
                   case measure=>have:=HK1.out;have:=HK2.out;omega
                   case rel=>exact ⟨(ck),(ac),(by first|rfl|(simp;done)|(simp only [←aw] <;> (first|rfl|simp))|(simp [*];done)),(by first|exact H'|(subst aw;exact H')|(simp only [←aw] at H' ⊢; exact H')),⟨by have:=HK1.out;have:=HK2.out;omega⟩,⟨by (with_reducible repeat (first|apply Kd.R_alloc|apply Kd.R_drewN|apply Kd.R_drew));exact Kd.R_mono (Kd.R_far (p:=⟨cm,((ac):Int).toNat,none⟩) (Kd.R_mono a7.out (fun k_ hk=>(⟨hk,fun e_=>hk (by rw [e_];rfl)⟩:_∧k_≠cm))) (fun _ hk=>hk.2) (.bool false)) (fun _ hk=>hk.1)⟩,⟨kr HQ68.out⟩,⟨bf HB.out⟩⟩
                  ·rw [if_neg b8] at H
                   exact absurd H (by simp)
                 ·rw [if_neg b7] at H
                  exact absurd H (by simp)
               ·rw [if_neg aZ] at H
                exact absurd H (by simp)
              ·rw [if_neg aY] at H
               exact absurd H (by simp)
             ·rw [if_neg av] at H
              have cF:decide (a4<(a1.size:Int))=false:=decide_eq_false av;clear av;have H':=Aside0.mk H;clear H
              go_wp2
              go_roundg k2
              case measure=>have:=HK1.out;have:=HK2.out;omega
              case rel=>exact ⟨(a5),(wrap64 (a2+1)),Ye1,H',⟨by have:=HK1.out;have:=HK2.out;omega⟩,⟨by (with_reducible repeat (first|apply Kd.R_alloc|apply Kd.R_drewN|apply Kd.R_drew));exact Kd.R_mono a8.out (fun _ hk=>trivial)⟩,⟨be HB.out⟩⟩
         ·rw [if_neg au] at H
          exact absurd H (by simp)
        ·rw [if_neg ao] at H
         exact absurd H (by simp)
       ·rw [if_neg an] at H
        exact absurd H (by simp)
      ·rw [if_neg ak] at H
       have bu:decide (a2<(a0.size:Int))=false:=decide_eq_false ak;clear ak
       by_cases b9:0≤(a1.size:Int)
       ·rw [if_pos b9] at H
        have c69b0:decide (0≤(a1.size:Int))=true:=decide_eq_true b9;have c69b1:decide (0≤a1.size)=true:=decide_eq_true (by omega);clear b9
        by_cases aS:(a1.size:Int)<(a3.length:Int)
        ·rw [if_pos aS] at H
         have c70b0:decide ((a1.size:Int)<(a3.length:Int))=true:=decide_eq_true aS;have c70b1:decide (a1.size<a3.length)=true:=decide_eq_true (Int.ofNat_lt.mp aS);clear aS;obtain rfl:=Option.some.inj H;obtain ⟨Ao71,co71,cO⟩:=Kd.R_slice a7.out;subst cO;have bN:0≤((a1.size:Int):Int):=oda;have bO:(a1.size:Int)<(a3.length:Int):=oda;obtain ⟨ad506,cP,cQ⟩:=Kd.at_bool (Kd.R_reads' a7.out).2.2 (a1.size:Int) bN bO
         cases cP
         all_goals (try simp only [Int.toNat_natCast] at cQ)
         replace bN:=eq_true bN;replace bO:=eq_true bO
         go_wp2
         go_ret
         exact ⟨by first|rfl|(simp [errW_none,errW_some] <;> rfl)|(simp only [←ax];first|rfl|(simp [errW_none,errW_some] <;> rfl))|(simp [*,errW_none,errW_some] <;> rfl),be HB.out⟩
        ·rw [if_neg aS] at H
         exact absurd H (by simp)
       ·rw [if_neg b9] at H
        exact absurd H (by simp)
   ·rw [if_neg c6] at H
    exact absurd H (by simp)
  ·rw [if_neg c5] at H
   exact absurd H (by simp)
 ·rw [if_neg c4] at H
  exact absurd H (by simp)

end Go.Proofs.YtknagppkeodggaaDoor.P


namespace Go.Proofs.YtknagppkeodggaaDoor.P
open Go.RowKit Go.Proofs.YtknagppkeodggaaDoorW.PrintWords Go.Proofs.YtknagppkeodggaaDoorW.PrintLast Go.Proofs.YtknagppkeodggaaDoorW.PrintMore
attribute [local go_sem] max2_int min2_int max_two min_two max_three min_three max_four min_four
set_option linter.unusedVariables false
set_option linter.unusedSimpArgs false

mutual
def impl_matchParts.l0:Nat→List ByteArray→List ByteArray→Int→Option (Bool)
 | 0,_,_,_=>none
 | k+1,x0,x1,x5=>if x5≤(x1.length:Int) then (if 1≤(x0.length:Int) then (if 0≤x5 then ((impl_matchParts.f k (x0.drop 1) (x1.drop (x5:Int).toNat)).bind fun an=>(if an=true then (some true) else (impl_matchParts.l0 k x0 x1 (wrap64 (x5+1))))) else (none)) else (none)) else (some false)
def impl_matchParts.f:Nat→List ByteArray→List ByteArray→Option (Bool)
 | 0,_,_=>none
 | k+1,l0,l1=>if (l0.length:Int)=0 then (some ((l1.length:Int)==0)) else (if 0<(l0.length:Int) then (if (rdOf ByteArray.empty l0 0).toList=([42,42]:List UInt8) then (impl_matchParts.l0 k l0 l1 0) else (if (l1.length:Int)>0 then (if 0<(l1.length:Int) then ((impl_partMatch.f k (rdOf ByteArray.empty l0 0) (rdOf ByteArray.empty l1 0)).bind fun ag=>(if ag=true then (if 1≤(l0.length:Int) then (if 1≤(l1.length:Int) then ((impl_matchParts.f k (l0.drop 1) (l1.drop 1)).bind fun a8=>(some a8)) else (none)) else (none)) else (some false))) else (none)) else (some false))) else (none))
end
theorem impl_matchParts.mono_l:∀ k,(∀ y0 y1,LeO (impl_matchParts.f k y0 y1) (impl_matchParts.f (k+1) y0 y1))∧(∀ y0 y1 y2,LeO (impl_matchParts.l0 k y0 y1 y2) (impl_matchParts.l0 (k+1) y0 y1 y2))
 | 0=>⟨fun _ _ r h=>by simp [impl_matchParts.f] at h,fun _ _ _ r h=>by simp [impl_matchParts.l0] at h⟩
 | k + 1 => by
  obtain ⟨ih0,ih1⟩:=impl_matchParts.mono_l k;refine ⟨?_,?_⟩
  ·intro y0 y1
   unfold impl_matchParts.f
   repeat' first
   | (with_reducible exact ih0 _ _)
   | (with_reducible exact ih1 _ _ _)
   | (with_reducible exact impl_partMatch.mono _ _ _)
   | (with_reducible exact LeO.refl _)
   | (with_reducible exact LeO.none _)
   | (with_reducible refine LeO.ite ?_ ?_)
   | (with_reducible refine LeO.bind ?_ (fun _ => ?_))
   | exact ih0 _ _
   | exact ih1 _ _ _
   | exact impl_partMatch.mono _ _ _
   | exact LeO.none _
   | refine LeO.ite ?_ ?_
   | refine LeO.bind ?_ (fun _ => ?_)
  ·intro y0 y1 y2
   unfold impl_matchParts.l0
   repeat' first
   | (with_reducible exact ih0 _ _)
   | (with_reducible exact ih1 _ _ _)
   | (with_reducible exact impl_partMatch.mono _ _ _)
   | (with_reducible exact LeO.refl _)
   | (with_reducible exact LeO.none _)
   | (with_reducible refine LeO.ite ?_ ?_)
   | (with_reducible refine LeO.bind ?_ (fun _ => ?_))
   | exact ih0 _ _
   | exact ih1 _ _ _
   | exact impl_partMatch.mono _ _ _
   | exact LeO.none _
   | refine LeO.ite ?_ ?_
   | refine LeO.bind ?_ (fun _ => ?_)
theorem impl_matchParts.mono:∀ a0 a1 k,LeO (impl_matchParts.f k a0 a1) (impl_matchParts.f (k+1) a0 a1):=by
 intro a0 a1 k;obtain ⟨ih0,ih1⟩:=impl_matchParts.mono_l k;exact ih0 a0 a1
def impl_matchParts.T10:Bool×List (List Nat×List Nat):=(true,[([],[]),([0],[0]),([1],[1]),([2],[2]),([3],[3]),([4,3],[3,4]),([5,3],[3,5]),([3],[3]),([7,3],[3,7]),([8,3],[3,8]),([6,9,3,3],[3,6,9]),([3,10],[3,10]),([11,10],[11]),([12],[12]),([13,12],[12,13]),([12],[12]),([15,12],[12,15]),([14,16,12,12],[12,14,16]),([12,17],[12,17]),([18,17,0,1,2,3,4,5,6,7,8,9,10,11,12,13,14,15,16,17,18],[18])])
def impl_matchParts.B10:List Nat:=[0,1,3,7,15,31,63,15,143,399,1023,2047,4095,8191,16383,8191,40959,131071,262143,524287]
theorem impl_matchParts.tab10:rtab .any (opsOf Tryd.f82 10)=impl_matchParts.T10:=by kernel_rfl
theorem impl_matchParts.bits10:waitsOk impl_matchParts.T10.2 impl_matchParts.B10=true:=by kernel_rfl
set_option maxHeartbeats 8000000 in
set_option maxRecDepth 100000 in
theorem impl_matchParts.calls (k : Nat) : ∀ (A0 : Option Addr) (c0 : Nat) (l0 : List ByteArray) (A1 : Option Addr) (c1 : Nat) (l1 : List ByteArray) (r : Bool) (w : World) (hr0 : Kd.C Kd.string w A0 l0.length l0) (hc0 : l0.length ≤ c0) (hr1 : Kd.C Kd.string w A1 l1.length l1) (hc1 : l1.length ≤ c1) (h : impl_matchParts.f k l0 l1 = some r),
  Calls Tryd.prog 82 #[.slice A0 l0.length c0,.slice A1 l1.length c1] w fun e w'=>e = .returned (.bool r)∧Below w.heap.size w w':=by
 induction k using Nat.strongRecOn with
 | _ k ih =>
 intro A0 c0 l0 A1 c1 l1 r w hr0 hc0 hr1 hc1 h
 cases k with
 | zero=>exact absurd h (by simp [impl_matchParts.f])
 | succ k =>
 simp only [impl_matchParts.f] at h;have aa:=Aside0.mk hr0;have au:=Aside0.mk hc0;clear hr0 hc0;have ai:=Aside0.mk hr1;have av:=Aside0.mk hc1;clear hr1 hc1;have HB:=Aside0.mk (Below.refl w.heap.size w);have H:(if (l0.length:Int)=0 then (some ((l1.length:Int)==0)) else (if 0<(l0.length:Int) then (if (rdOf ByteArray.empty l0 0).toList=([42,42]:List UInt8) then (impl_matchParts.l0 k l0 l1 0) else (if (l1.length:Int)>0 then (if 0<(l1.length:Int) then ((impl_partMatch.f k (rdOf ByteArray.empty l0 0) (rdOf ByteArray.empty l1 0)).bind fun ag=>(if ag=true then (if 1≤(l0.length:Int) then (if 1≤(l1.length:Int) then ((impl_matchParts.f k (l0.drop 1) (l1.drop 1)).bind fun a8=>(some a8)) else (none)) else (none)) else (some false))) else (none)) else (some false))) else (none)))=some r:=h;clear h
 by_cases c3:(l0.length:Int)=0
 ·rw [if_pos c3] at H
  have aB:((l0.length:Int)==0)=true:=beq_iff_eq.mpr c3;have aC:((l0.length:Int) != 0)=false:=bne_eq_false_iff_eq.mpr c3;clear c3;obtain rfl:=Option.some.inj H
  go_enter Tryd.func82,Tryd.ntmps82
  go_wp2
  go_ret
  exact ⟨Ye2,be HB.out⟩
 ·rw [if_neg c3] at H
  have aB:((l0.length:Int)==0)=false:=beq_eq_false_iff_ne.mpr c3;have aC:((l0.length:Int) != 0)=true:=bne_iff_ne.mpr c3
  have aI:¬ (l0 = []):=fun h_=>c3 (by rw [h_];rfl)
  by_cases c4:0<(l0.length:Int)
  ·rw [if_pos c4] at H
   have aJ:decide (0<(l0.length:Int))=true:=decide_eq_true c4;have aK:decide (0<l0.length)=true:=decide_eq_true (by omega);clear c4
   by_cases c5:(rdOf ByteArray.empty l0 0).toList=([42,42]:List UInt8)
   ·rw [if_pos c5] at H
    have aD:((rdOf ByteArray.empty l0 0).toList==([42,42]:List UInt8))=true:=beq_iff_eq.mpr c5;have aE:((rdOf ByteArray.empty l0 0).toList != ([42,42]:List UInt8))=false:=bne_eq_false_iff_eq.mpr c5;clear c5;have H':=Aside0.mk H;clear H
    have a3:0≤(0:Int):=(by omega)
    have a4:0<(l0.length:Int):=oda;obtain ⟨a9,ab,a7⟩:=Kd.at_string aa.out 0 a3 a4
    cases ab
    have qi517:(0<l0.length)=True:=eq_true (by omega);(try rw [show ((0:Int)).toNat=0 from rfl] at a7);(try rw [Addr.add_zero'] at a7);replace a3:=eq_true a3;replace a4:=eq_true a4
    go_enter Tryd.func82,Tryd.ntmps82
    go_wp2
    go_loopg [5] k (fun kq v5 w' => ∃ (a2:Int),v5 = .int .i64 a2∧Aside0 (impl_matchParts.l0 kq l0 l1 a2=some r)∧Aside0 (kq≤k)∧Aside0 (Below w.heap.size w w'))
    case atStart=>exact ⟨(0),Ye1,H',⟨Nat.le_refl _⟩,⟨be HB.out⟩⟩
    case round =>
     clear H';(try clear c1);(try clear p2);(try clear c3);(try clear aB);(try clear aC);(try clear aI);(try clear c4);(try clear aJ);(try clear aK);(try clear c5);(try clear aD);(try clear aE);(try clear p5);(try clear q5);(try clear hx5);(try clear qi5);(try clear a7);(try clear a3);(try clear a4);obtain ⟨a2,rfl,HA,HK1,HB⟩:=hrel
     cases gk with
     | zero=>exact absurd HA.out (by simp [impl_matchParts.l0])
     | succ k1 =>
      have H:=HA.out;clear HA;simp only [impl_matchParts.l0] at H
      by_cases c6:a2≤(l1.length:Int)
      ·rw [if_pos c6] at H
       have aL:decide (a2≤(l1.length:Int))=true:=decide_eq_true c6;clear c6
       by_cases c7:1≤(l0.length:Int)
       ·rw [if_pos c7] at H
        have c7b0:=eq_true c7;have c7b1:decide (1≤(l0.length:Int))=true:=decide_eq_true c7;clear c7
        by_cases c8:0≤a2
        ·rw [if_pos c8] at H
         have c8b0:=eq_true c8;have c8b1:decide (0≤a2)=true:=decide_eq_true c8;clear c8;have c9b0:=eq_true (oda:a2≤(l1.length:Int));replace H:=Option.bind_eq_some_iff.mp H;obtain ⟨an,aF,H⟩:=H;replace H:(if an=true then (some true) else (impl_matchParts.l0 k1 l0 l1 (wrap64 (a2+1))))=some r:=H;have A10:=Aside0.mk aF;clear aF
         by_cases ao:an=true
         ·subst ao
          have H1:(some true)=some r:=by rw [if_pos rfl] at H;exact H
          clear H;have H:=H1;clear H1;obtain rfl:=Option.some.inj H
          try go_wp2
          refine Ya1 (below_drew1 HB.out) ?_;clear HB;intro HB;obtain ⟨i013,hi013,_,hsz13,_⟩:=info_parts info9;obtain ⟨A13,hcut13,hA13,hC13⟩:=print_drop_of (P:=Tryd.prog) Value.string (⟨#[]⟩:ByteArray) 42 9 .i64 Tryd.underlying42 hi013 hsz13 (some a9) c0 l0 1 (by omega) (oda) au.out;have aj:=Aside0.mk (Kd.C_of_reads (h1:=fun _=>rfl) (hA13 _ (Kd.reads_of_C aa.out)));have aw:=Aside0.mk hC13;clear hA13 hC13 hi013 hsz13;obtain ⟨i014,hi014,_,hsz14,_⟩:=info_parts info9;obtain ⟨A14,hcut14,hA14,hC14⟩:=print_drop_of (P:=Tryd.prog) Value.string (⟨#[]⟩:ByteArray) 42 9 .i64 Tryd.underlying42 hi014 hsz14 A1 c1 l1 a2 (oda) (oda) av.out;have ak:=Aside0.mk (Kd.C_of_reads (h1:=fun _=>rfl) (hA14 _ (Kd.reads_of_C ai.out)));have ax:=Aside0.mk hC14;clear hA14 hC14 hi014 hsz14;refine start_ (n:=6) (S:=fun w'=>True) (ds:=[]) (fb 6 0) (by kernel_rfl) rfl rfl trivial (fun hHeld => ?_);generalize wr.drew=w12 at HB aj ak hHeld ⊢; refine pure_ (i:=0) (N:=some 22) (v:=?_) (a':=?_) (fb 6 1) rfl rfl (by kernel_rfl) (fun _ _ _ h=>h) (Or.inl ⟨by rfl,?_⟩) ?_ ?_;rotate_left
          ·intro w';go_simp;(with_reducible rfl)
          rotate_left
          ·simp only [Act.put,List.setIfInBounds_toArray,List.set_cons_zero,List.set_cons_succ,i64_w,i32_w];rfl
          refine pure_ (i:=1) (N:=some 23) (v:=?_) (a':=?_) (fb 6 3) rfl rfl (by kernel_rfl) (fun _ _ _ h=>h) (Or.inl ⟨by rfl,?_⟩) ?_ ?_;rotate_left
          ·intro w';go_simp;(with_reducible rfl)
          rotate_left
          ·simp only [Act.put,List.setIfInBounds_toArray,List.set_cons_zero,List.set_cons_succ,i64_w,i32_w];rfl
          refine pure_ (i:=2) (N:=some 24) (v:=?_) (a':=?_) (fb 6 7) rfl rfl (by kernel_rfl) (fun _ _ _ h=>h) (Or.inl ⟨by rfl,?_⟩) ?_ ?_;rotate_left
          ·intro w';go_simp;(with_reducible rfl)
          rotate_left
          ·simp only [Act.put,List.setIfInBounds_toArray,List.set_cons_zero,List.set_cons_succ,i64_w,i32_w];rfl
          refine pure_ (i:=3) (N:=some 25) (v:=?_) (a':=?_) (fb 6 15) rfl rfl (by kernel_rfl) (fun _ _ _ h=>h) (Or.inl ⟨by rfl,?_⟩) ?_ ?_;rotate_left
          ·intro w';go_simp;(with_reducible rfl)
          rotate_left
          ·simp only [Act.put,List.setIfInBounds_toArray,List.set_cons_zero,List.set_cons_succ,i64_w,i32_w];rfl
          refine pure_ (i:=4) (N:=some 26) (v:=?_) (a':=?_) (fb 6 31) rfl rfl (by kernel_rfl) (fun _ _ _ h=>h) (Or.inl ⟨by rfl,?_⟩) ?_ ?_;rotate_left
          ·intro w';go_simp;(with_reducible rfl)
          rotate_left
          ·simp only [Act.put,List.setIfInBounds_toArray,List.set_cons_zero,List.set_cons_succ,i64_w,i32_w];rfl
          refine one_ (i:=5) (N:=some 27) (fb 6 63) rfl rfl (by kernel_rfl) (by decide) (fun K hK => ?_);refine goes_ Tryd.func82 (by kernel_rfl) rfl #[.slice A13 (l0.drop 1).length (c0 - 1),.slice A14 (l1.drop (a2:Int).toNat).length (c1 - a2.toNat)] (by rfl) rfl rfl (by (try simp only [List.map_toArray,List.map_cons,List.map_nil]);first|done|(rw [show (l0.drop 1).length=(l0.length - 1) from List.length_drop] <;> rfl)|(rw [show (l1.drop (a2:Int).toNat).length=(l1.length - a2.toNat) from List.length_drop] <;> rfl)|rfl|(simp only [List.length_drop,List.length_take];rfl)) ?_;(with_reducible refine (ih k1 (by have:=HK1.out;omega) _ _ (l0.drop 1) _ _ (l1.drop (a2:Int).toNat) true _ ?side1 ?side2 ?side3 ?side4 A10.out).mono ?_);(case side1=>exact cb (Kd.C_below aj.out HB.out));(case side2=>exact aw.out);(case side3=>exact cb (Kd.C_below ak.out HB.out));(case side4=>exact ax.out);rintro e w15 ⟨rfl,hb⟩;refine ⟨_,rfl,?_⟩;refine Ya1 (below_step (be HB.out) hb) ?_;clear HB;intro HB;(try clear hb);(try clear hb2);(try clear hk);(try clear hi);refine hK.out _ _ trivial (fun hHeld => ?_);clear hK K;refine nm 27 ?_;refine done_ (by kernel_rfl) ?_
          try go_wp2
          go_ret
          exact ⟨Ye2,be HB.out⟩
         ·replace ao:=Bool.eq_false_iff.mpr ao;subst ao
          have H1:(impl_matchParts.l0 k1 l0 l1 (wrap64 (a2+1)))=some r:=by rw [if_neg (show ¬(false=true) by decide)] at H;exact H
          clear H;have H:=H1;clear H1;have H':=Aside0.mk H;clear H
          try go_wp2
          refine Ya1 (below_drew1 HB.out) ?_;clear HB;intro HB;obtain ⟨i017,hi017,_,hsz17,_⟩:=info_parts info9;obtain ⟨A17,hcut17,hA17,hC17⟩:=print_drop_of (P:=Tryd.prog) Value.string (⟨#[]⟩:ByteArray) 42 9 .i64 Tryd.underlying42 hi017 hsz17 (some a9) c0 l0 1 (by omega) (oda) au.out;have aj:=Aside0.mk (Kd.C_of_reads (h1:=fun _=>rfl) (hA17 _ (Kd.reads_of_C aa.out)));have aw:=Aside0.mk hC17;clear hA17 hC17 hi017 hsz17;obtain ⟨i018,hi018,_,hsz18,_⟩:=info_parts info9;obtain ⟨A18,hcut18,hA18,hC18⟩:=print_drop_of (P:=Tryd.prog) Value.string (⟨#[]⟩:ByteArray) 42 9 .i64 Tryd.underlying42 hi018 hsz18 A1 c1 l1 a2 (oda) (oda) av.out;have ak:=Aside0.mk (Kd.C_of_reads (h1:=fun _=>rfl) (hA18 _ (Kd.reads_of_C ai.out)));have ax:=Aside0.mk hC18;clear hA18 hC18 hi018 hsz18;refine start_ (n:=6) (S:=fun w'=>True) (ds:=[]) (fb 6 0) (by kernel_rfl) rfl rfl trivial (fun hHeld => ?_);generalize wr.drew=w16 at HB aj ak hHeld ⊢; refine pure_ (i:=0) (N:=some 22) (v:=?_) (a':=?_) (fb 6 1) rfl rfl (by kernel_rfl) (fun _ _ _ h=>h) (Or.inl ⟨by rfl,?_⟩) ?_ ?_;rotate_left
          ·intro w';go_simp;(with_reducible rfl)
          rotate_left
          ·simp only [Act.put,List.setIfInBounds_toArray,List.set_cons_zero,List.set_cons_succ,i64_w,i32_w];rfl
          refine pure_ (i:=1) (N:=some 23) (v:=?_) (a':=?_) (fb 6 3) rfl rfl (by kernel_rfl) (fun _ _ _ h=>h) (Or.inl ⟨by rfl,?_⟩) ?_ ?_;rotate_left
          ·intro w';go_simp;(with_reducible rfl)
          rotate_left
          ·simp only [Act.put,List.setIfInBounds_toArray,List.set_cons_zero,List.set_cons_succ,i64_w,i32_w];rfl
          refine pure_ (i:=2) (N:=some 24) (v:=?_) (a':=?_) (fb 6 7) rfl rfl (by kernel_rfl) (fun _ _ _ h=>h) (Or.inl ⟨by rfl,?_⟩) ?_ ?_;rotate_left
          ·intro w';go_simp;(with_reducible rfl)
          rotate_left
          ·simp only [Act.put,List.setIfInBounds_toArray,List.set_cons_zero,List.set_cons_succ,i64_w,i32_w];rfl
          refine pure_ (i:=3) (N:=some 25) (v:=?_) (a':=?_) (fb 6 15) rfl rfl (by kernel_rfl) (fun _ _ _ h=>h) (Or.inl ⟨by rfl,?_⟩) ?_ ?_;rotate_left
          ·intro w';go_simp;(with_reducible rfl)
          rotate_left
          ·simp only [Act.put,List.setIfInBounds_toArray,List.set_cons_zero,List.set_cons_succ,i64_w,i32_w];rfl
          refine pure_ (i:=4) (N:=some 26) (v:=?_) (a':=?_) (fb 6 31) rfl rfl (by kernel_rfl) (fun _ _ _ h=>h) (Or.inl ⟨by rfl,?_⟩) ?_ ?_;rotate_left
          ·intro w';go_simp;(with_reducible rfl)
          rotate_left
          ·simp only [Act.put,List.setIfInBounds_toArray,List.set_cons_zero,List.set_cons_succ,i64_w,i32_w];rfl
          refine one_ (i:=5) (N:=some 27) (fb 6 63) rfl rfl (by kernel_rfl) (by decide) (fun K hK => ?_);refine goes_ Tryd.func82 (by kernel_rfl) rfl #[.slice A17 (l0.drop 1).length (c0 - 1),.slice A18 (l1.drop (a2:Int).toNat).length (c1 - a2.toNat)] (by rfl) rfl rfl (by (try simp only [List.map_toArray,List.map_cons,List.map_nil]);first|done|(rw [show (l0.drop 1).length=(l0.length - 1) from List.length_drop] <;> rfl)|(rw [show (l1.drop (a2:Int).toNat).length=(l1.length - a2.toNat) from List.length_drop] <;> rfl)|rfl|(simp only [List.length_drop,List.length_take];rfl)) ?_;(with_reducible refine (ih k1 (by have:=HK1.out;omega) _ _ (l0.drop 1) _ _ (l1.drop (a2:Int).toNat) false _ ?side1 ?side2 ?side3 ?side4 A10.out).mono ?_);(case side1=>exact cb (Kd.C_below aj.out HB.out));(case side2=>exact aw.out);(case side3=>exact cb (Kd.C_below ak.out HB.out));(case side4=>exact ax.out);rintro e w19 ⟨rfl,hb⟩;refine ⟨_,rfl,?_⟩;refine Ya1 (below_step (be HB.out) hb) ?_;clear HB;intro HB;(try clear hb);(try clear hb2);(try clear hk);(try clear hi);refine hK.out _ _ trivial (fun hHeld => ?_);clear hK K;refine nm 27 ?_;refine done_ (by kernel_rfl) ?_
          try go_wp2
          go_roundg k1
          case measure=>have:=HK1.out;omega
          case rel=>exact ⟨(wrap64 (a2+1)),Ye1,H',⟨by have:=HK1.out;omega⟩,⟨be HB.out⟩⟩
        ·rw [if_neg c8] at H
         exact absurd H (by simp)
       ·rw [if_neg c7] at H
        exact absurd H (by simp)
      ·rw [if_neg c6] at H
       have aL:decide (a2≤(l1.length:Int))=false:=decide_eq_false c6;clear c6;obtain rfl:=Option.some.inj H
       go_wp2
       go_ret
       exact ⟨Ye2,be HB.out⟩
   ·rw [if_neg c5] at H
    have aD:((rdOf ByteArray.empty l0 0).toList==([42,42]:List UInt8))=false:=beq_eq_false_iff_ne.mpr c5;have aE:((rdOf ByteArray.empty l0 0).toList != ([42,42]:List UInt8))=true:=bne_iff_ne.mpr c5
    by_cases ah:(l1.length:Int)>0
    ·rw [if_pos ah] at H
     have aM:decide (0<(l1.length:Int))=true:=decide_eq_true ah;have aN:decide (0<l1.length)=true:=decide_eq_true (by omega);clear ah
     by_cases ap:0<(l1.length:Int)
     ·rw [if_pos ap] at H
      have c21b0:decide (0<(l1.length:Int))=true:=decide_eq_true ap;have c21b1:decide (0<l1.length)=true:=decide_eq_true (by omega);clear ap;replace H:=Option.bind_eq_some_iff.mp H;obtain ⟨ag,aG,H⟩:=H;replace H:(if ag=true then (if 1≤(l0.length:Int) then (if 1≤(l1.length:Int) then ((impl_matchParts.f k (l0.drop 1) (l1.drop 1)).bind fun a8=>(some a8)) else (none)) else (none)) else (some false))=some r:=H;have A22:=Aside0.mk aG;clear aG
      by_cases aq:ag=true
      ·subst aq
       have H1:(if 1≤(l0.length:Int) then (if 1≤(l1.length:Int) then ((impl_matchParts.f k (l0.drop 1) (l1.drop 1)).bind fun a8=>(some a8)) else (none)) else (none))=some r:=by rw [if_pos rfl] at H;exact H
       clear H;have H:=H1;clear H1
       by_cases al:1≤(l0.length:Int)
       ·rw [if_pos al] at H
        have c24b0:=eq_true al;have c24b1:decide (1≤(l0.length:Int))=true:=decide_eq_true al;clear al
        by_cases am:1≤(l1.length:Int)
        ·rw [if_pos am] at H
         have c25b0:=eq_true am;have c25b1:decide (1≤(l1.length:Int))=true:=decide_eq_true am;clear am;replace H:=Option.bind_eq_some_iff.mp H;obtain ⟨a8,aH,H⟩:=H;replace H:(some a8)=some r:=H;have A26:=Aside0.mk aH;clear aH;obtain rfl:=Option.some.inj H
         have a3:0≤(0:Int):=(by omega)
         have a4:0<(l0.length:Int):=oda;obtain ⟨a9,ab,a7⟩:=Kd.at_string aa.out 0 a3 a4
         cases ab
         have qi517:(0<l0.length)=True:=eq_true (by omega);(try rw [show ((0:Int)).toNat=0 from rfl] at a7);(try rw [Addr.add_zero'] at a7);replace a3:=eq_true a3;replace a4:=eq_true a4
         go_enter Tryd.func82,Tryd.ntmps82
         try go_wp2
         refine Ya1 (below_drew1 HB.out) ?_;clear HB;intro HB
         have ac:0≤(0:Int):=(by omega)
         have ad:0<(l0.length:Int):=oda;obtain ⟨ay,az,a5⟩:=Kd.at_string aa.out 0 ac ad;have hw521_0:=a5;(try rw [show ((0:Int)).toNat=0 from rfl] at hw521_0);(try rw [show 0*1=0 from rfl] at hw521_0);(try rw [Addr.add_zero'] at hw521_0)
         obtain rfl:a9=ay:=(by injection az)
         have qi521:(0<l0.length)=True:=eq_true (by omega);(try rw [show ((0:Int)).toNat=0 from rfl] at a5);(try rw [Addr.add_zero'] at a5);replace a5:=pw_cell_below HB.out a5;replace ac:=eq_true ac;replace ad:=eq_true ad
         have ae:0≤(0:Int):=(by omega)
         have af:0<(l1.length:Int):=oda;obtain ⟨ar,aA,a6⟩:=Kd.at_string ai.out 0 ae af;have hw522_0:=a6;(try rw [show ((0:Int)).toNat=0 from rfl] at hw522_0);(try rw [show 0*1=0 from rfl] at hw522_0);(try rw [Addr.add_zero'] at hw522_0)
         cases aA
         have qi522:(0<l1.length)=True:=eq_true (by omega);(try rw [show ((0:Int)).toNat=0 from rfl] at a6);(try rw [Addr.add_zero'] at a6);replace a6:=pw_cell_below HB.out a6;replace ae:=eq_true ae;replace af:=eq_true af;refine start_ (n:=20) (S:=fun w'=>w'.cell? a9=some (.string (rdOf ByteArray.empty l0 0))∧w'.cell? ar=some (.string (rdOf ByteArray.empty l1 0))) (ds:=[]) (fb 20 0) (by kernel_rfl) rfl rfl ⟨(pw_cell_below HB.out hw521_0),(pw_cell_below HB.out hw522_0)⟩ (fun hHeld => ?_);refine with_tabW impl_matchParts.tab10 impl_matchParts.bits10 (fun HT_ HW_ => ?_);generalize w.drew=w27 at HB a5 a6 hHeld ⊢; refine pu 0 28 (fb 20 1) HT_ ?_;refine pu 1 29 (fb 20 3) HT_ ?_;refine pu 2 30 (fb 20 7) HT_ ?_;refine pu 3 31 (fb 20 15) HT_ ?_;refine pu 4 32 (fb 20 31) HT_ ?_;refine pu 5 33 (fb 20 63) HT_ ?_;refine pu 7 35 (fb 20 191) HT_ ?_;refine pu 8 36 (fb 20 447) HT_ ?_;refine tk 6 34 (fb 20 511) HT_ HW_ hHeld ?_;refine tk 9 37 (fb 20 1023) HT_ HW_ hHeld ?_;refine o1 10 (some 38) (fb 20 2047) HT_ (fun K hK => ?_);refine gs _ (#[.string (rdOf ByteArray.empty l0 0),.string (rdOf ByteArray.empty l1 0)]) Tryd.func146 ?_;(with_reducible refine (impl_partMatch.calls k (rdOf ByteArray.empty l0 0) (rdOf ByteArray.empty l1 0) true _ A22.out).mono ?_);rintro e w28 ⟨rfl,hb⟩;refine ⟨_,rfl,?_⟩;refine Ya1 (below_step (be HB.out) hb) ?_;clear HB;intro HB;(try clear hb);(try clear hb2);(try clear hk);(try clear hi);obtain ⟨i029,hi029,_,hsz29,_⟩:=info_parts info9;obtain ⟨A29,hcut29,hA29,hC29⟩:=print_drop_of (P:=Tryd.prog) Value.string (⟨#[]⟩:ByteArray) 42 9 .i64 Tryd.underlying42 hi029 hsz29 (some a9) c0 l0 1 (by omega) (oda) au.out;have aO:=Aside0.mk (Kd.C_of_reads (h1:=fun _=>rfl) (hA29 _ (Kd.reads_of_C aa.out)));have aP:=Aside0.mk hC29;clear hA29 hC29 hi029 hsz29;obtain ⟨i030,hi030,_,hsz30,_⟩:=info_parts info9;obtain ⟨A30,hcut30,hA30,hC30⟩:=print_drop_of (P:=Tryd.prog) Value.string (⟨#[]⟩:ByteArray) 42 9 .i64 Tryd.underlying42 hi030 hsz30 (some ar) c1 l1 1 (by omega) (oda) av.out;have aQ:=Aside0.mk (Kd.C_of_reads (h1:=fun _=>rfl) (hA30 _ (Kd.reads_of_C ai.out)));have aR:=Aside0.mk hC30;clear hA30 hC30 hi030 hsz30;refine hK.out _ _ ⟨(pw_cell_below HB.out hw521_0),(pw_cell_below HB.out hw522_0)⟩ (fun hHeld => ?_);clear hK K;refine nm 38 ?_;refine pu 11 39 (fb 20 4095) HT_ ?_;refine pu 12 40 (fb 20 8191) HT_ ?_;refine pu 13 41 (fb 20 16383) HT_ ?_;refine pu 14 42 (fb 20 32767) HT_ ?_;refine pu 15 43 (fb 20 65535) HT_ ?_;refine pu 16 44 (fb 20 131071) HT_ ?_;refine o1 17 (some 45) (fb 20 262143) HT_ (fun K hK => ?_);refine goes_ Tryd.func82 (by kernel_rfl) rfl #[.slice A29 (l0.drop 1).length (c0 - 1),.slice A30 (l1.drop 1).length (c1 - 1)] (by rfl) rfl rfl (by (try simp only [List.map_toArray,List.map_cons,List.map_nil]);first|done|(rw [show (l0.drop 1).length=(l0.length - 1) from List.length_drop] <;> rfl)|(rw [show (l1.drop 1).length=(l1.length - 1) from List.length_drop] <;> rfl)|rfl|(simp only [List.length_drop,List.length_take];rfl)) ?_;(with_reducible refine (ih k (by omega) _ _ (l0.drop 1) _ _ (l1.drop 1) a8 _ ?side1 ?side2 ?side3 ?side4 A26.out).mono ?_);(case side1=>exact cb (Kd.C_below aO.out HB.out));(case side2=>exact aP.out);(case side3=>exact cb (Kd.C_below aQ.out HB.out));(case side4=>exact aR.out);rintro e w31 ⟨rfl,hb⟩;refine ⟨_,rfl,?_⟩;refine Ya1 (below_step (be HB.out) hb) ?_;clear HB;intro HB;(try clear hb);(try clear hb2);(try clear hk);(try clear hi);refine hK.out _ _ ⟨(pw_cell_below HB.out hw521_0),(pw_cell_below HB.out hw522_0)⟩ (fun hHeld => ?_);clear hK K;refine nm 45 ?_;refine pu 18 46 (fb 20 524287) HT_ ?_;refine pu 19 4 (fb 20 1048575) HT_ ?_;refine done_ (done_of HT_.out (by kernel_rfl)) ?_
         try go_wp2
         go_ret
         exact ⟨Ye2,be HB.out⟩
        ·rw [if_neg am] at H
         exact absurd H (by simp)
       ·rw [if_neg al] at H
        exact absurd H (by simp)
      ·replace aq:=Bool.eq_false_iff.mpr aq;subst aq
       have H1:(some false)=some r:=by rw [if_neg (show ¬(false=true) by decide)] at H;exact H
       clear H;have H:=H1;clear H1;obtain rfl:=Option.some.inj H
       have a3:0≤(0:Int):=(by omega)
       have a4:0<(l0.length:Int):=oda;obtain ⟨a9,ab,a7⟩:=Kd.at_string aa.out 0 a3 a4
       cases ab
       have qi517:(0<l0.length)=True:=eq_true (by omega);(try rw [show ((0:Int)).toNat=0 from rfl] at a7);(try rw [Addr.add_zero'] at a7);replace a3:=eq_true a3;replace a4:=eq_true a4
       go_enter Tryd.func82,Tryd.ntmps82
       try go_wp2
       refine Ya1 (below_drew1 HB.out) ?_;clear HB;intro HB
       have ac:0≤(0:Int):=(by omega)
       have ad:0<(l0.length:Int):=oda;obtain ⟨ay,az,a5⟩:=Kd.at_string aa.out 0 ac ad;have hw521_0:=a5;(try rw [show ((0:Int)).toNat=0 from rfl] at hw521_0);(try rw [show 0*1=0 from rfl] at hw521_0);(try rw [Addr.add_zero'] at hw521_0)
       obtain rfl:a9=ay:=(by injection az)
       have qi521:(0<l0.length)=True:=eq_true (by omega);(try rw [show ((0:Int)).toNat=0 from rfl] at a5);(try rw [Addr.add_zero'] at a5);replace a5:=pw_cell_below HB.out a5;replace ac:=eq_true ac;replace ad:=eq_true ad
       have ae:0≤(0:Int):=(by omega)
       have af:0<(l1.length:Int):=oda;obtain ⟨ar,aA,a6⟩:=Kd.at_string ai.out 0 ae af;have hw522_0:=a6;(try rw [show ((0:Int)).toNat=0 from rfl] at hw522_0);(try rw [show 0*1=0 from rfl] at hw522_0);(try rw [Addr.add_zero'] at hw522_0)
       cases aA
       have qi522:(0<l1.length)=True:=eq_true (by omega);(try rw [show ((0:Int)).toNat=0 from rfl] at a6);(try rw [Addr.add_zero'] at a6);replace a6:=pw_cell_below HB.out a6;replace ae:=eq_true ae;replace af:=eq_true af;refine start_ (n:=20) (S:=fun w'=>w'.cell? a9=some (.string (rdOf ByteArray.empty l0 0))∧w'.cell? ar=some (.string (rdOf ByteArray.empty l1 0))) (ds:=[]) (fb 20 0) (by kernel_rfl) rfl rfl ⟨(pw_cell_below HB.out hw521_0),(pw_cell_below HB.out hw522_0)⟩ (fun hHeld => ?_);refine with_tabW impl_matchParts.tab10 impl_matchParts.bits10 (fun HT_ HW_ => ?_);generalize w.drew=w32 at HB a5 a6 hHeld ⊢; refine pu 0 28 (fb 20 1) HT_ ?_;refine pu 1 29 (fb 20 3) HT_ ?_;refine pu 2 30 (fb 20 7) HT_ ?_;refine pu 3 31 (fb 20 15) HT_ ?_;refine pu 4 32 (fb 20 31) HT_ ?_;refine pu 5 33 (fb 20 63) HT_ ?_;refine pu 7 35 (fb 20 191) HT_ ?_;refine pu 8 36 (fb 20 447) HT_ ?_;refine tk 6 34 (fb 20 511) HT_ HW_ hHeld ?_;refine tk 9 37 (fb 20 1023) HT_ HW_ hHeld ?_;refine o1 10 (some 38) (fb 20 2047) HT_ (fun K hK => ?_);refine gs _ (#[.string (rdOf ByteArray.empty l0 0),.string (rdOf ByteArray.empty l1 0)]) Tryd.func146 ?_;(with_reducible refine (impl_partMatch.calls k (rdOf ByteArray.empty l0 0) (rdOf ByteArray.empty l1 0) false _ A22.out).mono ?_);rintro e w33 ⟨rfl,hb⟩;refine ⟨_,rfl,?_⟩;refine Ya1 (below_step (be HB.out) hb) ?_;clear HB;intro HB;(try clear hb);(try clear hb2);(try clear hk);(try clear hi);refine hK.out _ _ ⟨(pw_cell_below HB.out hw521_0),(pw_cell_below HB.out hw522_0)⟩ (fun hHeld => ?_);clear hK K;refine nm 38 ?_;refine pu 11 39 (fb 20 4095) HT_ ?_;refine pu 12 40 (fb 20 8191) HT_ ?_;refine pn 13 41 (fb 20 16383) HT_ ?_;refine pn 14 42 (fb 20 32767) HT_ ?_;refine pn 15 43 (fb 20 65535) HT_ ?_;refine pn 16 44 (fb 20 131071) HT_ ?_;refine pn 17 45 (fb 20 262143) HT_ ?_;refine pu 18 46 (fb 20 524287) HT_ ?_;refine pu 19 4 (fb 20 1048575) HT_ ?_;refine done_ (done_of HT_.out (by kernel_rfl)) ?_
       try go_wp2
       go_ret
       exact ⟨Ye2,be HB.out⟩
     ·rw [if_neg ap] at H
      exact absurd H (by simp)
    ·rw [if_neg ah] at H
     have aM:decide (0<(l1.length:Int))=false:=decide_eq_false ah;have aN:decide (0<l1.length)=false:=decide_eq_false (by omega);clear ah;obtain rfl:=Option.some.inj H
     have a3:0≤(0:Int):=(by omega)
     have a4:0<(l0.length:Int):=oda;obtain ⟨a9,ab,a7⟩:=Kd.at_string aa.out 0 a3 a4
     cases ab
     have qi517:(0<l0.length)=True:=eq_true (by omega);(try rw [show ((0:Int)).toNat=0 from rfl] at a7);(try rw [Addr.add_zero'] at a7);replace a3:=eq_true a3;replace a4:=eq_true a4
     go_enter Tryd.func82,Tryd.ntmps82
     try go_wp2
     refine Ya1 (below_drew1 HB.out) ?_;clear HB;intro HB;refine start_ (n:=20) (S:=fun w'=>True) (ds:=[]) (fb 20 0) (by kernel_rfl) rfl rfl trivial (fun hHeld => ?_);refine with_tabW impl_matchParts.tab10 impl_matchParts.bits10 (fun HT_ HW_ => ?_);generalize w.drew=w34 at HB hHeld ⊢; refine pu 0 28 (fb 20 1) HT_ ?_;refine pu 1 29 (fb 20 3) HT_ ?_;refine pu 2 30 (fb 20 7) HT_ ?_;refine pu 3 31 (fb 20 15) HT_ ?_;refine pn 4 32 (fb 20 31) HT_ ?_;refine pn 5 33 (fb 20 63) HT_ ?_;refine pn 6 34 (fb 20 127) HT_ ?_;refine pn 7 35 (fb 20 255) HT_ ?_;refine pn 8 36 (fb 20 511) HT_ ?_;refine pn 9 37 (fb 20 1023) HT_ ?_;refine pn 10 38 (fb 20 2047) HT_ ?_;refine pu 11 39 (fb 20 4095) HT_ ?_;refine pu 12 40 (fb 20 8191) HT_ ?_;refine pn 13 41 (fb 20 16383) HT_ ?_;refine pn 14 42 (fb 20 32767) HT_ ?_;refine pn 15 43 (fb 20 65535) HT_ ?_;refine pn 16 44 (fb 20 131071) HT_ ?_;refine pn 17 45 (fb 20 262143) HT_ ?_;refine pu 18 46 (fb 20 524287) HT_ ?_;refine pu 19 4 (fb 20 1048575) HT_ ?_;refine done_ (done_of HT_.out (by kernel_rfl)) ?_
     try go_wp2
     go_ret
     exact ⟨Ye2,be HB.out⟩
  ·rw [if_neg c4] at H
   exact absurd H (by simp)

end Go.Proofs.YtknagppkeodggaaDoor.P


namespace Go.Proofs.YtknagppkeodggaaDoor.P
open Go.RowKit Go.Proofs.YtknagppkeodggaaDoorW.PrintWords Go.Proofs.YtknagppkeodggaaDoorW.PrintLast Go.Proofs.YtknagppkeodggaaDoorW.PrintMore
attribute [local go_sem] max2_int min2_int max_two min_two max_three min_three max_four min_four
set_option linter.unusedVariables false
set_option linter.unusedSimpArgs false

def impl_in.f (a0:Int) (a1:Int) (a2:Int):Option (Bool):=if a0 ≥ a1 then (some (decide (a0≤a2))) else (some false)
set_option maxHeartbeats 8000000 in
set_option maxRecDepth 100000 in
theorem impl_in.calls (a0:Int) (a1:Int) (a2:Int) (r:Bool) (w:World) (h:impl_in.f a0 a1 a2=some r) :
  Calls Tryd.prog 125 #[.int .i64 a0,.int .i64 a1,.int .i64 a2] w fun e w'=>e = .returned (.bool r)∧Drawn0 w w':=by
 have H:(if a0 ≥ a1 then (some (decide (a0≤a2))) else (some false))=some r:=h;clear h
 by_cases c4:a0 ≥ a1
 ·rw [if_pos c4] at H
  have a3:decide (a1≤a0)=true:=decide_eq_true c4;clear c4;obtain rfl:=Option.some.inj H
  go_enter Tryd.func125,Tryd.ntmps125
  go_wp2
  go_ret
  exact ⟨Ye1,dz⟩
 ·rw [if_neg c4] at H
  have a3:decide (a1≤a0)=false:=decide_eq_false c4;clear c4;obtain rfl:=Option.some.inj H
  go_enter Tryd.func125,Tryd.ntmps125
  go_wp2
  go_ret
  exact ⟨Ye1,dz⟩

end Go.Proofs.YtknagppkeodggaaDoor.P


namespace Go.Proofs.YtknagppkeodggaaDoor.P
open Go.RowKit Go.Proofs.YtknagppkeodggaaDoorW.PrintWords Go.Proofs.YtknagppkeodggaaDoorW.PrintLast Go.Proofs.YtknagppkeodggaaDoorW.PrintMore
attribute [local go_sem] max2_int min2_int max_two min_two max_three min_three max_four min_four
set_option linter.unusedVariables false
set_option linter.unusedSimpArgs false

mutual
def impl_goodPart.j0:Nat→ByteArray→Bool→Bool→Option (Bool)
 | 0,_,_,_=>none
 | k+1,x0,x1,x18=>if x18=true then (some false) else (impl_goodPart.l0 k x0 x1 0)
def impl_goodPart.l0:Nat→ByteArray→Bool→Int→Option (Bool)
 | 0,_,_,_=>none
 | k+1,x0,x1,x5=>if x5<(x0.size:Int) then (if 0≤x5 then (if (bt x0 x5)<33 then (some false) else (if (bt x0 x5)>126 then (some false) else (if (bt x0 x5)=34 then (some false) else (if (bt x0 x5)=47 then (some false) else (if x1=true then (impl_goodPart.l0 k x0 x1 (wrap64 (x5+1))) else (if (bt x0 x5)=42 then (some false) else (if (bt x0 x5)=63 then (some false) else (impl_goodPart.l0 k x0 x1 (wrap64 (x5+1)))))))))) else (none)) else (some true)
end
def impl_goodPart.f (k:Nat) (a0:ByteArray) (a1:Bool):Option (Bool):=(impl_in.f (a0.size:Int) 1 20).bind fun a8=>(if a8=true then (if a0.toList=([46]:List UInt8) then (impl_goodPart.j0 k a0 a1 true) else (impl_goodPart.j0 k a0 a1 (a0.toList==([46,46]:List UInt8)))) else (impl_goodPart.j0 k a0 a1 true))
theorem impl_goodPart.mono_l:∀ k,(∀ y0 y1 y2,LeO (impl_goodPart.j0 k y0 y1 y2) (impl_goodPart.j0 (k+1) y0 y1 y2))∧(∀ y0 y1 y2,LeO (impl_goodPart.l0 k y0 y1 y2) (impl_goodPart.l0 (k+1) y0 y1 y2))
 | 0=>⟨fun _ _ _ r h=>by simp [impl_goodPart.j0] at h,fun _ _ _ r h=>by simp [impl_goodPart.l0] at h⟩
 | k + 1 => by
  obtain ⟨ih0,ih1⟩:=impl_goodPart.mono_l k;refine ⟨?_,?_⟩
  ·intro y0 y1 y2
   unfold impl_goodPart.j0
   repeat' first
   | (with_reducible exact ih0 _ _ _)
   | (with_reducible exact ih1 _ _ _)
   | (with_reducible exact LeO.refl _)
   | (with_reducible exact LeO.none _)
   | (with_reducible refine LeO.ite ?_ ?_)
   | (with_reducible refine LeO.bind ?_ (fun _ => ?_))
   | exact ih0 _ _ _
   | exact ih1 _ _ _
   | exact LeO.none _
   | refine LeO.ite ?_ ?_
   | refine LeO.bind ?_ (fun _ => ?_)
  ·intro y0 y1 y2
   unfold impl_goodPart.l0
   repeat' first
   | (with_reducible exact ih0 _ _ _)
   | (with_reducible exact ih1 _ _ _)
   | (with_reducible exact LeO.refl _)
   | (with_reducible exact LeO.none _)
   | (with_reducible refine LeO.ite ?_ ?_)
   | (with_reducible refine LeO.bind ?_ (fun _ => ?_))
   | exact ih0 _ _ _
   | exact ih1 _ _ _
   | exact LeO.none _
   | refine LeO.ite ?_ ?_
   | refine LeO.bind ?_ (fun _ => ?_)
theorem impl_goodPart.mono:∀ a0 a1 k,LeO (impl_goodPart.f k a0 a1) (impl_goodPart.f (k+1) a0 a1):=by
 intro a0 a1 k;obtain ⟨ih0,ih1⟩:=impl_goodPart.mono_l k
 unfold impl_goodPart.f
 repeat' first
   | (with_reducible exact ih0 _ _ _)
   | (with_reducible exact ih1 _ _ _)
   | (with_reducible exact LeO.refl _)
   | (with_reducible exact LeO.none _)
   | (with_reducible refine LeO.ite ?_ ?_)
   | (with_reducible refine LeO.bind ?_ (fun _ => ?_))
   | exact ih0 _ _ _
   | exact ih1 _ _ _
   | exact LeO.none _
   | refine LeO.ite ?_ ?_
   | refine LeO.bind ?_ (fun _ => ?_)
set_option maxHeartbeats 8000000 in
set_option maxRecDepth 100000 in
theorem impl_goodPart.calls (k : Nat) (a0 : ByteArray) (a1 : Bool) (r : Bool) (w : World) (h : impl_goodPart.f k a0 a1 = some r) :
  Calls Tryd.prog 171 #[.string a0,.bool a1] w fun e w'=>e = .returned (.bool r)∧Drawn0 w w':=by
 have H:((impl_in.f (a0.size:Int) 1 20).bind fun a8=>(if a8=true then (if a0.toList=([46]:List UInt8) then (impl_goodPart.j0 k a0 a1 true) else (impl_goodPart.j0 k a0 a1 (a0.toList==([46,46]:List UInt8)))) else (impl_goodPart.j0 k a0 a1 true)))=some r:=h;clear h;have ad:=Aside0.mk H;clear H
 go_enter Tryd.func171,Tryd.ntmps171
 go_upto_region 1 with (fail)
 go_cut [18] (fun v18 wc => ∃ (kq:Nat) (ab:Bool),v18 = .bool ab∧Aside0 (impl_goodPart.j0 kq a0 a1 ab=some r)∧Aside0 (kq≤k)∧Drawn0 w wc)
 case first =>
  have H:=ad.out;clear ad;replace H:=Option.bind_eq_some_iff.mp H;obtain ⟨a8,A40,H⟩:=H;replace H:(if a8=true then (if a0.toList=([46]:List UInt8) then (impl_goodPart.j0 k a0 a1 true) else (impl_goodPart.j0 k a0 a1 (a0.toList==([46,46]:List UInt8)))) else (impl_goodPart.j0 k a0 a1 true))=some r:=H;have A4:=Aside0.mk A40;clear A40
  by_cases c5:a8=true
  ·subst c5
   have H1:(if a0.toList=([46]:List UInt8) then (impl_goodPart.j0 k a0 a1 true) else (impl_goodPart.j0 k a0 a1 (a0.toList==([46,46]:List UInt8))))=some r:=by rw [if_pos rfl] at H;exact H
   clear H;have H:=H1;clear H1
   by_cases c6:a0.toList=([46]:List UInt8)
   ·rw [if_pos c6] at H
    have a3:(a0.toList==([46]:List UInt8))=true:=beq_iff_eq.mpr c6;have ae:(a0.toList != ([46]:List UInt8))=false:=bne_eq_false_iff_eq.mpr c6;clear c6;(first|rw [a3]|(simp only [i64_w,i32_w];rw [a3])|skip);have H':=Aside0.mk H;clear H
    go_wp2_with (first|((with_reducible refine gc 125 rfl ?_);refine gl (some 9) _ (#[.int .i64 (a0.size:Int),.int .i64 1,.int .i64 20]) Tryd.func125 ?_;(with_reducible refine (impl_in.calls (a0.size:Int) 1 20 true _ A4.out).mono ?_);rintro e w' ⟨rfl,⟨nd,rfl⟩⟩;refine ⟨_,rfl,?_⟩))
    go_meet
    case rel=>exact ⟨_,(true),Ye1,H',⟨by first|omega|exact Nat.le_refl _⟩,dz⟩
   ·rw [if_neg c6] at H
    have a3:(a0.toList==([46]:List UInt8))=false:=beq_eq_false_iff_ne.mpr c6;have ae:(a0.toList != ([46]:List UInt8))=true:=bne_iff_ne.mpr c6;(first|rw [a3]|(simp only [i64_w,i32_w];rw [a3])|skip);have H':=Aside0.mk H;clear H
    go_wp2_with (first|((with_reducible refine gc 125 rfl ?_);refine gl (some 9) _ (#[.int .i64 (a0.size:Int),.int .i64 1,.int .i64 20]) Tryd.func125 ?_;(with_reducible refine (impl_in.calls (a0.size:Int) 1 20 true _ A4.out).mono ?_);rintro e w' ⟨rfl,⟨nd,rfl⟩⟩;refine ⟨_,rfl,?_⟩))
    go_meet
    case rel=>exact ⟨_,((a0.toList==([46,46]:List UInt8))),Ye1,H',⟨by first|omega|exact Nat.le_refl _⟩,dz⟩
  ·replace c5:=Bool.eq_false_iff.mpr c5;subst c5
   have H1:(impl_goodPart.j0 k a0 a1 true)=some r:=by rw [if_neg (show ¬(false=true) by decide)] at H;exact H
   clear H;have H:=H1;clear H1;have H':=Aside0.mk H;clear H
   go_wp2_with (first|((with_reducible refine gc 125 rfl ?_);refine gl (some 9) _ (#[.int .i64 (a0.size:Int),.int .i64 1,.int .i64 20]) Tryd.func125 ?_;(with_reducible refine (impl_in.calls (a0.size:Int) 1 20 false _ A4.out).mono ?_);rintro e w' ⟨rfl,⟨nd,rfl⟩⟩;refine ⟨_,rfl,?_⟩))
   go_meet
   case rel=>exact ⟨_,(true),Ye1,H',⟨by first|omega|exact Nat.le_refl _⟩,dz⟩
 case rest =>
  clear ad;(try clear c1);(try clear p2);(try clear c5);(try clear c6);(try clear a3);(try clear ae);obtain ⟨kq,ab,rfl,HA,HJ2,⟨mc2,rfl⟩⟩:=hcut
  cases kq with
  | zero=>exact absurd HA.out (by simp [impl_goodPart.j0])
  | succ af =>
   have H:=HA.out;clear HA;simp only [impl_goodPart.j0] at H
   by_cases c7:ab=true
   ·subst c7
    have H1:(some false)=some r:=by rw [if_pos rfl] at H;exact H
    clear H;have H:=H1;clear H1;obtain rfl:=Option.some.inj H
    go_wp2
    go_ret
    exact ⟨Ye1,dz⟩
   ·replace c7 := Bool.eq_false_iff.mpr c7; subst c7
    have H1:(impl_goodPart.l0 af a0 a1 0)=some r:=by rw [if_neg (show ¬(false=true) by decide)] at H;exact H
    clear H;have H:=H1;clear H1;have H':=Aside0.mk H;clear H
    go_wp2
    go_loopg [5] af (fun kq v5 w' => ∃ (a2:Int),v5 = .int .i64 a2∧Aside0 (impl_goodPart.l0 kq a0 a1 a2=some r)∧Aside0 (kq≤af)∧Drawn0 w w')
    case atStart=>exact ⟨(0),Ye1,H',⟨Nat.le_refl _⟩,dz⟩
    case round =>
     clear H';(try clear c1);(try clear c2);(try clear p2);(try clear c5);(try clear c6);(try clear a3);(try clear ae);(try clear c7);(try clear p2);obtain ⟨a2,rfl,HA,HK2,⟨m2,rfl⟩⟩:=hrel
     cases gk with
     | zero=>exact absurd HA.out (by simp [impl_goodPart.l0])
     | succ k2 =>
      have H:=HA.out;clear HA;simp only [impl_goodPart.l0] at H
      by_cases c8:a2<(a0.size:Int)
      ·rw [if_pos c8] at H
       have ag:decide (a2<(a0.size:Int))=true:=decide_eq_true c8;clear c8
       by_cases c9:0≤a2
       ·rw [if_pos c9] at H
        have c9b0:decide (0≤a2)=true:=decide_eq_true c9;clear c9
        by_cases a9:(bt a0 a2)<33
        ·rw [if_pos a9] at H
         have ah:decide ((bt a0 a2)<33)=true:=decide_eq_true a9;clear a9;obtain rfl:=Option.some.inj H;have p10:0≤(a2:Int):=oda;have q10:a2<(a0.size:Int):=oda;have hx10:=bt_at a0 a2;replace p10:=eq_true p10;replace q10:=eq_true q10
         go_wp2
         go_ret
         exact ⟨Ye1,dz⟩
        ·rw [if_neg a9] at H
         have ah:decide ((bt a0 a2)<33)=false:=decide_eq_false a9;clear a9
         by_cases aa:(bt a0 a2)>126
         ·rw [if_pos aa] at H
          have ai:decide (126<(bt a0 a2))=true:=decide_eq_true aa;clear aa;obtain rfl:=Option.some.inj H;have p10:0≤(a2:Int):=oda;have q10:a2<(a0.size:Int):=oda;have hx10:=bt_at a0 a2;replace p10:=eq_true p10;replace q10:=eq_true q10
          go_wp2
          go_ret
          exact ⟨Ye1,dz⟩
         ·rw [if_neg aa] at H
          have ai:decide (126<(bt a0 a2))=false:=decide_eq_false aa;clear aa
          by_cases a4:(bt a0 a2)=34
          ·rw [if_pos a4] at H
           have aj:((bt a0 a2)==34)=true:=beq_iff_eq.mpr a4;have ak:((bt a0 a2) != 34)=false:=bne_eq_false_iff_eq.mpr a4;clear a4;obtain rfl:=Option.some.inj H;have p10:0≤(a2:Int):=oda;have q10:a2<(a0.size:Int):=oda;have hx10:=bt_at a0 a2;replace p10:=eq_true p10;replace q10:=eq_true q10
           go_wp2
           go_ret
           exact ⟨Ye1,dz⟩
          ·rw [if_neg a4] at H
           have aj:((bt a0 a2)==34)=false:=beq_eq_false_iff_ne.mpr a4;have ak:((bt a0 a2) != 34)=true:=bne_iff_ne.mpr a4
           by_cases a5:(bt a0 a2)=47
           ·rw [if_pos a5] at H
            have al:((bt a0 a2)==47)=true:=beq_iff_eq.mpr a5;have am:((bt a0 a2) != 47)=false:=bne_eq_false_iff_eq.mpr a5;clear a5;obtain rfl:=Option.some.inj H;have p10:0≤(a2:Int):=oda;have q10:a2<(a0.size:Int):=oda;have hx10:=bt_at a0 a2;replace p10:=eq_true p10;replace q10:=eq_true q10
            go_wp2
            go_ret
            exact ⟨Ye1,dz⟩
           ·rw [if_neg a5] at H
            have al:((bt a0 a2)==47)=false:=beq_eq_false_iff_ne.mpr a5;have am:((bt a0 a2) != 47)=true:=bne_iff_ne.mpr a5
            by_cases ac:a1=true
            ·subst ac
             have H1:(impl_goodPart.l0 k2 a0 true (wrap64 (a2+1)))=some r:=by rw [if_pos rfl] at H;exact H
             clear H;have H:=H1;clear H1;have H':=Aside0.mk H;clear H;have p10:0≤(a2:Int):=oda;have q10:a2<(a0.size:Int):=oda;have hx10:=bt_at a0 a2;replace p10:=eq_true p10;replace q10:=eq_true q10
             go_wp2
             go_roundg k2
             case measure=>have:=HJ2.out;have:=HK2.out;omega
             case rel=>exact ⟨(wrap64 (a2+1)),Ye1,H',⟨by have:=HJ2.out;have:=HK2.out;omega⟩,dz⟩
            ·replace ac:=Bool.eq_false_iff.mpr ac;subst ac
             have H1:(if (bt a0 a2)=42 then (some false) else (if (bt a0 a2)=63 then (some false) else (impl_goodPart.l0 k2 a0 false (wrap64 (a2+1)))))=some r:=by rw [if_neg (show ¬(false=true) by decide)] at H;exact H
             clear H;have H:=H1;clear H1
             by_cases a6:(bt a0 a2)=42
             ·rw [if_pos a6] at H
              have an:((bt a0 a2)==42)=true:=beq_iff_eq.mpr a6;have ao:((bt a0 a2) != 42)=false:=bne_eq_false_iff_eq.mpr a6;clear a6;obtain rfl:=Option.some.inj H;have p10:0≤(a2:Int):=oda;have q10:a2<(a0.size:Int):=oda;have hx10:=bt_at a0 a2;replace p10:=eq_true p10;replace q10:=eq_true q10
              go_wp2
              go_ret
              exact ⟨Ye1,dz⟩
             ·rw [if_neg a6] at H
              have an:((bt a0 a2)==42)=false:=beq_eq_false_iff_ne.mpr a6;have ao:((bt a0 a2) != 42)=true:=bne_iff_ne.mpr a6
              by_cases a7:(bt a0 a2)=63
              ·rw [if_pos a7] at H
               have ap:((bt a0 a2)==63)=true:=beq_iff_eq.mpr a7;have aq:((bt a0 a2) != 63)=false:=bne_eq_false_iff_eq.mpr a7;clear a7;obtain rfl:=Option.some.inj H;have p10:0≤(a2:Int):=oda;have q10:a2<(a0.size:Int):=oda;have hx10:=bt_at a0 a2;replace p10:=eq_true p10;replace q10:=eq_true q10
               go_wp2
               go_ret
               exact ⟨Ye1,dz⟩
              ·rw [if_neg a7] at H
               have ap:((bt a0 a2)==63)=false:=beq_eq_false_iff_ne.mpr a7;have aq:((bt a0 a2) != 63)=true:=bne_iff_ne.mpr a7;have H':=Aside0.mk H;clear H;have p10:0≤(a2:Int):=oda;have q10:a2<(a0.size:Int):=oda;have hx10:=bt_at a0 a2;replace p10:=eq_true p10;replace q10:=eq_true q10
               go_wp2
               go_roundg k2
               case measure=>have:=HJ2.out;have:=HK2.out;omega
               case rel=>exact ⟨(wrap64 (a2+1)),Ye1,H',⟨by have:=HJ2.out;have:=HK2.out;omega⟩,dz⟩
       ·rw [if_neg c9] at H
        exact absurd H (by simp)
      ·rw [if_neg c8] at H
       have ag:decide (a2<(a0.size:Int))=false:=decide_eq_false c8;clear c8;obtain rfl:=Option.some.inj H
       go_wp2
       go_ret
       exact ⟨Ye1,dz⟩

end Go.Proofs.YtknagppkeodggaaDoor.P


namespace Go.Proofs.YtknagppkeodggaaDoor.P
open Go.RowKit Go.Proofs.YtknagppkeodggaaDoorW.PrintWords Go.Proofs.YtknagppkeodggaaDoorW.PrintLast Go.Proofs.YtknagppkeodggaaDoorW.PrintMore
attribute [local go_sem] max2_int min2_int max_two min_two max_three min_three max_four min_four
set_option linter.unusedVariables false
set_option linter.unusedSimpArgs false

def strings_Split.f (a0 a1:ByteArray):Option (List ByteArray):=if a0.size<4294967281 then (if 1≤a1.size then some (Go.Lib.splitB a1 0 (Go.Lib.countB a0 a1) a0) else none) else none
theorem strings_Split.calls (a0 a1:ByteArray) (r:List ByteArray) (w:World) (hg:GOK w) (h:strings_Split.f a0 a1=some r) :
  Calls Tryd.prog 83 #[.string a0,.string a1] w fun e w' => ∃ v0_:Value,e = .returned (v0_)∧Kd.R Kd.string 9 w' w.heap.size (fun _=>True) v0_ r∧Below w.heap.size w w':=by
 unfold strings_Split.f at h
 split at h
 ·rename_i hs
  split at h
  ·rename_i h1
   obtain rfl:=Option.some.inj h;obtain ⟨m,hm⟩:=hg;have hle:=Go.Lib.countB_le a1 h1 a0.size a0 (Nat.le_refl _);have hlen:=Go.Lib.splitB_all a1 h1 0 (Go.Lib.countB a0 a1) a0 rfl
   refine (Tryd.strings_Split a0 a1 m w hs hm h1).mono fun e w' ⟨he,hw⟩ => ?_
   subst hw;refine ⟨_,he,?_,below_alloc (Below.refl _ _) _⟩
   rw [←hlen]
   exact Ow.R_new_block Value.string (fun _=>rfl) _ w _ (by rw [hlen];unfold maxLen;omega)
  ·cases h
 ·cases h


end Go.Proofs.YtknagppkeodggaaDoor.P


namespace Go.Proofs.YtknagppkeodggaaDoor.P
open Go.RowKit Go.Proofs.YtknagppkeodggaaDoorW.PrintWords Go.Proofs.YtknagppkeodggaaDoorW.PrintLast Go.Proofs.YtknagppkeodggaaDoorW.PrintMore
attribute [local go_sem] max2_int min2_int max_two min_two max_three min_three max_four min_four
set_option linter.unusedVariables false
set_option linter.unusedSimpArgs false

def impl_parts.l0:Nat→Bool→List ByteArray→Int→Int→Option (Bool)
 | 0,_,_,_,_=>none
 | k+1,x1,x13,x14,x15=>if x15<x14 then (if 0≤x15 then (if x15<(x13.length:Int) then ((impl_goodPart.f k (rdOf ByteArray.empty x13 x15) x1).bind fun a6=>(if a6=true then (impl_parts.l0 k x1 x13 x14 (wrap64 (x15+1))) else (some false))) else (none)) else (none)) else (some true)
def impl_parts.f (k:Nat) (a0:ByteArray) (a1:Bool):Option (Bool):=(strings_Split.f a0 (⟨#[47]⟩:ByteArray)).bind fun a2=>(if (a2.length:Int)>6 then (some false) else (impl_parts.l0 k a1 a2 (a2.length:Int) 0))
theorem impl_parts.mono_l:∀ k,(∀ y0 y1 y2 y3,LeO (impl_parts.l0 k y0 y1 y2 y3) (impl_parts.l0 (k+1) y0 y1 y2 y3))
 | 0=>fun _ _ _ _ r h=>by simp [impl_parts.l0] at h
 | k + 1 => by
  have ih0:=impl_parts.mono_l k
  ·intro y0 y1 y2 y3
   unfold impl_parts.l0
   repeat' first
   | (with_reducible exact ih0 _ _ _ _)
   | (with_reducible exact impl_goodPart.mono _ _ _)
   | (with_reducible exact LeO.refl _)
   | (with_reducible exact LeO.none _)
   | (with_reducible refine LeO.ite ?_ ?_)
   | (with_reducible refine LeO.bind ?_ (fun _ => ?_))
   | exact ih0 _ _ _ _
   | exact impl_goodPart.mono _ _ _
   | exact LeO.none _
   | refine LeO.ite ?_ ?_
   | refine LeO.bind ?_ (fun _ => ?_)
theorem impl_parts.mono:∀ a0 a1 k,LeO (impl_parts.f k a0 a1) (impl_parts.f (k+1) a0 a1):=by
 intro a0 a1 k;have ih0:=impl_parts.mono_l k
 unfold impl_parts.f
 repeat' first
   | (with_reducible exact ih0 _ _ _ _)
   | (with_reducible exact impl_goodPart.mono _ _ _)
   | (with_reducible exact LeO.refl _)
   | (with_reducible exact LeO.none _)
   | (with_reducible refine LeO.ite ?_ ?_)
   | (with_reducible refine LeO.bind ?_ (fun _ => ?_))
   | exact ih0 _ _ _ _
   | exact impl_goodPart.mono _ _ _
   | exact LeO.none _
   | refine LeO.ite ?_ ?_
   | refine LeO.bind ?_ (fun _ => ?_)
set_option maxHeartbeats 8000000 in
set_option maxRecDepth 100000 in
theorem impl_parts.calls (k : Nat) (a0 : ByteArray) (a1 : Bool) (r : Bool) (w : World) (hg : GOK w) (h : impl_parts.f k a0 a1 = some r) :
  Calls Tryd.prog 145 #[.string a0,.bool a1] w fun e w'=>e = .returned (.bool r)∧Below w.heap.size w w':=by
 have HG:=Aside0.mk hg;clear hg;have HB:=Aside0.mk (Below.refl w.heap.size w);have H:((strings_Split.f a0 (⟨#[47]⟩:ByteArray)).bind fun a2=>(if (a2.length:Int)>6 then (some false) else (impl_parts.l0 k a1 a2 (a2.length:Int) 0)))=some r:=h;clear h;replace H:=Option.bind_eq_some_iff.mp H;obtain ⟨a2,A30,H⟩:=H;replace H:(if (a2.length:Int)>6 then (some false) else (impl_parts.l0 k a1 a2 (a2.length:Int) 0))=some r:=H;have A3:=Aside0.mk A30;clear A30
 by_cases c4:(a2.length:Int)>6
 ·rw [if_pos c4] at H
  have ac:decide (6<(a2.length:Int))=true:=decide_eq_true c4;have ad:decide (6<a2.length)=true:=decide_eq_true (by omega);clear c4;obtain rfl:=Option.some.inj H
  go_enter Tryd.func145,Tryd.ntmps145
  go_wp2_with (first|((with_reducible refine gc 83 rfl ?_);refine gl (some 9) _ (#[.string a0,.string (⟨#[47]⟩:ByteArray)]) Tryd.func83 ?_;(with_reducible refine (strings_Split.calls a0 (⟨#[47]⟩:ByteArray) a2 _ ?sideG A3.out).mono ?_);(case sideG=>exact gk HG.out HB.out);rintro e w5 ⟨af,rfl,ho0,hb⟩;refine ⟨_,rfl,?_⟩;refine Ya2 (Kd.R_lower ho0 (below_size (be HB.out))) (below_step (be HB.out) hb) ?_;clear HB;intro a7 HB;(try clear hb);(try clear hb2);(try clear hk);(try clear hi);(try clear ho0);obtain ⟨Ao6,co6,eo6⟩:=Kd.R_slice a7.out;subst eo6))
  go_ret
  exact ⟨Ye2,be HB.out⟩
 ·rw [if_neg c4] at H
  have ac:decide (6<(a2.length:Int))=false:=decide_eq_false c4;have ad:decide (6<a2.length)=false:=decide_eq_false (by omega);clear c4;have H':=Aside0.mk H;clear H
  go_enter Tryd.func145,Tryd.ntmps145
  go_wp2_with (first|((with_reducible refine gc 83 rfl ?_);refine gl (some 9) _ (#[.string a0,.string (⟨#[47]⟩:ByteArray)]) Tryd.func83 ?_;(with_reducible refine (strings_Split.calls a0 (⟨#[47]⟩:ByteArray) a2 _ ?sideG A3.out).mono ?_);(case sideG=>exact gk HG.out HB.out);rintro e w7 ⟨af,rfl,ho0,hb⟩;refine ⟨_,rfl,?_⟩;refine Ya2 (Kd.R_lower ho0 (below_size (be HB.out))) (below_step (be HB.out) hb) ?_;clear HB;intro a7 HB;(try clear hb);(try clear hb2);(try clear hk);(try clear hi);(try clear ho0);obtain ⟨Ao8,co8,eo8⟩:=Kd.R_slice a7.out;subst eo8))
  go_loopg [15] k (fun kq v15 w' => ∃ (a3:Int),v15 = .int .i64 a3∧Aside0 (impl_parts.l0 kq a1 a2 (a2.length:Int) a3=some r)∧Aside0 (kq≤k)∧Aside0 (Kd.R Kd.string 9 w' w.heap.size (fun _=>True) (.slice Ao8 a2.length co8) a2)∧Aside0 (Below w.heap.size w w'))
  case atStart=>exact ⟨(0),Ye1,H',⟨Nat.le_refl _⟩,⟨kr a7.out⟩,⟨be HB.out⟩⟩
  case round =>
   clear H';(try clear c1);(try clear p2);(try clear c4);(try clear ac);(try clear ad);(try clear c8);obtain ⟨a3,rfl,HA,HK1,aa,HB⟩:=hrel
   cases gk with
   | zero=>exact absurd HA.out (by simp [impl_parts.l0])
   | succ k1 =>
    have H:=HA.out;clear HA;simp only [impl_parts.l0] at H
    by_cases c9:a3<(a2.length:Int)
    ·rw [if_pos c9] at H
     have ag:decide (a3<(a2.length:Int))=true:=decide_eq_true c9;clear c9
     by_cases c10:0≤a3
     ·rw [if_pos c10] at H
      have c10b0:decide (0≤a3)=true:=decide_eq_true c10;clear c10
      by_cases a8:a3<(a2.length:Int)
      ·rw [if_pos a8] at H
       have c11b0:decide (a3<(a2.length:Int))=true:=decide_eq_true a8;clear a8;replace H:=Option.bind_eq_some_iff.mp H;obtain ⟨a6,ae,H⟩:=H;replace H:(if a6=true then (impl_parts.l0 k1 a1 a2 (a2.length:Int) (wrap64 (a3+1))) else (some false))=some r:=H;have A12:=Aside0.mk ae;clear ae
       by_cases a9:a6=true
       ·subst a9
        have H1:(impl_parts.l0 k1 a1 a2 (a2.length:Int) (wrap64 (a3+1)))=some r:=by rw [if_pos rfl] at H;exact H
        clear H;have H:=H1;clear H1;have H':=Aside0.mk H;clear H;have a4:0≤(a3:Int):=oda;have a5:a3<(a2.length:Int):=oda;obtain ⟨ah,ab,ai⟩:=Kd.at_string (Kd.R_reads' aa.out).2.2 a3 a4 a5
        cases ab
        replace a4:=eq_true a4;replace a5:=eq_true a5
        go_wp2_with (first|((with_reducible refine gc 171 rfl ?_);refine gl (some 21) _ (#[.string (rdOf ByteArray.empty a2 a3),.bool a1]) Tryd.func171 ?_;(with_reducible refine (impl_goodPart.calls k1 (rdOf ByteArray.empty a2 a3) a1 true _ A12.out).mono ?_);rintro e w' ⟨rfl,⟨nd,rfl⟩⟩;refine ⟨_,rfl,?_⟩))
        go_roundg k1
        case measure=>have:=HK1.out;omega
        case rel=>exact ⟨(wrap64 (a3+1)),Ye1,H',⟨by have:=HK1.out;omega⟩,⟨kr aa.out⟩,⟨be HB.out⟩⟩
       ·replace a9:=Bool.eq_false_iff.mpr a9;subst a9
        have H1:(some false)=some r:=by rw [if_neg (show ¬(false=true) by decide)] at H;exact H
        clear H;have H:=H1;clear H1;obtain rfl:=Option.some.inj H;have a4:0≤(a3:Int):=oda;have a5:a3<(a2.length:Int):=oda;obtain ⟨ah,ab,ai⟩:=Kd.at_string (Kd.R_reads' aa.out).2.2 a3 a4 a5
        cases ab
        replace a4:=eq_true a4;replace a5:=eq_true a5
        go_wp2_with (first|((with_reducible refine gc 171 rfl ?_);refine gl (some 21) _ (#[.string (rdOf ByteArray.empty a2 a3),.bool a1]) Tryd.func171 ?_;(with_reducible refine (impl_goodPart.calls k1 (rdOf ByteArray.empty a2 a3) a1 false _ A12.out).mono ?_);rintro e w' ⟨rfl,⟨nd,rfl⟩⟩;refine ⟨_,rfl,?_⟩))
        go_ret
        exact ⟨Ye2,be HB.out⟩
      ·rw [if_neg a8] at H
       exact absurd H (by simp)
     ·rw [if_neg c10] at H
      exact absurd H (by simp)
    ·rw [if_neg c9] at H
     have ag:decide (a3<(a2.length:Int))=false:=decide_eq_false c9;clear c9;obtain rfl:=Option.some.inj H
     go_wp2
     go_ret
     exact ⟨Ye2,be HB.out⟩

end Go.Proofs.YtknagppkeodggaaDoor.P


namespace Go.Proofs.YtknagppkeodggaaDoor.P
open Go.RowKit Go.Proofs.YtknagppkeodggaaDoorW.PrintWords Go.Proofs.YtknagppkeodggaaDoorW.PrintLast Go.Proofs.YtknagppkeodggaaDoorW.PrintMore
attribute [local go_sem] max2_int min2_int max_two min_two max_three min_three max_four min_four
set_option linter.unusedVariables false
set_option linter.unusedSimpArgs false

def impl_ValidGlob.f (k:Nat) (a0:ByteArray):Option (Bool):=(impl_parts.f k a0 true).bind fun a1=>(some a1)
theorem impl_ValidGlob.mono:∀ a0 k,LeO (impl_ValidGlob.f k a0) (impl_ValidGlob.f (k+1) a0):=by
 intro a0 k
 unfold impl_ValidGlob.f
 repeat' first
   | (with_reducible exact impl_parts.mono _ _ _)
   | (with_reducible exact LeO.refl _)
   | (with_reducible exact LeO.none _)
   | (with_reducible refine LeO.ite ?_ ?_)
   | (with_reducible refine LeO.bind ?_ (fun _ => ?_))
   | exact impl_parts.mono _ _ _
   | exact LeO.none _
   | refine LeO.ite ?_ ?_
   | refine LeO.bind ?_ (fun _ => ?_)
set_option maxHeartbeats 8000000 in
set_option maxRecDepth 100000 in
theorem impl_ValidGlob.calls (k:Nat) (a0:ByteArray) (r:Bool) (w:World) (hg:GOK w) (h:impl_ValidGlob.f k a0=some r) :
  Calls Tryd.prog 80 #[.string a0] w fun e w'=>e = .returned (.bool r)∧Below w.heap.size w w':=by
 have HG:=Aside0.mk hg;clear hg;have HB:=Aside0.mk (Below.refl w.heap.size w);have H:((impl_parts.f k a0 true).bind fun a1=>(some a1))=some r:=h;clear h;replace H:=Option.bind_eq_some_iff.mp H;obtain ⟨a1,A20,H⟩:=H;replace H:(some a1)=some r:=H;have A2:=Aside0.mk A20;clear A20;obtain rfl:=Option.some.inj H
 go_enter Tryd.func80,Tryd.ntmps80
 go_wp2_with (first|((with_reducible refine gc 145 rfl ?_);refine gl (some 4) _ (#[.string a0,.bool true]) Tryd.func145 ?_;(with_reducible refine (impl_parts.calls k a0 true a1 _ ?sideG A2.out).mono ?_);(case sideG=>exact gk HG.out HB.out);rintro e w3 ⟨rfl,hb⟩;refine ⟨_,rfl,?_⟩;refine Ya1 (below_step (be HB.out) hb) ?_;clear HB;intro HB;(try clear hb);(try clear hb2);(try clear hk);(try clear hi)))
 go_ret
 exact ⟨Ye2,be HB.out⟩

end Go.Proofs.YtknagppkeodggaaDoor.P


namespace Go.Proofs.YtknagppkeodggaaDoor.P
open Go.RowKit Go.Proofs.YtknagppkeodggaaDoorW.PrintWords Go.Proofs.YtknagppkeodggaaDoorW.PrintLast Go.Proofs.YtknagppkeodggaaDoorW.PrintMore
attribute [local go_sem] max2_int min2_int max_two min_two max_three min_three max_four min_four
set_option linter.unusedVariables false
set_option linter.unusedSimpArgs false

def impl_ValidPath.f (k:Nat) (a0:ByteArray):Option (Bool):=(impl_parts.f k a0 false).bind fun a1=>(some a1)
theorem impl_ValidPath.mono:∀ a0 k,LeO (impl_ValidPath.f k a0) (impl_ValidPath.f (k+1) a0):=by
 intro a0 k
 unfold impl_ValidPath.f
 repeat' first
   | (with_reducible exact impl_parts.mono _ _ _)
   | (with_reducible exact LeO.refl _)
   | (with_reducible exact LeO.none _)
   | (with_reducible refine LeO.ite ?_ ?_)
   | (with_reducible refine LeO.bind ?_ (fun _ => ?_))
   | exact impl_parts.mono _ _ _
   | exact LeO.none _
   | refine LeO.ite ?_ ?_
   | refine LeO.bind ?_ (fun _ => ?_)
set_option maxHeartbeats 8000000 in
set_option maxRecDepth 100000 in
theorem impl_ValidPath.calls (k:Nat) (a0:ByteArray) (r:Bool) (w:World) (hg:GOK w) (h:impl_ValidPath.f k a0=some r) :
  Calls Tryd.prog 81 #[.string a0] w fun e w'=>e = .returned (.bool r)∧Below w.heap.size w w':=by
 have HG:=Aside0.mk hg;clear hg;have HB:=Aside0.mk (Below.refl w.heap.size w);have H:((impl_parts.f k a0 false).bind fun a1=>(some a1))=some r:=h;clear h;replace H:=Option.bind_eq_some_iff.mp H;obtain ⟨a1,A20,H⟩:=H;replace H:(some a1)=some r:=H;have A2:=Aside0.mk A20;clear A20;obtain rfl:=Option.some.inj H
 go_enter Tryd.func81,Tryd.ntmps81
 go_wp2_with (first|((with_reducible refine gc 145 rfl ?_);refine gl (some 4) _ (#[.string a0,.bool false]) Tryd.func145 ?_;(with_reducible refine (impl_parts.calls k a0 false a1 _ ?sideG A2.out).mono ?_);(case sideG=>exact gk HG.out HB.out);rintro e w3 ⟨rfl,hb⟩;refine ⟨_,rfl,?_⟩;refine Ya1 (below_step (be HB.out) hb) ?_;clear HB;intro HB;(try clear hb);(try clear hb2);(try clear hk);(try clear hi)))
 go_ret
 exact ⟨Ye2,be HB.out⟩

end Go.Proofs.YtknagppkeodggaaDoor.P


namespace Go.Proofs.YtknagppkeodggaaDoor.P
open Go.RowKit Go.Proofs.YtknagppkeodggaaDoorW.PrintWords Go.Proofs.YtknagppkeodggaaDoorW.PrintLast Go.Proofs.YtknagppkeodggaaDoorW.PrintMore
attribute [local go_sem] max2_int min2_int max_two min_two max_three min_three max_four min_four
set_option linter.unusedVariables false
set_option linter.unusedSimpArgs false

def impl_Match.f (k:Nat) (a0:ByteArray) (a1:ByteArray):Option (Bool):=(impl_ValidGlob.f k a0).bind fun a7=>(if a7=true then ((impl_ValidPath.f k a1).bind fun a5=>(if a5=true then ((strings_Split.f a0 (⟨#[47]⟩:ByteArray)).bind fun a4=>((strings_Split.f a1 (⟨#[47]⟩:ByteArray)).bind fun a3=>((impl_matchParts.f k a4 a3).bind fun a2=>(some a2)))) else (some false))) else (some false))
theorem impl_Match.mono:∀ a0 a1 k,LeO (impl_Match.f k a0 a1) (impl_Match.f (k+1) a0 a1):=by
 intro a0 a1 k
 unfold impl_Match.f
 repeat' first
   | (with_reducible exact impl_ValidGlob.mono _ _)
   | (with_reducible exact impl_ValidPath.mono _ _)
   | (with_reducible exact impl_matchParts.mono _ _ _)
   | (with_reducible exact LeO.refl _)
   | (with_reducible exact LeO.none _)
   | (with_reducible refine LeO.ite ?_ ?_)
   | (with_reducible refine LeO.bind ?_ (fun _ => ?_))
   | exact impl_ValidGlob.mono _ _
   | exact impl_ValidPath.mono _ _
   | exact impl_matchParts.mono _ _ _
   | exact LeO.none _
   | refine LeO.ite ?_ ?_
   | refine LeO.bind ?_ (fun _ => ?_)
set_option maxHeartbeats 8000000 in
set_option maxRecDepth 100000 in
theorem impl_Match.calls (k:Nat) (a0:ByteArray) (a1:ByteArray) (r:Bool) (w:World) (hg:GOK w) (h:impl_Match.f k a0 a1=some r) :
  Calls Tryd.prog 21 #[.string a0,.string a1] w fun e w'=>e = .returned (.bool r)∧Below w.heap.size w w':=by
 have HG:=Aside0.mk hg;clear hg;have HB:=Aside0.mk (Below.refl w.heap.size w);have H:((impl_ValidGlob.f k a0).bind fun a7=>(if a7=true then ((impl_ValidPath.f k a1).bind fun a5=>(if a5=true then ((strings_Split.f a0 (⟨#[47]⟩:ByteArray)).bind fun a4=>((strings_Split.f a1 (⟨#[47]⟩:ByteArray)).bind fun a3=>((impl_matchParts.f k a4 a3).bind fun a2=>(some a2)))) else (some false))) else (some false)))=some r:=h;clear h;replace H:=Option.bind_eq_some_iff.mp H;obtain ⟨a7,A30,H⟩:=H;replace H:(if a7=true then ((impl_ValidPath.f k a1).bind fun a5=>(if a5=true then ((strings_Split.f a0 (⟨#[47]⟩:ByteArray)).bind fun a4=>((strings_Split.f a1 (⟨#[47]⟩:ByteArray)).bind fun a3=>((impl_matchParts.f k a4 a3).bind fun a2=>(some a2)))) else (some false))) else (some false))=some r:=H;have A3:=Aside0.mk A30;clear A30
 by_cases c4:a7=true
 ·subst c4
  have H1:((impl_ValidPath.f k a1).bind fun a5=>(if a5=true then ((strings_Split.f a0 (⟨#[47]⟩:ByteArray)).bind fun a4=>((strings_Split.f a1 (⟨#[47]⟩:ByteArray)).bind fun a3=>((impl_matchParts.f k a4 a3).bind fun a2=>(some a2)))) else (some false)))=some r:=by rw [if_pos rfl] at H;exact H
  clear H;have H:=H1;clear H1;replace H:=Option.bind_eq_some_iff.mp H;obtain ⟨a5,A50,H⟩:=H;replace H:(if a5=true then ((strings_Split.f a0 (⟨#[47]⟩:ByteArray)).bind fun a4=>((strings_Split.f a1 (⟨#[47]⟩:ByteArray)).bind fun a3=>((impl_matchParts.f k a4 a3).bind fun a2=>(some a2)))) else (some false))=some r:=H;have A5:=Aside0.mk A50;clear A50
  by_cases c6:a5=true
  ·subst c6
   have H1:((strings_Split.f a0 (⟨#[47]⟩:ByteArray)).bind fun a4=>((strings_Split.f a1 (⟨#[47]⟩:ByteArray)).bind fun a3=>((impl_matchParts.f k a4 a3).bind fun a2=>(some a2))))=some r:=by rw [if_pos rfl] at H;exact H
   clear H;have H:=H1;clear H1;replace H:=Option.bind_eq_some_iff.mp H;obtain ⟨a4,A70,H⟩:=H;replace H:((strings_Split.f a1 (⟨#[47]⟩:ByteArray)).bind fun a3=>((impl_matchParts.f k a4 a3).bind fun a2=>(some a2)))=some r:=H;have A7:=Aside0.mk A70;clear A70;replace H:=Option.bind_eq_some_iff.mp H;obtain ⟨a3,A80,H⟩:=H;replace H:((impl_matchParts.f k a4 a3).bind fun a2=>(some a2))=some r:=H;have A8:=Aside0.mk A80;clear A80;replace H:=Option.bind_eq_some_iff.mp H;obtain ⟨a2,A90,H⟩:=H;replace H:(some a2)=some r:=H;have A9:=Aside0.mk A90;clear A90;obtain rfl:=Option.some.inj H
   go_enter Tryd.func21,Tryd.ntmps21
   go_wp2_with (first|((with_reducible refine gc 80 rfl ?_);refine gl (some 6) _ (#[.string a0]) Tryd.func80 ?_;(with_reducible refine (impl_ValidGlob.calls k a0 true _ ?sideG A3.out).mono ?_);(case sideG=>exact gk HG.out HB.out);rintro e w10 ⟨rfl,hb⟩;refine ⟨_,rfl,?_⟩;refine Ya1 (below_step (be HB.out) hb) ?_;clear HB;intro HB;(try clear hb);(try clear hb2);(try clear hk);(try clear hi))|(go_at_call 81;(with_reducible refine (impl_ValidPath.calls k a1 true _ ?sideG A5.out).mono ?_);(case sideG=>exact gk HG.out HB.out);rintro e w11 ⟨rfl,hb⟩;refine Ya1 (below_step (be HB.out) hb) ?_;clear HB;intro HB;(try clear hb);(try clear hb2);(try clear hk);(try clear hi))|(go_at_call 83;(with_reducible refine (strings_Split.calls a0 (⟨#[47]⟩:ByteArray) a4 _ ?sideG A7.out).mono ?_);(case sideG=>exact gk HG.out HB.out);rintro e w12 ⟨v530,rfl,ho0,hb⟩;refine Ya2 (Kd.R_lower ho0 (below_size (be HB.out))) (below_step (be HB.out) hb) ?_;clear HB;intro a6 HB;(try clear hb);(try clear hb2);(try clear hk);(try clear hi);(try clear ho0))|(go_at_call 83;(with_reducible refine (strings_Split.calls a1 (⟨#[47]⟩:ByteArray) a3 _ ?sideG A8.out).mono ?_);(case sideG=>exact gk HG.out HB.out);rintro e w13 ⟨v533,rfl,ho0,hb⟩;refine Ya3 (Kd.R_elder' (kr a6.out) (Kd.R_base ho0) hb) (Kd.R_lower (Kd.R_new' ho0 (Kd.R_lt (kr a6.out))) (below_size (be HB.out))) (below_step (be HB.out) hb) ?_;clear a6 HB;intro a6 a8 HB;(try clear hb);(try clear hb2);(try clear hk);(try clear hi);(try clear ho0);obtain ⟨Ao14,co14,a9⟩:=Kd.R_slice a6.out;subst a9;obtain ⟨Ao15,co15,aa⟩:=Kd.R_slice a8.out;subst aa)|(go_at_call 82;(with_reducible refine (impl_matchParts.calls k _ _ a4 _ _ a3 a2 _ ?side1 ?side2 ?side3 ?side4 A9.out).mono ?_);(case side1=>repeat (first|exact (Kd.R_reads' a6.out).2.2|(with_reducible refine Kd.C_alloc ?_ _)|(with_reducible refine Kd.C_drewN ?_ _)|(with_reducible refine Kd.C_drew ?_)));(case side2=>exact (Kd.R_reads' a6.out).2.1);(case side3=>repeat (first|exact (Kd.R_reads' a8.out).2.2|(with_reducible refine Kd.C_alloc ?_ _)|(with_reducible refine Kd.C_drewN ?_ _)|(with_reducible refine Kd.C_drew ?_)));(case side4=>exact (Kd.R_reads' a8.out).2.1);rintro e w16 ⟨rfl,hb⟩;refine Ya3 (Kd.R_below (kr a6.out) hb) (Kd.R_below (kr a8.out) hb) (below_step (be HB.out) hb) ?_;clear a6 a8 HB;intro a6 a8 HB;(try clear hb);(try clear hb2);(try clear hk);(try clear hi)))
   go_ret
   exact ⟨Ye2,be HB.out⟩
  ·replace c6:=Bool.eq_false_iff.mpr c6;subst c6
   have H1:(some false)=some r:=by rw [if_neg (show ¬(false=true) by decide)] at H;exact H
   clear H;have H:=H1;clear H1;obtain rfl:=Option.some.inj H
   go_enter Tryd.func21,Tryd.ntmps21
   go_wp2_with (first|((with_reducible refine gc 80 rfl ?_);refine gl (some 6) _ (#[.string a0]) Tryd.func80 ?_;(with_reducible refine (impl_ValidGlob.calls k a0 true _ ?sideG A3.out).mono ?_);(case sideG=>exact gk HG.out HB.out);rintro e w17 ⟨rfl,hb⟩;refine ⟨_,rfl,?_⟩;refine Ya1 (below_step (be HB.out) hb) ?_;clear HB;intro HB;(try clear hb);(try clear hb2);(try clear hk);(try clear hi))|(go_at_call 81;(with_reducible refine (impl_ValidPath.calls k a1 false _ ?sideG A5.out).mono ?_);(case sideG=>exact gk HG.out HB.out);rintro e w18 ⟨rfl,hb⟩;refine Ya1 (below_step (be HB.out) hb) ?_;clear HB;intro HB;(try clear hb);(try clear hb2);(try clear hk);(try clear hi)))
   go_ret
   exact ⟨Ye2,be HB.out⟩
 ·replace c4:=Bool.eq_false_iff.mpr c4;subst c4
  have H1:(some false)=some r:=by rw [if_neg (show ¬(false=true) by decide)] at H;exact H
  clear H;have H:=H1;clear H1;obtain rfl:=Option.some.inj H
  go_enter Tryd.func21,Tryd.ntmps21
  go_wp2_with (first|((with_reducible refine gc 80 rfl ?_);refine gl (some 6) _ (#[.string a0]) Tryd.func80 ?_;(with_reducible refine (impl_ValidGlob.calls k a0 false _ ?sideG A3.out).mono ?_);(case sideG=>exact gk HG.out HB.out);rintro e w19 ⟨rfl,hb⟩;refine ⟨_,rfl,?_⟩;refine Ya1 (below_step (be HB.out) hb) ?_;clear HB;intro HB;(try clear hb);(try clear hb2);(try clear hk);(try clear hi)))
  go_ret
  exact ⟨Ye2,be HB.out⟩


end Go.Proofs.YtknagppkeodggaaDoor.P


namespace Go.Proofs.YtknagppkeodggaaDoor.P
open Go.RowKit Go.Proofs.YtknagppkeodggaaDoorW.PrintWords Go.Proofs.YtknagppkeodggaaDoorW.PrintLast Go.Proofs.YtknagppkeodggaaDoorW.PrintMore
attribute [local go_sem] max2_int min2_int max_two min_two max_three min_three max_four min_four
set_option linter.unusedVariables false
set_option linter.unusedSimpArgs false

def impl_goodEntry.f (k:Nat) (a0_0:ByteArray) (a0_1:ByteArray) (a0_2:Bool):Option (Bool):=(impl_ValidPath.f k a0_0).bind fun a4=>(if a4=true then (some (decide ((a0_1.size:Int)≤1500))) else (some false))
theorem impl_goodEntry.mono:∀ a0 a1 a2 k,LeO (impl_goodEntry.f k a0 a1 a2) (impl_goodEntry.f (k+1) a0 a1 a2):=by
 intro a0 a1 a2 k
 unfold impl_goodEntry.f
 repeat' first
   | (with_reducible exact impl_ValidPath.mono _ _)
   | (with_reducible exact LeO.refl _)
   | (with_reducible exact LeO.none _)
   | (with_reducible refine LeO.ite ?_ ?_)
   | (with_reducible refine LeO.bind ?_ (fun _ => ?_))
   | exact impl_ValidPath.mono _ _
   | exact LeO.none _
   | refine LeO.ite ?_ ?_
   | refine LeO.bind ?_ (fun _ => ?_)
set_option maxHeartbeats 8000000 in
set_option maxRecDepth 100000 in
theorem impl_goodEntry.calls (k:Nat) (a0_0:ByteArray) (a0_1:ByteArray) (a0_2:Bool) (r:Bool) (w:World) (hg:GOK w) (h:impl_goodEntry.f k a0_0 a0_1 a0_2=some r) :
  Calls Tryd.prog 69 #[.agg #[.string a0_0,.string a0_1,.bool a0_2]] w fun e w'=>e = .returned (.bool r)∧Below w.heap.size w w':=by
 have HG:=Aside0.mk hg;clear hg;have hu27:=Tryd.underlying27;have HB:=Aside0.mk (Below.refl w.heap.size w);have H:((impl_ValidPath.f k a0_0).bind fun a4=>(if a4=true then (some (decide ((a0_1.size:Int)≤1500))) else (some false)))=some r:=h;clear h;replace H:=Option.bind_eq_some_iff.mp H;obtain ⟨a4,A20,H⟩:=H;replace H:(if a4=true then (some (decide ((a0_1.size:Int)≤1500))) else (some false))=some r:=H;have A2:=Aside0.mk A20;clear A20
 by_cases c3:a4=true
 ·subst c3
  have H1:(some (decide ((a0_1.size:Int)≤1500)))=some r:=by rw [if_pos rfl] at H;exact H
  clear H;have H:=H1;clear H1;obtain rfl:=Option.some.inj H
  go_enter Tryd.func69,Tryd.ntmps69
  go_wp2_with (first|((with_reducible refine gd 1 rfl ?_);(try (refine gate_guard (by rfl) ?_;dsimp only));refine bx 1 27 (#[.string a0_0,.string a0_1,.bool a0_2]) ?_;intro a5 hg w4 hbox hb;refine Ya4 (below_step (be HB.out) hb) (hbox) (bs hg (be HB.out)) (bs hg (be HB.out)) ?_;clear HB;intro HB a3 a6 a7;clear hb hbox hg;have ⟨a8,a9,aa,ab,ac,ad⟩:=Yc3 a3.out)|((with_reducible refine gc 81 rfl ?_);refine gl (some 5) _ (#[.string a0_0]) Tryd.func81 ?_;(with_reducible refine (impl_ValidPath.calls k a0_0 true _ ?sideG A2.out).mono ?_);(case sideG=>exact gf HG.out HB.out);rintro e w6 ⟨rfl,hb⟩;refine ⟨_,rfl,?_⟩;refine Ya2 (bb a3 hb) (below_step (bf HB.out) hb) ?_;clear a3 HB;intro a3 HB;(try clear hb);(try clear hb2);(try clear hk);(try clear hi);have ⟨ae,af,ag,ah,ai,aj⟩:=Yc3 a3.out))
  go_ret
  exact ⟨Ye2,(bf HB.out)⟩
 ·replace c3:=Bool.eq_false_iff.mpr c3;subst c3
  have H1:(some false)=some r:=by rw [if_neg (show ¬(false=true) by decide)] at H;exact H
  clear H;have H:=H1;clear H1;obtain rfl:=Option.some.inj H
  go_enter Tryd.func69,Tryd.ntmps69
  go_wp2_with (first|((with_reducible refine gd 1 rfl ?_);(try (refine gate_guard (by rfl) ?_;dsimp only));refine bx 1 27 (#[.string a0_0,.string a0_1,.bool a0_2]) ?_;intro a5 hg w8 hbox hb;refine Ya4 (below_step (be HB.out) hb) (hbox) (bs hg (be HB.out)) (bs hg (be HB.out)) ?_;clear HB;intro HB a3 a6 a7;clear hb hbox hg;have ⟨ak,al,am,an,ao,ap⟩:=Yc3 a3.out)|((with_reducible refine gc 81 rfl ?_);refine gl (some 5) _ (#[.string a0_0]) Tryd.func81 ?_;(with_reducible refine (impl_ValidPath.calls k a0_0 false _ ?sideG A2.out).mono ?_);(case sideG=>exact gf HG.out HB.out);rintro e w10 ⟨rfl,hb⟩;refine ⟨_,rfl,?_⟩;refine Ya2 (bb a3 hb) (below_step (bf HB.out) hb) ?_;clear a3 HB;intro a3 HB;(try clear hb);(try clear hb2);(try clear hk);(try clear hi)))
  go_ret
  exact ⟨Ye2,(bf HB.out)⟩

end Go.Proofs.YtknagppkeodggaaDoor.P


namespace Go.Proofs.YtknagppkeodggaaDoor.P
open Go.RowKit Go.Proofs.YtknagppkeodggaaDoorW.PrintWords Go.Proofs.YtknagppkeodggaaDoorW.PrintLast Go.Proofs.YtknagppkeodggaaDoorW.PrintMore
attribute [local go_sem] max2_int min2_int max_two min_two max_three min_three max_four min_four
set_option linter.unusedVariables false
set_option linter.unusedSimpArgs false

def stringslite_HasPrefix.f (a0:ByteArray) (a1:ByteArray):Option (Bool):=if (a0.size:Int) ≥ (a1.size:Int) then (if 0≤(a1.size:Int) then (if (a1.size:Int)≤(a0.size:Int) then (some ((a0.extract 0 ((a1.size:Int):Int).toNat).toList==a1.toList)) else (none)) else (none)) else (some false)
set_option maxHeartbeats 8000000 in
set_option maxRecDepth 100000 in
theorem stringslite_HasPrefix.calls (a0:ByteArray) (a1:ByteArray) (r:Bool) (w:World) (h:stringslite_HasPrefix.f a0 a1=some r) :
  Calls Tryd.prog 174 #[.string a0,.string a1] w fun e w'=>e = .returned (.bool r)∧Drawn0 w w':=by
 have H:(if (a0.size:Int) ≥ (a1.size:Int) then (if 0≤(a1.size:Int) then (if (a1.size:Int)≤(a0.size:Int) then (some ((a0.extract 0 ((a1.size:Int):Int).toNat).toList==a1.toList)) else (none)) else (none)) else (some false))=some r:=h;clear h
 by_cases c3:(a0.size:Int) ≥ (a1.size:Int)
 ·rw [if_pos c3] at H
  have a2:decide ((a1.size:Int)≤(a0.size:Int))=true:=decide_eq_true c3;have a3:decide (a1.size≤a0.size)=true:=decide_eq_true (Int.ofNat_le.mp c3);clear c3
  by_cases c4:0≤(a1.size:Int)
  ·rw [if_pos c4] at H
   have c4b0:=eq_true c4;have c4b1:decide (0≤(a1.size:Int))=true:=decide_eq_true c4;clear c4
   by_cases c5:(a1.size:Int)≤(a0.size:Int)
   ·rw [if_pos c5] at H
    have c5b0:=eq_true c5;have c5b1:decide ((a1.size:Int)≤(a0.size:Int))=true:=decide_eq_true c5;clear c5;obtain rfl:=Option.some.inj H
    go_enter Tryd.func174,Tryd.ntmps174
    go_wp2
    go_ret
    exact ⟨Ye1,dz⟩
   ·rw [if_neg c5] at H
    exact absurd H (by simp)
  ·rw [if_neg c4] at H
   exact absurd H (by simp)
 ·rw [if_neg c3] at H
  have a2:decide ((a1.size:Int)≤(a0.size:Int))=false:=decide_eq_false c3;have a3:decide (a1.size≤a0.size)=false:=decide_eq_false (fun h=>c3 (Int.ofNat_le.mpr h));clear c3;obtain rfl:=Option.some.inj H
  go_enter Tryd.func174,Tryd.ntmps174
  go_wp2
  go_ret
  exact ⟨Ye1,dz⟩

end Go.Proofs.YtknagppkeodggaaDoor.P


namespace Go.Proofs.YtknagppkeodggaaDoor.P
open Go.RowKit Go.Proofs.YtknagppkeodggaaDoorW.PrintWords Go.Proofs.YtknagppkeodggaaDoorW.PrintLast Go.Proofs.YtknagppkeodggaaDoorW.PrintMore
attribute [local go_sem] max2_int min2_int max_two min_two max_three min_three max_four min_four
set_option linter.unusedVariables false
set_option linter.unusedSimpArgs false

def strings_HasPrefix.f (a0:ByteArray) (a1:ByteArray):Option (Bool):=(stringslite_HasPrefix.f a0 a1).bind fun a2=>(some a2)
set_option maxHeartbeats 8000000 in
set_option maxRecDepth 100000 in
theorem strings_HasPrefix.calls (a0:ByteArray) (a1:ByteArray) (r:Bool) (w:World) (h:strings_HasPrefix.f a0 a1=some r) :
  Calls Tryd.prog 139 #[.string a0,.string a1] w fun e w'=>e = .returned (.bool r)∧Drawn0 w w':=by
 have H:((stringslite_HasPrefix.f a0 a1).bind fun a2=>(some a2))=some r:=h;clear h;replace H:=Option.bind_eq_some_iff.mp H;obtain ⟨a2,A30,H⟩:=H;replace H:(some a2)=some r:=H;have A3:=Aside0.mk A30;clear A30;obtain rfl:=Option.some.inj H
 go_enter Tryd.func139,Tryd.ntmps139
 go_wp2_with (first|((with_reducible refine gc 174 rfl ?_);refine gl (some 7) _ (#[.string a0,.string a1]) Tryd.func174 ?_;(with_reducible refine (stringslite_HasPrefix.calls a0 a1 a2 _ A3.out).mono ?_);rintro e w' ⟨rfl,⟨nd,rfl⟩⟩;refine ⟨_,rfl,?_⟩))
 go_ret
 exact ⟨Ye1,dz⟩

end Go.Proofs.YtknagppkeodggaaDoor.P


namespace Go.Proofs.YtknagppkeodggaaDoor.P
open Go.RowKit Go.Proofs.YtknagppkeodggaaDoorW.PrintWords Go.Proofs.YtknagppkeodggaaDoorW.PrintLast Go.Proofs.YtknagppkeodggaaDoorW.PrintMore
attribute [local go_sem] max2_int min2_int max_two min_two max_three min_three max_four min_four
set_option linter.unusedVariables false
set_option linter.unusedSimpArgs false

def impl_over.f (a0:ByteArray) (a1:ByteArray):Option (Bool):=if a0.size+1≤9223372036854775807 then ((strings_HasPrefix.f a1 (a0++(⟨#[47]⟩:ByteArray))).bind fun a2=>(some a2)) else (none)
set_option maxHeartbeats 8000000 in
set_option maxRecDepth 100000 in
theorem impl_over.calls (a0:ByteArray) (a1:ByteArray) (r:Bool) (w:World) (h:impl_over.f a0 a1=some r) :
  Calls Tryd.prog 70 #[.string a0,.string a1] w fun e w'=>e = .returned (.bool r)∧Drawn0 w w':=by
 have H:(if a0.size+1≤9223372036854775807 then ((strings_HasPrefix.f a1 (a0++(⟨#[47]⟩:ByteArray))).bind fun a2=>(some a2)) else (none))=some r:=h;clear h
 by_cases c3:a0.size+1≤9223372036854775807
 ·rw [if_pos c3] at H
  have c3b0:=eq_true c3;have c3b1:decide (a0.size+1≤9223372036854775807)=true:=decide_eq_true c3
  try have c3b2:(9223372036854775807<a0.size+1)=False:=eq_false (Nat.not_lt.2 c3)
  replace H:=Option.bind_eq_some_iff.mp H;obtain ⟨a2,A40,H⟩:=H;replace H:(some a2)=some r:=H;have A4:=Aside0.mk A40;clear A40;obtain rfl:=Option.some.inj H
  go_enter Tryd.func70,Tryd.ntmps70
  go_wp2_with (first|((with_reducible refine gc 139 rfl ?_);refine gl (some 8) _ (#[.string a1,.string (a0++(⟨#[47]⟩:ByteArray))]) Tryd.func139 ?_;(with_reducible refine (strings_HasPrefix.calls a1 (a0++(⟨#[47]⟩:ByteArray)) a2 _ A4.out).mono ?_);rintro e w' ⟨rfl,⟨nd,rfl⟩⟩;refine ⟨_,rfl,?_⟩))
  go_ret
  exact ⟨Ye1,dz⟩
 ·rw [if_neg c3] at H
  exact absurd H (by simp)


end Go.Proofs.YtknagppkeodggaaDoor.P


namespace Go.Proofs.YtknagppkeodggaaDoor.P
open Go.RowKit Go.Proofs.YtknagppkeodggaaDoorW.PrintWords Go.Proofs.YtknagppkeodggaaDoorW.PrintLast Go.Proofs.YtknagppkeodggaaDoorW.PrintMore
attribute [local go_sem] max2_int min2_int max_two min_two max_three min_three max_four min_four
set_option linter.unusedVariables false
set_option linter.unusedSimpArgs false

mutual
def impl_ValidTree.l0:Nat→List (S27)→Int→Int→List (S27)→Option (Bool)
 | 0,_,_,_,_=>none
 | k+1,x11,x12,x13,aa=>if x13<x12 then (if 0≤x13 then (if x13<(x11.length:Int) then ((impl_goodEntry.f k ((rd_T27 x11 x13).f0) ((rd_T27 x11 x13).f1) ((rd_T27 x11 x13).f2)).bind fun aD=>(if aD=true then (if x13>0 then (if 0≤(wrap64 (x13 - 1)) then (if (wrap64 (x13 - 1))<(aa.length:Int) then (impl_ValidTree.j1 k x13 x11 x12 x13 (!(Op.bytesLess (((rd_T27 aa (wrap64 (x13 - 1))).f0).toList) (((rd_T27 x11 x13).f0).toList))) aa ((rd_T27 x11 x13).f0) ((rd_T27 x11 x13).f1) ((rd_T27 x11 x13).f2)) else (none)) else (none)) else (impl_ValidTree.j1 k x13 x11 x12 x13 false aa ((rd_T27 x11 x13).f0) ((rd_T27 x11 x13).f1) ((rd_T27 x11 x13).f2))) else (impl_ValidTree.j1 k x13 x11 x12 x13 true aa ((rd_T27 x11 x13).f0) ((rd_T27 x11 x13).f1) ((rd_T27 x11 x13).f2)))) else (none)) else (none)) else (some true)
def impl_ValidTree.j1:Nat→Int→List (S27)→Int→Int→Bool→List (S27)→ByteArray→ByteArray→Bool→Option (Bool)
 | 0,_,_,_,_,_,_,_,_,_=>none
 | k+1,x3,x11,x12,x13,x36,aa,aE,aN,aO=>if x36=true then (some false) else (impl_ValidTree.l1 k x3 0 x11 x12 x13 aa aE aN aO)
def impl_ValidTree.l1:Nat→Int→Int→List (S27)→Int→Int→List (S27)→ByteArray→ByteArray→Bool→Option (Bool)
 | 0,_,_,_,_,_,_,_,_,_=>none
 | k+1,x3,x5,x11,x12,x13,aa,aE,aN,aO=>if x5<x3 then (if 0≤x5 then (if x5<(aa.length:Int) then ((impl_over.f ((rd_T27 aa x5).f0) aE).bind fun aF=>(if aF=true then (some false) else (impl_ValidTree.l1 k x3 (wrap64 (x5+1)) x11 x12 x13 aa aE aN aO))) else (none)) else (none)) else (impl_ValidTree.l0 k x11 x12 (wrap64 (x13+1)) aa)
end
def impl_ValidTree.f (k:Nat) (a1:List (S27)):Option (Bool):=if (a1.length:Int)>100 then (some false) else (impl_ValidTree.l0 k a1 (a1.length:Int) 0 a1)
theorem impl_ValidTree.mono_l:∀ k,(∀ y0 y1 y2 y3,LeO (impl_ValidTree.l0 k y0 y1 y2 y3) (impl_ValidTree.l0 (k+1) y0 y1 y2 y3))∧(∀ y0 y1 y2 y3 y4 y5 y6 y7 y8,LeO (impl_ValidTree.j1 k y0 y1 y2 y3 y4 y5 y6 y7 y8) (impl_ValidTree.j1 (k+1) y0 y1 y2 y3 y4 y5 y6 y7 y8))∧(∀ y0 y1 y2 y3 y4 y5 y6 y7 y8,LeO (impl_ValidTree.l1 k y0 y1 y2 y3 y4 y5 y6 y7 y8) (impl_ValidTree.l1 (k+1) y0 y1 y2 y3 y4 y5 y6 y7 y8))
 | 0=>⟨fun _ _ _ _ r h=>by simp [impl_ValidTree.l0] at h,fun _ _ _ _ _ _ _ _ _ r h=>by simp [impl_ValidTree.j1] at h,fun _ _ _ _ _ _ _ _ _ r h=>by simp [impl_ValidTree.l1] at h⟩
 | k + 1 => by
  obtain ⟨ih0,ih1,ih2⟩:=impl_ValidTree.mono_l k;refine ⟨?_,?_,?_⟩
  ·intro y0 y1 y2 y3
   unfold impl_ValidTree.l0
   repeat' first
   | (with_reducible exact ih0 _ _ _ _)
   | (with_reducible exact ih1 _ _ _ _ _ _ _ _ _)
   | (with_reducible exact ih2 _ _ _ _ _ _ _ _ _)
   | (with_reducible exact impl_goodEntry.mono _ _ _ _)
   | (with_reducible exact LeO.refl _)
   | (with_reducible exact LeO.none _)
   | (with_reducible refine LeO.ite ?_ ?_)
   | (with_reducible refine LeO.bind ?_ (fun _ => ?_))
   | exact ih0 _ _ _ _
   | exact ih1 _ _ _ _ _ _ _ _ _
   | exact ih2 _ _ _ _ _ _ _ _ _
   | exact impl_goodEntry.mono _ _ _ _
   | exact LeO.none _
   | refine LeO.ite ?_ ?_
   | refine LeO.bind ?_ (fun _ => ?_)
  ·intro y0 y1 y2 y3 y4 y5 y6 y7 y8
   unfold impl_ValidTree.j1
   repeat' first
   | (with_reducible exact ih0 _ _ _ _)
   | (with_reducible exact ih1 _ _ _ _ _ _ _ _ _)
   | (with_reducible exact ih2 _ _ _ _ _ _ _ _ _)
   | (with_reducible exact impl_goodEntry.mono _ _ _ _)
   | (with_reducible exact LeO.refl _)
   | (with_reducible exact LeO.none _)
   | (with_reducible refine LeO.ite ?_ ?_)
   | (with_reducible refine LeO.bind ?_ (fun _ => ?_))
   | exact ih0 _ _ _ _
   | exact ih1 _ _ _ _ _ _ _ _ _
   | exact ih2 _ _ _ _ _ _ _ _ _
   | exact impl_goodEntry.mono _ _ _ _
   | exact LeO.none _
   | refine LeO.ite ?_ ?_
   | refine LeO.bind ?_ (fun _ => ?_)
  ·intro y0 y1 y2 y3 y4 y5 y6 y7 y8
   unfold impl_ValidTree.l1
   repeat' first
   | (with_reducible exact ih0 _ _ _ _)
   | (with_reducible exact ih1 _ _ _ _ _ _ _ _ _)
   | (with_reducible exact ih2 _ _ _ _ _ _ _ _ _)
   | (with_reducible exact impl_goodEntry.mono _ _ _ _)
   | (with_reducible exact LeO.refl _)
   | (with_reducible exact LeO.none _)
   | (with_reducible refine LeO.ite ?_ ?_)
   | (with_reducible refine LeO.bind ?_ (fun _ => ?_))
   | exact ih0 _ _ _ _
   | exact ih1 _ _ _ _ _ _ _ _ _
   | exact ih2 _ _ _ _ _ _ _ _ _
   | exact impl_goodEntry.mono _ _ _ _
   | exact LeO.none _
   | refine LeO.ite ?_ ?_
   | refine LeO.bind ?_ (fun _ => ?_)
theorem impl_ValidTree.mono:∀ a0 k,LeO (impl_ValidTree.f k a0) (impl_ValidTree.f (k+1) a0):=by
 intro a0 k;obtain ⟨ih0,ih1,ih2⟩:=impl_ValidTree.mono_l k
 unfold impl_ValidTree.f
 repeat' first
   | (with_reducible exact ih0 _ _ _ _)
   | (with_reducible exact ih1 _ _ _ _ _ _ _ _ _)
   | (with_reducible exact ih2 _ _ _ _ _ _ _ _ _)
   | (with_reducible exact impl_goodEntry.mono _ _ _ _)
   | (with_reducible exact LeO.refl _)
   | (with_reducible exact LeO.none _)
   | (with_reducible refine LeO.ite ?_ ?_)
   | (with_reducible refine LeO.bind ?_ (fun _ => ?_))
   | exact ih0 _ _ _ _
   | exact ih1 _ _ _ _ _ _ _ _ _
   | exact ih2 _ _ _ _ _ _ _ _ _
   | exact impl_goodEntry.mono _ _ _ _
   | exact LeO.none _
   | refine LeO.ite ?_ ?_
   | refine LeO.bind ?_ (fun _ => ?_)
def impl_ValidTree.T6:Bool×List (List Nat×List Nat):=(true,[([],[]),([0],[0]),([1],[1]),([2,1],[2]),([3],[3]),([4,3],[3,4]),([5,3,3],[3,5]),([6],[6]),([7,6],[6,7]),([6],[6]),([9,6],[6,9]),([8,10,6],[6,8,10]),([11,6],[6,11]),([12,6],[6,12]),([6],[6]),([14,6],[6,14]),([13,15,6],[6,13,15]),([6,16,3],[3,6,16]),([3,17],[3,17])])
def impl_ValidTree.B6:List Nat:=[0,1,3,7,15,31,63,127,255,127,639,2047,4095,8191,127,16511,65535,131071,262143]
theorem impl_ValidTree.tab6:rtab .any (opsOf Tryd.f18 6)=impl_ValidTree.T6:=by kernel_rfl
theorem impl_ValidTree.bits6:waitsOk impl_ValidTree.T6.2 impl_ValidTree.B6=true:=by kernel_rfl
def impl_ValidTree.T11:Bool×List (List Nat×List Nat):=(true,[([],[]),([0],[0]),([],[]),([1,2],[1,2]),([3],[3]),([4],[4]),([],[]),([6],[6]),([5,7],[5,7])])
def impl_ValidTree.B11:List Nat:=[0,1,0,7,15,31,0,64,255]
theorem impl_ValidTree.tab11:rtab .any (opsOf Tryd.f18 11)=impl_ValidTree.T11:=by kernel_rfl
theorem impl_ValidTree.bits11:waitsOk impl_ValidTree.T11.2 impl_ValidTree.B11=true:=by kernel_rfl
set_option maxHeartbeats 8000000 in
set_option maxRecDepth 100000 in
theorem impl_ValidTree.calls (k : Nat) (ax : Option Addr) (a9 : Nat) (a1 : List (S27)) (r : Bool) (w : World) (hg : GOK w) (aY : Kd.C k27 w ax a1.length a1) (aZ : a1.length ≤ a9) (h : impl_ValidTree.f k a1 = some r) :
  Calls Tryd.prog 18 #[.agg #[.slice ax a1.length a9]] w fun e w'=>e = .returned (.bool r)∧Below w.heap.size w w':=by
 have HG:=Aside0.mk hg;clear hg;have hu25:=Tryd.underlying25;have hu27:=Tryd.underlying27;have aG:=Aside0.mk aY;have HC0_0:=Aside0.mk aZ;clear aY aZ;have HB:=Aside0.mk (Below.refl w.heap.size w);have H:(if (a1.length:Int)>100 then (some false) else (impl_ValidTree.l0 k a1 (a1.length:Int) 0 a1))=some r:=h;clear h
 by_cases c2:(a1.length:Int)>100
 ·rw [if_pos c2] at H
  have b0:decide (100<(a1.length:Int))=true:=decide_eq_true c2;have b1:decide (100<a1.length)=true:=decide_eq_true (by omega);clear c2;obtain rfl:=Option.some.inj H
  go_enter Tryd.func18,Tryd.ntmps18
  go_wp2_with (first|((with_reducible refine gd 1 rfl ?_);refine bx 1 25 (#[.slice ax a1.length a9]) ?_;intro af hg w3 hbox hb;refine Ya4 (below_step (be HB.out) hb) (hbox) (bs hg (be HB.out)) (bs hg (be HB.out)) ?_;clear HB;intro HB a4 bn bo;clear hb hbox hg;have ⟨aP,aQ⟩:=Yc1 a4.out))
  go_ret
  exact ⟨Ye2,(bf HB.out)⟩
 ·rw [if_neg c2] at H
  have b0:decide (100<(a1.length:Int))=false:=decide_eq_false c2;have b1:decide (100<a1.length)=false:=decide_eq_false (by omega);clear c2;have H':=Aside0.mk H;clear H
  go_enter Tryd.func18,Tryd.ntmps18
  go_wp2_with (first|((with_reducible refine gd 1 rfl ?_);refine bx 1 25 (#[.slice ax a1.length a9]) ?_;intro af hg w5 hbox hb;refine Ya4 (below_step (be HB.out) hb) (hbox) (bs hg (be HB.out)) (bs hg (be HB.out)) ?_;clear HB;intro HB a4 bn bo;clear hb hbox hg;have ⟨aR,aS⟩:=Yc1 a4.out))
  go_loopg [13] k (fun kq v13 w' => ∃ (a2:Int),v13 = .int .i64 a2∧Aside0 (impl_ValidTree.l0 kq a1 (a1.length:Int) a2 a1=some r)∧Aside0 (kq≤k)∧Aside0 (w'.heap[af]? = some (.cells #[(.slice ax a1.length a9)] 25 (0,0)))∧Aside0 (Below w.heap.size w w'))
  case atStart=>exact ⟨(0),Ye1,H',⟨Nat.le_refl _⟩,⟨bk a4.out⟩,⟨bf HB.out⟩⟩
  case round =>
   clear H';(try clear c1);(try clear c2);(try clear b0);(try clear b1);(try clear p2);(try clear aP);(try clear aR);(try clear aQ);(try clear aS);obtain ⟨a2,rfl,HA,HK1,a4,HB⟩:=hrel
   cases gk with
   | zero=>exact absurd HA.out (by simp [impl_ValidTree.l0])
   | succ k1 =>
    have H:=HA.out;clear HA;simp only [impl_ValidTree.l0] at H
    by_cases c7:a2<(a1.length:Int)
    ·rw [if_pos c7] at H
     have aT:decide (a2<(a1.length:Int))=true:=decide_eq_true c7;clear c7
     by_cases c8:0≤a2
     ·rw [if_pos c8] at H
      have b2:decide (0≤a2)=true:=decide_eq_true c8;clear c8
      by_cases c9:a2<(a1.length:Int)
      ·rw [if_pos c9] at H
       have b3:decide (a2<(a1.length:Int))=true:=decide_eq_true c9;clear c9;have aU:=Aside0.mk H;clear H;have ay:0≤(a2:Int):=oda;have az:a2<(a1.length:Int):=oda;obtain ⟨a7,bq,b4,b5,b6⟩:=at_T27 (Kd.C_below aG.out HB.out) a2 ay az
       cases bq
       replace ay:=eq_true ay;replace az:=eq_true az
       go_upto_region 6 with (first|((with_reducible refine gd 4 rfl ?_);refine bx 4 27 (#[.string (⟨#[]⟩:ByteArray),.string (⟨#[]⟩:ByteArray),.bool false]) ?_;intro a5 hg ab hbox hb;refine Ya7 (bb a4 hb) (below_step (bf HB.out) hb) (hbox) (bs hg (bf HB.out)) (bs hg (bf HB.out)) (bl hg a4) (br hg a4) ?_;clear a4 HB;intro a4 HB a3 GW341 GE341 aH bu;clear hb hbox hg;have hnb12:=bu.out;have hnc12:=aH.out;have ⟨b7,b8,b9,ba,bd,bg⟩:=Yc3 a3.out))
       (try simp only [Act.put,List.setIfInBounds_toArray,List.set_cons_zero,List.set_cons_succ])
       go_cut [36] (fun v36 wc => ∃ (kq:Nat) (aI:Bool),v36 = .bool aI∧Aside0 (impl_ValidTree.j1 kq a2 a1 (a1.length:Int) a2 aI a1 ((rd_T27 a1 a2).f0) ((rd_T27 a1 a2).f1) ((rd_T27 a1 a2).f2)=some r)∧Aside0 (kq≤k1)∧Aside0 (wc.heap[af]? = some (.cells #[(.slice (some a7) a1.length a9)] 25 (0,0)))∧Aside0 (wc.heap[a5]? = some (.cells #[.string ((rd_T27 a1 a2).f0),.string ((rd_T27 a1 a2).f1),.bool ((rd_T27 a1 a2).f2)] 27 (0,0)))∧Aside0 (Below w.heap.size w wc))
       case first =>
        have H:=aU.out;clear aU;replace H:=Option.bind_eq_some_iff.mp H;obtain ⟨aD,bh,H⟩:=H;replace H:(if aD=true then (if a2>0 then (if 0≤(wrap64 (a2 - 1)) then (if (wrap64 (a2 - 1))<(a1.length:Int) then (impl_ValidTree.j1 k1 a2 a1 (a1.length:Int) a2 (!(Op.bytesLess (((rd_T27 a1 (wrap64 (a2 - 1))).f0).toList) (((rd_T27 a1 a2).f0).toList))) a1 ((rd_T27 a1 a2).f0) ((rd_T27 a1 a2).f1) ((rd_T27 a1 a2).f2)) else (none)) else (none)) else (impl_ValidTree.j1 k1 a2 a1 (a1.length:Int) a2 false a1 ((rd_T27 a1 a2).f0) ((rd_T27 a1 a2).f1) ((rd_T27 a1 a2).f2))) else (impl_ValidTree.j1 k1 a2 a1 (a1.length:Int) a2 true a1 ((rd_T27 a1 a2).f0) ((rd_T27 a1 a2).f1) ((rd_T27 a1 a2).f2)))=some r:=H;have aJ:=Aside0.mk bh;clear bh
        by_cases ao:aD=true
        ·subst ao
         have H1:(if a2>0 then (if 0≤(wrap64 (a2 - 1)) then (if (wrap64 (a2 - 1))<(a1.length:Int) then (impl_ValidTree.j1 k1 a2 a1 (a1.length:Int) a2 (!(Op.bytesLess (((rd_T27 a1 (wrap64 (a2 - 1))).f0).toList) (((rd_T27 a1 a2).f0).toList))) a1 ((rd_T27 a1 a2).f0) ((rd_T27 a1 a2).f1) ((rd_T27 a1 a2).f2)) else (none)) else (none)) else (impl_ValidTree.j1 k1 a2 a1 (a1.length:Int) a2 false a1 ((rd_T27 a1 a2).f0) ((rd_T27 a1 a2).f1) ((rd_T27 a1 a2).f2)))=some r:=by rw [if_pos rfl] at H;exact H
         clear H;have H:=H1;clear H1
         by_cases aj:a2>0
         ·rw [if_pos aj] at H
          have ak:decide (0<a2)=true:=decide_eq_true aj;clear aj;(first|rw [ak]|(simp only [i64_w,i32_w];rw [ak])|skip)
          obtain ⟨a8,al⟩:∃ j_:Int,(wrap64 (a2 - 1))=j_:=⟨_,rfl⟩
          replace H:(if 0≤(a8) then (if (a8)<(a1.length:Int) then (impl_ValidTree.j1 k1 a2 a1 (a1.length:Int) a2 (!(Op.bytesLess (((rd_T27 a1 (a8)).f0).toList) (((rd_T27 a1 a2).f0).toList))) a1 ((rd_T27 a1 a2).f0) ((rd_T27 a1 a2).f1) ((rd_T27 a1 a2).f2)) else (none)) else (none))=some r:=by first|(rw [al] at H;exact H)|(simp only [al] at H ⊢; exact H)
          (try rw [al] at aJ);have hji17w:(IntKind.i64.wrap (a2 - 1))=a8:=(i64_w _).trans al
          by_cases ap:0≤(a8)
          ·rw [if_pos ap] at H
           have bi:decide (0≤(a8))=true:=decide_eq_true ap;clear ap
           by_cases aq:(a8)<(a1.length:Int)
           ·rw [if_pos aq] at H
            have bj:decide ((a8)<(a1.length:Int))=true:=decide_eq_true aq;clear aq;have H':=Aside0.mk H;clear H
            try go_wp2
            have ac:Aside0 ((((ab.setCell ⟨a5,0,none⟩ (.string ((rd_T27 a1 a2).f0))).setCell ⟨a5,1,none⟩ (.string ((rd_T27 a1 a2).f1))).setCell ⟨a5,2,none⟩ (.bool ((rd_T27 a1 a2).f2))).heap[af]? = some (.cells #[.slice (some a7) a1.length a9] 25 (0,0))):=⟨bkf a4.out aH.out⟩
            have ad:Aside0 ((((ab.setCell ⟨a5,0,none⟩ (.string ((rd_T27 a1 a2).f0))).setCell ⟨a5,1,none⟩ (.string ((rd_T27 a1 a2).f1))).setCell ⟨a5,2,none⟩ (.bool ((rd_T27 a1 a2).f2))).heap[a5]? = some (.cells #[.string ((rd_T27 a1 a2).f0),.string ((rd_T27 a1 a2).f1),.bool ((rd_T27 a1 a2).f2)] 27 (0,0))):=⟨bp a3.out⟩
            have ae:Aside0 (Below w.heap.size w (((ab.setCell ⟨a5,0,none⟩ (.string ((rd_T27 a1 a2).f0))).setCell ⟨a5,1,none⟩ (.string ((rd_T27 a1 a2).f1))).setCell ⟨a5,2,none⟩ (.bool ((rd_T27 a1 a2).f2)))):=⟨bf HB.out⟩
            (try clear a4);(try clear a3);(try clear HB);generalize (((ab.setCell ⟨a5,0,none⟩ (.string ((rd_T27 a1 a2).f0))).setCell ⟨a5,1,none⟩ (.string ((rd_T27 a1 a2).f1))).setCell ⟨a5,2,none⟩ (.bool ((rd_T27 a1 a2).f2)))=w20 at ac ad ae ⊢; have a4:=ac;have a3:=ad;have HB:=ae;clear ac ad ae;refine Ya3 (blk_drew a4.out) (blk_drew a3.out) (below_drew1 HB.out) ?_;clear a4 a3 HB;intro a4 a3 HB;have aA:0≤((a8):Int):=oda;have aB:(a8)<(a1.length:Int):=oda;obtain ⟨bv,bw,ar,au,av⟩:=at_T27 aG.out (a8) aA aB;have hw343_2:=av;have hw343_1:=au;have hw343_0:=ar
            obtain rfl:a7=bv:=(by injection bw)
            replace ar:=pw_cell_below HB.out ar;replace au:=pw_cell_below HB.out au;replace av:=pw_cell_below HB.out av;replace aA:=eq_true aA;replace aB:=eq_true aB;refine start_ (n:=19) (S:=fun w'=>w'.cell? ⟨a5,0,none⟩=some (.string ((rd_T27 a1 a2).f0))∧w'.cell? ⟨a5,1,none⟩=some (.string ((rd_T27 a1 a2).f1))∧w'.cell? ⟨a5,2,none⟩=some (.bool ((rd_T27 a1 a2).f2))∧w'.cell? ⟨af,0,none⟩=some (.slice (some a7) a1.length a9)∧w'.cell? (a7.add (((a8)).toNat*3))=some (.string ((rd_T27 a1 (a8)).f0))∧w'.cell? ⟨(a7.add (((a8)).toNat*3)).block,(a7.add (((a8)).toNat*3)).off+1,none⟩=some (.string ((rd_T27 a1 (a8)).f1))∧w'.cell? ⟨(a7.add (((a8)).toNat*3)).block,(a7.add (((a8)).toNat*3)).off+2,none⟩=some (.bool ((rd_T27 a1 (a8)).f2))) (ds:=[]) (fb 19 0) (by kernel_rfl) rfl rfl ⟨bc a3 0,bc a3 1,bc a3 2,bc a4 0,(pw_cell_below HB.out hw343_0),(pw_cell_below HB.out hw343_1),(pw_cell_below HB.out hw343_2)⟩ (fun hHeld => ?_);refine with_tabW impl_ValidTree.tab6 impl_ValidTree.bits6 (fun HT_ HW_ => ?_);generalize w20.drew=w21 at a4 a3 HB ar au av hHeld ⊢; refine tk 0 18 (fb 19 1) HT_ HW_ hHeld ?_;refine o1 1 (some 19) (fb 19 3) HT_ (fun K hK => ?_);refine gs _ (#[.agg #[.string ((rd_T27 a1 a2).f0),.string ((rd_T27 a1 a2).f1),.bool ((rd_T27 a1 a2).f2)]]) Tryd.func69 ?_;(with_reducible refine (impl_goodEntry.calls k1 ((rd_T27 a1 a2).f0) ((rd_T27 a1 a2).f1) ((rd_T27 a1 a2).f2) true _ ?sideG aJ.out).mono ?_;(case sideG=>exact gf HG.out HB.out));rintro e w22 ⟨rfl,hb⟩;refine ⟨_,rfl,?_⟩;refine Ya3 (bb a4 hb) (bb a3 hb) (below_step (bf HB.out) hb) ?_;clear a4 a3 HB;intro a4 a3 HB;(try clear hb);(try clear hb2);(try clear hk);(try clear hi);refine hK.out _ _ ⟨bc a3 0,bc a3 1,bc a3 2,bc a4 0,(pw_cell_below HB.out hw343_0),(pw_cell_below HB.out hw343_1),(pw_cell_below HB.out hw343_2)⟩ (fun hHeld => ?_);clear hK K;refine nm 19 ?_;refine pu 2 20 (fb 19 7) HT_ ?_;refine pu 3 21 (fb 19 15) HT_ ?_;refine pu 4 22 (fb 19 31) HT_ ?_;refine pu 5 23 (fb 19 63) HT_ ?_;refine pu 6 24 (fb 19 127) HT_ ?_;refine pu 7 25 (fb 19 255) HT_ ?_;refine pu 9 27 (fb 19 767) HT_ ?_;refine pu 10 28 (fb 19 1791) HT_ ?_;refine pu 14 32 (fb 19 18175) HT_ ?_;refine tk 8 26 (fb 19 18431) HT_ HW_ hHeld ?_;refine pu 11 29 (fb 19 20479) HT_ ?_;refine pu 12 30 (fb 19 24575) HT_ ?_;refine tk 13 31 (fb 19 32767) HT_ HW_ hHeld ?_;refine tk 15 33 (fb 19 65535) HT_ HW_ hHeld ?_;refine pu 16 34 (fb 19 131071) HT_ ?_;refine pu 17 35 (fb 19 262143) HT_ ?_;refine pu 18 36 (fb 19 524287) HT_ ?_;refine done_ (done_of HT_.out (by kernel_rfl)) ?_
            try go_wp2
            go_meet
            case rel=>exact ⟨_,(!(Op.bytesLess (((rd_T27 a1 (a8)).f0).toList) (((rd_T27 a1 a2).f0).toList))),(by first|rfl|(simp;done)|(simp only [←al] <;> (first|rfl|simp))|(simp [*];done)),(by first|exact H'|(subst al;exact H')|(simp only [←al] at H' ⊢; exact H')),⟨by have:=HK1.out;first|omega|exact Nat.le_refl _⟩,⟨bk a4.out⟩,⟨bk a3.out⟩,⟨bf HB.out⟩⟩
           ·rw [if_neg aq] at H
            exact absurd H (by simp)
          ·rw [if_neg ap] at H
           exact absurd H (by simp)
         ·rw [if_neg aj] at H
          have ak:decide (0<a2)=false:=decide_eq_false aj;clear aj;(first|rw [ak]|(simp only [i64_w,i32_w];rw [ak])|skip);have H':=Aside0.mk H;clear H
          try go_wp2
          have ac:Aside0 ((((ab.setCell ⟨a5,0,none⟩ (.string ((rd_T27 a1 a2).f0))).setCell ⟨a5,1,none⟩ (.string ((rd_T27 a1 a2).f1))).setCell ⟨a5,2,none⟩ (.bool ((rd_T27 a1 a2).f2))).heap[af]? = some (.cells #[.slice (some a7) a1.length a9] 25 (0,0))):=⟨bkf a4.out aH.out⟩
          have ad:Aside0 ((((ab.setCell ⟨a5,0,none⟩ (.string ((rd_T27 a1 a2).f0))).setCell ⟨a5,1,none⟩ (.string ((rd_T27 a1 a2).f1))).setCell ⟨a5,2,none⟩ (.bool ((rd_T27 a1 a2).f2))).heap[a5]? = some (.cells #[.string ((rd_T27 a1 a2).f0),.string ((rd_T27 a1 a2).f1),.bool ((rd_T27 a1 a2).f2)] 27 (0,0))):=⟨bp a3.out⟩
          have ae:Aside0 (Below w.heap.size w (((ab.setCell ⟨a5,0,none⟩ (.string ((rd_T27 a1 a2).f0))).setCell ⟨a5,1,none⟩ (.string ((rd_T27 a1 a2).f1))).setCell ⟨a5,2,none⟩ (.bool ((rd_T27 a1 a2).f2)))):=⟨bf HB.out⟩
          (try clear a4);(try clear a3);(try clear HB);generalize (((ab.setCell ⟨a5,0,none⟩ (.string ((rd_T27 a1 a2).f0))).setCell ⟨a5,1,none⟩ (.string ((rd_T27 a1 a2).f1))).setCell ⟨a5,2,none⟩ (.bool ((rd_T27 a1 a2).f2)))=w23 at ac ad ae ⊢; have a4:=ac;have a3:=ad;have HB:=ae;clear ac ad ae;refine Ya3 (blk_drew a4.out) (blk_drew a3.out) (below_drew1 HB.out) ?_;clear a4 a3 HB;intro a4 a3 HB;refine start_ (n:=19) (S:=fun w'=>w'.cell? ⟨a5,0,none⟩=some (.string ((rd_T27 a1 a2).f0))∧w'.cell? ⟨a5,1,none⟩=some (.string ((rd_T27 a1 a2).f1))∧w'.cell? ⟨a5,2,none⟩=some (.bool ((rd_T27 a1 a2).f2))) (ds:=[]) (fb 19 0) (by kernel_rfl) rfl rfl ⟨bc a3 0,bc a3 1,bc a3 2⟩ (fun hHeld => ?_);refine with_tabW impl_ValidTree.tab6 impl_ValidTree.bits6 (fun HT_ HW_ => ?_);generalize w23.drew=w24 at a4 a3 HB hHeld ⊢; refine tk 0 18 (fb 19 1) HT_ HW_ hHeld ?_;refine o1 1 (some 19) (fb 19 3) HT_ (fun K hK => ?_);refine gs _ (#[.agg #[.string ((rd_T27 a1 a2).f0),.string ((rd_T27 a1 a2).f1),.bool ((rd_T27 a1 a2).f2)]]) Tryd.func69 ?_;(with_reducible refine (impl_goodEntry.calls k1 ((rd_T27 a1 a2).f0) ((rd_T27 a1 a2).f1) ((rd_T27 a1 a2).f2) true _ ?sideG aJ.out).mono ?_;(case sideG=>exact gf HG.out HB.out));rintro e w25 ⟨rfl,hb⟩;refine ⟨_,rfl,?_⟩;refine Ya3 (bb a4 hb) (bb a3 hb) (below_step (bf HB.out) hb) ?_;clear a4 a3 HB;intro a4 a3 HB;(try clear hb);(try clear hb2);(try clear hk);(try clear hi);refine hK.out _ _ ⟨bc a3 0,bc a3 1,bc a3 2⟩ (fun hHeld => ?_);clear hK K;refine nm 19 ?_;refine pu 2 20 (fb 19 7) HT_ ?_;refine pu 3 21 (fb 19 15) HT_ ?_;refine pu 4 22 (fb 19 31) HT_ ?_;refine pu 5 23 (fb 19 63) HT_ ?_;refine pu 6 24 (fb 19 127) HT_ ?_;refine pn 7 25 (fb 19 255) HT_ ?_;refine pn 8 26 (fb 19 511) HT_ ?_;refine pn 9 27 (fb 19 1023) HT_ ?_;refine pn 10 28 (fb 19 2047) HT_ ?_;refine pn 11 29 (fb 19 4095) HT_ ?_;refine pn 12 30 (fb 19 8191) HT_ ?_;refine pn 13 31 (fb 19 16383) HT_ ?_;refine pn 14 32 (fb 19 32767) HT_ ?_;refine pn 15 33 (fb 19 65535) HT_ ?_;refine pn 16 34 (fb 19 131071) HT_ ?_;refine pu 17 35 (fb 19 262143) HT_ ?_;refine pu 18 36 (fb 19 524287) HT_ ?_;refine done_ (done_of HT_.out (by kernel_rfl)) ?_
          try go_wp2
          go_meet
          case rel=>exact ⟨_,(false),Ye1,H',⟨by have:=HK1.out;first|omega|exact Nat.le_refl _⟩,⟨bk a4.out⟩,⟨bk a3.out⟩,⟨bf HB.out⟩⟩
        ·replace ao:=Bool.eq_false_iff.mpr ao;subst ao
         have H1:(impl_ValidTree.j1 k1 a2 a1 (a1.length:Int) a2 true a1 ((rd_T27 a1 a2).f0) ((rd_T27 a1 a2).f1) ((rd_T27 a1 a2).f2))=some r:=by rw [if_neg (show ¬(false=true) by decide)] at H;exact H
         clear H;have H:=H1;clear H1;have H':=Aside0.mk H;clear H
         try go_wp2
         have ac:Aside0 ((((ab.setCell ⟨a5,0,none⟩ (.string ((rd_T27 a1 a2).f0))).setCell ⟨a5,1,none⟩ (.string ((rd_T27 a1 a2).f1))).setCell ⟨a5,2,none⟩ (.bool ((rd_T27 a1 a2).f2))).heap[af]? = some (.cells #[.slice (some a7) a1.length a9] 25 (0,0))):=⟨bkf a4.out aH.out⟩
         have ad:Aside0 ((((ab.setCell ⟨a5,0,none⟩ (.string ((rd_T27 a1 a2).f0))).setCell ⟨a5,1,none⟩ (.string ((rd_T27 a1 a2).f1))).setCell ⟨a5,2,none⟩ (.bool ((rd_T27 a1 a2).f2))).heap[a5]? = some (.cells #[.string ((rd_T27 a1 a2).f0),.string ((rd_T27 a1 a2).f1),.bool ((rd_T27 a1 a2).f2)] 27 (0,0))):=⟨bp a3.out⟩
         have ae:Aside0 (Below w.heap.size w (((ab.setCell ⟨a5,0,none⟩ (.string ((rd_T27 a1 a2).f0))).setCell ⟨a5,1,none⟩ (.string ((rd_T27 a1 a2).f1))).setCell ⟨a5,2,none⟩ (.bool ((rd_T27 a1 a2).f2)))):=⟨bf HB.out⟩
         (try clear a4);(try clear a3);(try clear HB);generalize (((ab.setCell ⟨a5,0,none⟩ (.string ((rd_T27 a1 a2).f0))).setCell ⟨a5,1,none⟩ (.string ((rd_T27 a1 a2).f1))).setCell ⟨a5,2,none⟩ (.bool ((rd_T27 a1 a2).f2)))=w26 at ac ad ae ⊢; have a4:=ac;have a3:=ad;have HB:=ae;clear ac ad ae;refine Ya3 (blk_drew a4.out) (blk_drew a3.out) (below_drew1 HB.out) ?_;clear a4 a3 HB;intro a4 a3 HB;refine start_ (n:=19) (S:=fun w'=>w'.cell? ⟨a5,0,none⟩=some (.string ((rd_T27 a1 a2).f0))∧w'.cell? ⟨a5,1,none⟩=some (.string ((rd_T27 a1 a2).f1))∧w'.cell? ⟨a5,2,none⟩=some (.bool ((rd_T27 a1 a2).f2))) (ds:=[]) (fb 19 0) (by kernel_rfl) rfl rfl ⟨bc a3 0,bc a3 1,bc a3 2⟩ (fun hHeld => ?_);refine with_tabW impl_ValidTree.tab6 impl_ValidTree.bits6 (fun HT_ HW_ => ?_);generalize w26.drew=w27 at a4 a3 HB hHeld ⊢; refine tk 0 18 (fb 19 1) HT_ HW_ hHeld ?_;refine o1 1 (some 19) (fb 19 3) HT_ (fun K hK => ?_);refine gs _ (#[.agg #[.string ((rd_T27 a1 a2).f0),.string ((rd_T27 a1 a2).f1),.bool ((rd_T27 a1 a2).f2)]]) Tryd.func69 ?_;(with_reducible refine (impl_goodEntry.calls k1 ((rd_T27 a1 a2).f0) ((rd_T27 a1 a2).f1) ((rd_T27 a1 a2).f2) false _ ?sideG aJ.out).mono ?_;(case sideG=>exact gf HG.out HB.out));rintro e w28 ⟨rfl,hb⟩;refine ⟨_,rfl,?_⟩;refine Ya3 (bb a4 hb) (bb a3 hb) (below_step (bf HB.out) hb) ?_;clear a4 a3 HB;intro a4 a3 HB;(try clear hb);(try clear hb2);(try clear hk);(try clear hi);refine hK.out _ _ ⟨bc a3 0,bc a3 1,bc a3 2⟩ (fun hHeld => ?_);clear hK K;refine nm 19 ?_;refine pu 2 20 (fb 19 7) HT_ ?_;refine pu 3 21 (fb 19 15) HT_ ?_;refine pn 4 22 (fb 19 31) HT_ ?_;refine pn 5 23 (fb 19 63) HT_ ?_;refine pn 6 24 (fb 19 127) HT_ ?_;refine pn 7 25 (fb 19 255) HT_ ?_;refine pn 8 26 (fb 19 511) HT_ ?_;refine pn 9 27 (fb 19 1023) HT_ ?_;refine pn 10 28 (fb 19 2047) HT_ ?_;refine pn 11 29 (fb 19 4095) HT_ ?_;refine pn 12 30 (fb 19 8191) HT_ ?_;refine pn 13 31 (fb 19 16383) HT_ ?_;refine pn 14 32 (fb 19 32767) HT_ ?_;refine pn 15 33 (fb 19 65535) HT_ ?_;refine pn 16 34 (fb 19 131071) HT_ ?_;refine pn 17 35 (fb 19 262143) HT_ ?_;refine pu 18 36 (fb 19 524287) HT_ ?_;refine done_ (done_of HT_.out (by kernel_rfl)) ?_
         try go_wp2
         go_meet
         case rel=>exact ⟨_,(true),Ye1,H',⟨by have:=HK1.out;first|omega|exact Nat.le_refl _⟩,⟨bk a4.out⟩,⟨bk a3.out⟩,⟨bf HB.out⟩⟩
       case rest =>
        clear aU;(try clear c1);(try clear p2);(try clear p3);(try clear q3);(try clear hx3);(try clear c6);(try clear p6);(try clear c7);(try clear aT);(try clear c8);(try clear b2);(try clear c9);(try clear b3);(try clear c12);(try clear ao);(try clear aj);(try clear ak);(try clear ap);(try clear bi);(try clear aq);(try clear bj);(try clear b7);(try clear b8);(try clear b9);(try clear aP);(try clear aR);(try clear ba);(try clear bd);(try clear bg);(try clear aQ);(try clear aS);(try clear b4);(try clear b5);(try clear b6);(try clear ar);(try clear au);(try clear av);(try clear ay);(try clear aA);(try clear az);(try clear aB);obtain ⟨kq,aI,rfl,HA,HJ9,a4,a3,HB⟩:=hcut
        cases kq with
        | zero=>exact absurd HA.out (by simp [impl_ValidTree.j1])
        | succ aV =>
         have H:=HA.out;clear HA;simp only [impl_ValidTree.j1] at H
         by_cases aC:aI=true
         ·subst aC
          have H1:(some false)=some r:=by rw [if_pos rfl] at H;exact H
          clear H;have H:=H1;clear H1;obtain rfl:=Option.some.inj H
          go_wp2
          go_ret
          exact ⟨Ye2,(bf HB.out)⟩
         ·replace aC:=Bool.eq_false_iff.mpr aC;subst aC
          have H1:(impl_ValidTree.l1 aV a2 0 a1 (a1.length:Int) a2 a1 ((rd_T27 a1 a2).f0) ((rd_T27 a1 a2).f1) ((rd_T27 a1 a2).f2))=some r:=by rw [if_neg (show ¬(false=true) by decide)] at H;exact H
          clear H;have H:=H1;clear H1;have H':=Aside0.mk H;clear H
          go_wp2
          go_loopg [5] aV (fun kq v5 w' => ∃ (a6:Int),v5 = .int .i64 a6∧Aside0 (impl_ValidTree.l1 kq a2 a6 a1 (a1.length:Int) a2 a1 ((rd_T27 a1 a2).f0) ((rd_T27 a1 a2).f1) ((rd_T27 a1 a2).f2)=some r)∧Aside0 (kq≤aV)∧Aside0 (w'.heap[af]? = some (.cells #[(.slice (some a7) a1.length a9)] 25 (0,0)))∧Aside0 (w'.heap[a5]? = some (.cells #[.string ((rd_T27 a1 a2).f0),.string ((rd_T27 a1 a2).f1),.bool ((rd_T27 a1 a2).f2)] 27 (0,0)))∧Aside0 (Below w.heap.size w w'))
          case atStart=>exact ⟨(0),Ye1,H',⟨Nat.le_refl _⟩,⟨bk a4.out⟩,⟨bk a3.out⟩,⟨bf HB.out⟩⟩
          case round =>
           clear H';(try clear c1);(try clear c2);(try clear p2);(try clear p3);(try clear q3);(try clear hx3);(try clear c6);(try clear p6);(try clear c7);(try clear aT);(try clear c8);(try clear b2);(try clear c9);(try clear b3);(try clear c12);(try clear ao);(try clear aj);(try clear ak);(try clear ap);(try clear bi);(try clear aq);(try clear bj);(try clear aC);(try clear b7);(try clear b8);(try clear b9);(try clear aP);(try clear aR);(try clear ba);(try clear bd);(try clear bg);(try clear aQ);(try clear aS);(try clear b4);(try clear b5);(try clear b6);(try clear ar);(try clear au);(try clear av);(try clear p2);(try clear p3);(try clear ay);(try clear aA);(try clear p6);(try clear q3);(try clear az);(try clear aB);obtain ⟨a6,rfl,HA,HK3,a4,a3,HB⟩:=hrel
           cases gk with
           | zero=>exact absurd HA.out (by simp [impl_ValidTree.l1])
           | succ k3 =>
            have H:=HA.out;clear HA;simp only [impl_ValidTree.l1] at H
            by_cases aw:a6<a2
            ·rw [if_pos aw] at H
             have bz:decide (a6<a2)=true:=decide_eq_true aw;clear aw
             by_cases aK:0≤a6
             ·rw [if_pos aK] at H
              have c31b0:decide (0≤a6)=true:=decide_eq_true aK;clear aK
              by_cases aL:a6<(a1.length:Int)
              ·rw [if_pos aL] at H
               have c32b0:decide (a6<(a1.length:Int))=true:=decide_eq_true aL;clear aL;replace H:=Option.bind_eq_some_iff.mp H;obtain ⟨aF,bm,H⟩:=H;replace H:(if aF=true then (some false) else (impl_ValidTree.l1 k3 a2 (wrap64 (a6+1)) a1 (a1.length:Int) a2 a1 ((rd_T27 a1 a2).f0) ((rd_T27 a1 a2).f1) ((rd_T27 a1 a2).f2)))=some r:=H;have A33:=Aside0.mk bm;clear bm
               by_cases aM:aF=true
               ·subst aM
                have H1:(some false)=some r:=by rw [if_pos rfl] at H;exact H
                clear H;have H:=H1;clear H1;obtain rfl:=Option.some.inj H
                try go_wp2
                refine Ya3 (blk_drew a4.out) (blk_drew a3.out) (below_drew1 HB.out) ?_;clear a4 a3 HB;intro a4 a3 HB;have am:0≤(a6:Int):=oda;have an:a6<(a1.length:Int):=oda;obtain ⟨aW,aX,ag,ah,ai⟩:=at_T27 aG.out a6 am an;have hw344_2:=ai;have hw344_1:=ah;have hw344_0:=ag
                obtain rfl:a7=aW:=(by injection aX)
                replace ag:=pw_cell_below HB.out ag;replace ah:=pw_cell_below HB.out ah;replace ai:=pw_cell_below HB.out ai;replace am:=eq_true am;replace an:=eq_true an;refine start_ (n:=9) (S:=fun w'=>w'.cell? ⟨af,0,none⟩=some (.slice (some a7) a1.length a9)∧w'.cell? ⟨a5,0,none⟩=some (.string ((rd_T27 a1 a2).f0))∧w'.cell? ⟨a5,1,none⟩=some (.string ((rd_T27 a1 a2).f1))∧w'.cell? ⟨a5,2,none⟩=some (.bool ((rd_T27 a1 a2).f2))∧w'.cell? (a7.add ((a6).toNat*3))=some (.string ((rd_T27 a1 a6).f0))∧w'.cell? ⟨(a7.add ((a6).toNat*3)).block,(a7.add ((a6).toNat*3)).off+1,none⟩=some (.string ((rd_T27 a1 a6).f1))∧w'.cell? ⟨(a7.add ((a6).toNat*3)).block,(a7.add ((a6).toNat*3)).off+2,none⟩=some (.bool ((rd_T27 a1 a6).f2))) (ds:=[]) (fb 9 0) (by kernel_rfl) rfl rfl ⟨bc a4 0,bc a3 0,bc a3 1,bc a3 2,(pw_cell_below HB.out hw344_0),(pw_cell_below HB.out hw344_1),(pw_cell_below HB.out hw344_2)⟩ (fun hHeld => ?_);refine with_tabW impl_ValidTree.tab11 impl_ValidTree.bits11 (fun HT_ HW_ => ?_);generalize wr.drew=w35 at a4 a3 HB ag ah ai hHeld ⊢; refine pu 0 42 (fb 9 1) HT_ ?_;refine pu 2 44 (fb 9 5) HT_ ?_;refine pu 6 48 (fb 9 69) HT_ ?_;refine tk 1 43 (fb 9 71) HT_ HW_ hHeld ?_;refine pu 3 45 (fb 9 79) HT_ ?_;refine pu 4 46 (fb 9 95) HT_ ?_;refine tk 5 47 (fb 9 127) HT_ HW_ hHeld ?_;refine tk 7 49 (fb 9 255) HT_ HW_ hHeld ?_;refine o1 8 (some 50) (fb 9 511) HT_ (fun K hK => ?_);refine gs _ (#[.string ((rd_T27 a1 a6).f0),.string ((rd_T27 a1 a2).f0)]) Tryd.func70 ?_;(with_reducible refine (impl_over.calls ((rd_T27 a1 a6).f0) ((rd_T27 a1 a2).f0) true _ A33.out).mono ?_);rintro e w' ⟨rfl,⟨nd,rfl⟩⟩;refine ⟨_,rfl,?_⟩;refine hK.out _ _ ⟨bc a4 0,bc a3 0,bc a3 1,bc a3 2,(pw_cell_below HB.out hw344_0),(pw_cell_below HB.out hw344_1),(pw_cell_below HB.out hw344_2)⟩ (fun hHeld => ?_);clear hK K;refine nm 50 ?_;refine done_ (done_of HT_.out (by kernel_rfl)) ?_
                try go_wp2
                go_ret
                exact ⟨Ye2,(bf HB.out)⟩
               ·replace aM:=Bool.eq_false_iff.mpr aM;subst aM
                have H1:(impl_ValidTree.l1 k3 a2 (wrap64 (a6+1)) a1 (a1.length:Int) a2 a1 ((rd_T27 a1 a2).f0) ((rd_T27 a1 a2).f1) ((rd_T27 a1 a2).f2))=some r:=by rw [if_neg (show ¬(false=true) by decide)] at H;exact H
                clear H;have H:=H1;clear H1;have H':=Aside0.mk H;clear H
                try go_wp2
                refine Ya3 (blk_drew a4.out) (blk_drew a3.out) (below_drew1 HB.out) ?_;clear a4 a3 HB;intro a4 a3 HB;have am:0≤(a6:Int):=oda;have an:a6<(a1.length:Int):=oda;obtain ⟨aW,aX,ag,ah,ai⟩:=at_T27 aG.out a6 am an;have hw344_2:=ai;have hw344_1:=ah;have hw344_0:=ag
                obtain rfl:a7=aW:=(by injection aX)
                replace ag:=pw_cell_below HB.out ag;replace ah:=pw_cell_below HB.out ah;replace ai:=pw_cell_below HB.out ai;replace am:=eq_true am;replace an:=eq_true an;refine start_ (n:=9) (S:=fun w'=>w'.cell? ⟨af,0,none⟩=some (.slice (some a7) a1.length a9)∧w'.cell? ⟨a5,0,none⟩=some (.string ((rd_T27 a1 a2).f0))∧w'.cell? ⟨a5,1,none⟩=some (.string ((rd_T27 a1 a2).f1))∧w'.cell? ⟨a5,2,none⟩=some (.bool ((rd_T27 a1 a2).f2))∧w'.cell? (a7.add ((a6).toNat*3))=some (.string ((rd_T27 a1 a6).f0))∧w'.cell? ⟨(a7.add ((a6).toNat*3)).block,(a7.add ((a6).toNat*3)).off+1,none⟩=some (.string ((rd_T27 a1 a6).f1))∧w'.cell? ⟨(a7.add ((a6).toNat*3)).block,(a7.add ((a6).toNat*3)).off+2,none⟩=some (.bool ((rd_T27 a1 a6).f2))) (ds:=[]) (fb 9 0) (by kernel_rfl) rfl rfl ⟨bc a4 0,bc a3 0,bc a3 1,bc a3 2,(pw_cell_below HB.out hw344_0),(pw_cell_below HB.out hw344_1),(pw_cell_below HB.out hw344_2)⟩ (fun hHeld => ?_);refine with_tabW impl_ValidTree.tab11 impl_ValidTree.bits11 (fun HT_ HW_ => ?_);generalize wr.drew=w36 at a4 a3 HB ag ah ai hHeld ⊢; refine pu 0 42 (fb 9 1) HT_ ?_;refine pu 2 44 (fb 9 5) HT_ ?_;refine pu 6 48 (fb 9 69) HT_ ?_;refine tk 1 43 (fb 9 71) HT_ HW_ hHeld ?_;refine pu 3 45 (fb 9 79) HT_ ?_;refine pu 4 46 (fb 9 95) HT_ ?_;refine tk 5 47 (fb 9 127) HT_ HW_ hHeld ?_;refine tk 7 49 (fb 9 255) HT_ HW_ hHeld ?_;refine o1 8 (some 50) (fb 9 511) HT_ (fun K hK => ?_);refine gs _ (#[.string ((rd_T27 a1 a6).f0),.string ((rd_T27 a1 a2).f0)]) Tryd.func70 ?_;(with_reducible refine (impl_over.calls ((rd_T27 a1 a6).f0) ((rd_T27 a1 a2).f0) false _ A33.out).mono ?_);rintro e w' ⟨rfl,⟨nd,rfl⟩⟩;refine ⟨_,rfl,?_⟩;refine hK.out _ _ ⟨bc a4 0,bc a3 0,bc a3 1,bc a3 2,(pw_cell_below HB.out hw344_0),(pw_cell_below HB.out hw344_1),(pw_cell_below HB.out hw344_2)⟩ (fun hHeld => ?_);clear hK K;refine nm 50 ?_;refine done_ (done_of HT_.out (by kernel_rfl)) ?_
                try go_wp2
                go_roundg k3
                case measure=>have:=HK1.out;have:=HJ9.out;have:=HK3.out;omega
                case rel=>exact ⟨(wrap64 (a6+1)),Ye1,H',⟨by have:=HK1.out;have:=HJ9.out;have:=HK3.out;omega⟩,⟨bk a4.out⟩,⟨bk a3.out⟩,⟨bf HB.out⟩⟩
              ·rw [if_neg aL] at H
               exact absurd H (by simp)
             ·rw [if_neg aK] at H
              exact absurd H (by simp)
            ·rw [if_neg aw] at H
             have bz:decide (a6<a2)=false:=decide_eq_false aw;clear aw;have H':=Aside0.mk H;clear H
             go_wp2
             go_roundg k3
             case measure=>have:=HK1.out;have:=HJ9.out;have:=HK3.out;omega
             case rel=>exact ⟨(wrap64 (a2+1)),Ye1,H',⟨by have:=HK1.out;have:=HJ9.out;have:=HK3.out;omega⟩,⟨bk a4.out⟩,⟨bf HB.out⟩⟩
      ·rw [if_neg c9] at H
       exact absurd H (by simp)
     ·rw [if_neg c8] at H
      exact absurd H (by simp)
    ·rw [if_neg c7] at H
     have aT:decide (a2<(a1.length:Int))=false:=decide_eq_false c7;clear c7;obtain rfl:=Option.some.inj H
     go_wp2
     go_ret
     exact ⟨Ye2,(bf HB.out)⟩

end Go.Proofs.YtknagppkeodggaaDoor.P


namespace Go.Proofs.YtknagppkeodggaaDoor.P
open Go.RowKit Go.Proofs.YtknagppkeodggaaDoorW.PrintWords Go.Proofs.YtknagppkeodggaaDoorW.PrintLast Go.Proofs.YtknagppkeodggaaDoorW.PrintMore
attribute [local go_sem] max2_int min2_int max_two min_two max_three min_three max_four min_four
set_option linter.unusedVariables false
set_option linter.unusedSimpArgs false

def slices_ContainsFunc_string_string.l0 (k:Nat) (p:ByteArray):List ByteArray→Option Bool
 | []=>some false
 | g :: r=>(impl_Match.f k g p).bind fun t=>if t=true then some true else slices_ContainsFunc_string_string.l0 k p r
def slices_ContainsFunc_string_string.f (k:Nat) (l0:List ByteArray) (p _t:ByteArray) (_u:Bool):Option Bool:=if l0.length≤4611686018427387904 then slices_ContainsFunc_string_string.l0 k p l0 else none
theorem slices_ContainsFunc_string_string.mono_l (p:ByteArray):∀ l k,LeO (slices_ContainsFunc_string_string.l0 k p l) (slices_ContainsFunc_string_string.l0 (k+1) p l)
 | [],_=>LeO.refl _
 | g :: r,k=>by
  unfold slices_ContainsFunc_string_string.l0
  exact LeO.bind (impl_Match.mono _ _ _) (fun _=>LeO.ite (LeO.refl _) (slices_ContainsFunc_string_string.mono_l p r k))
theorem slices_ContainsFunc_string_string.mono:∀ l0 p t u k,LeO (slices_ContainsFunc_string_string.f k l0 p t u) (slices_ContainsFunc_string_string.f (k+1) l0 p t u):=fun l0 p _ _ k=>LeO.ite (slices_ContainsFunc_string_string.mono_l p l0 k) (LeO.refl _)
set_option maxHeartbeats 1000000 in
set_option maxRecDepth 100000 in
theorem slices_ContainsFunc_string_string.clo_calls (k:Nat) (g p t:ByteArray) (u r:Bool) (gb:Nat) (w:World) (hg:GOK w) (hb:w.heap[gb]? = some (.cells #[.string p,.string t,.bool u] 27 (0,0))) (h:impl_Match.f k g p=some r) :
  Calls Tryd.prog 87 #[.string g,.pointer (some ⟨gb,0,none⟩)] w fun e w'=>e = .returned (.bool r)∧Below w.heap.size w w':=by
 have hu45:=Tryd.underlying27;have hc:w.cell? ⟨gb,0,none⟩=some (.string p):=(blk_cell hb 0).trans rfl
 go_enter Tryd.func87,Tryd.ntmps87
 go_wp2_with (go_at_call 21;refine (impl_Match.calls k g p r _ hg h).mono ?_;rintro e w' ⟨rfl,hb2⟩)
 go_ret
 exact ⟨rfl,hb2⟩
set_option maxHeartbeats 2000000 in
set_option maxRecDepth 100000 in
theorem slices_ContainsFunc_string_string.calls (k:Nat) (A0:Option Addr) (c0:Nat) (l0:List ByteArray) (a1_0 a1_1:ByteArray) (a1_2:Bool) (r:Bool) (gb:Nat) (w:World) (hg:GOK w) (hr0:Kd.C Kd.string w A0 l0.length l0) (hc0:l0.length≤c0) (hbx:w.heap[gb]? = some (.cells #[.string a1_0,.string a1_1,.bool a1_2] 27 (0,0))) (h:slices_ContainsFunc_string_string.f k l0 a1_0 a1_1 a1_2=some r) :
  Calls Tryd.prog 86 #[.slice A0 l0.length c0,.func (.func 87) #[] #[.pointer (some ⟨gb,0,none⟩)]] w fun e w'=>e = .returned (.bool r)∧Below w.heap.size w w':=by
 unfold slices_ContainsFunc_string_string.f at h
 have hl62:l0.length≤4611686018427387904:=by
  refine Classical.byContradiction fun hn => ?_
  rw [if_neg hn] at h
  cases h
 rw [if_pos hl62] at h
 have H:=Aside0.mk h;have HR:=Aside0.mk hr0;have HX:=Aside0.mk hbx;have HG:=Aside0.mk hg;have HB:=Aside0.mk (Below.refl w.heap.size w);have HL:=Aside0.mk hl62;clear h hr0 hbx hg hl62
 go_enter Tryd.func86,Tryd.ntmps86
 go_wp2
 go_loopg [8] (l0.length) (fun kq v8 w' => ∃ i:Nat,v8 = .int .i64 (i:Int)∧Aside0 (slices_ContainsFunc_string_string.l0 k a1_0 (l0.drop i)=some r)∧Aside0 (kq+i=l0.length)∧Aside0 (Below w.heap.size w w'))
 case atStart=>exact ⟨0,rfl,⟨by rw [List.drop_zero];exact H.out⟩,⟨by omega⟩,HB⟩
 case round =>
  clear H HB;obtain ⟨i,rfl,HA,HK,HB⟩:=hrel;have H:=HA.out;have hik:=HK.out;clear HA
  by_cases hi:i<l0.length
  ·have c1:decide ((i:Int)<(l0.length:Int))=true:=decide_eq_true (by omega);have c2:decide (0≤(i:Int))=true:=decide_eq_true (by omega);have c3:decide (i<l0.length)=true:=decide_eq_true hi
   rw [List.drop_eq_getElem_cons hi] at H
   have e0:slices_ContainsFunc_string_string.l0 k a1_0 (l0[i] :: l0.drop (i+1))=((impl_Match.f k l0[i] a1_0).bind fun t=>if t=true then some true else slices_ContainsFunc_string_string.l0 k a1_0 (l0.drop (i+1))):=rfl
   rw [e0] at H
   clear e0;obtain ⟨t,ht,H⟩:=Option.bind_eq_some_iff.1 H;have HT:=Aside0.mk ht;clear ht;obtain ⟨ad,e1,hx1⟩:=Kd.at_string HR.out (i:Int) (by omega) (by omega)
   cases e1
   replace hx1:=(HB.out.cell (World.block_lt_of_cell? w _ hx1)).trans hx1
   have er:rdOf ByteArray.empty l0 (i:Int)=l0[i]:=by
    unfold rdOf
    rw [Int.toNat_natCast,List.getD_eq_getElem?_getD,List.getElem?_eq_getElem hi]
    rfl
   rw [er,Int.toNat_natCast] at hx1
   have hlt:gb<w.heap.size:=by
    rcases Nat.lt_or_ge gb w.heap.size with h'|h'
    ·exact h'
    ·have:=HX.out
     rw [Array.getElem?_eq_none h'] at this
     cases this
   have HY:=Aside0.mk ((HB.out.block gb hlt).trans HX.out)
   cases t with
   | true =>
    rw [if_pos rfl] at H
    obtain rfl:=Option.some.inj H;clear H
    go_wp2_with (go_at_call 87;refine (slices_ContainsFunc_string_string.clo_calls k l0[i] a1_0 a1_1 a1_2 true gb _ (GOK.below HG.out HB.out) HY.out HT.out).mono ?_;rintro e w2 ⟨rfl,hb2⟩)
    go_ret
    exact ⟨by simp,below_step HB.out hb2⟩
   | false =>
    rw [if_neg (by simp)] at H
    have H':=Aside0.mk H;clear H
    go_wp2_with (go_at_call 87;refine (slices_ContainsFunc_string_string.clo_calls k l0[i] a1_0 a1_1 a1_2 false gb _ (GOK.below HG.out HB.out) HY.out HT.out).mono ?_;rintro e w2 ⟨rfl,hb2⟩)
    go_roundg (gk - 1)
    case measure=>omega
    case rel=>exact ⟨i+1,by rw [show wrap64 ((i:Int)+1)=((i+1:Nat):Int) from by have:=HL.out;unfold wrap64;omega],H',⟨by omega⟩,⟨below_step HB.out hb2⟩⟩
  ·have c1:decide ((i:Int)<(l0.length:Int))=false:=decide_eq_false (by omega);have c3:decide (i<l0.length)=false:=decide_eq_false hi
   rw [List.drop_of_length_le (by omega)] at H
   obtain rfl:=Option.some.inj (show some false=some r from H);clear H
   go_wp2
   go_ret
   exact ⟨by simp,HB.out⟩


end Go.Proofs.YtknagppkeodggaaDoor.P


namespace Go.Proofs.YtknagppkeodggaaDoor.P
open Go.RowKit Go.Proofs.YtknagppkeodggaaDoorW.PrintWords Go.Proofs.YtknagppkeodggaaDoorW.PrintLast Go.Proofs.YtknagppkeodggaaDoorW.PrintMore
attribute [local go_sem] max2_int min2_int max_two min_two max_three min_three max_four min_four
set_option linter.unusedVariables false
set_option linter.unusedSimpArgs false

mutual
def impl_Pick.j0:Nat→List ByteArray→Bool→List (S27)→Option ((List (S27)))
 | 0,_,_,_=>none
 | k+1,x1,x15,aT=>if x15=true then (some ([]:List (S27))) else (impl_Pick.l0 k x1 aT (aT.length:Int) 0 ([]:List (S27)))
def impl_Pick.l0:Nat→List ByteArray→List (S27)→Int→Int→List (S27)→Option ((List (S27)))
 | 0,_,_,_,_,_=>none
 | k+1,x1,x18,x19,x20,au=>if x20<x19 then (if 0≤x20 then (if x20<(x18.length:Int) then ((slices_ContainsFunc_string_string.f k x1 ((rd_T27 x18 x20).f0) ((rd_T27 x18 x20).f1) ((rd_T27 x18 x20).f2)).bind fun av=>(if av=true then (if au.length<3518437208883 then (impl_Pick.l0 k x1 x18 x19 (wrap64 (x20+1)) (au ++ [(⟨(rd_T27 x18 x20).f0,(rd_T27 x18 x20).f1,(rd_T27 x18 x20).f2⟩:S27)])) else (none)) else (impl_Pick.l0 k x1 x18 x19 (wrap64 (x20+1)) au))) else (none)) else (none)) else (some au)
end
def impl_Pick.f (k:Nat) (a2:List (S27)) (l1:List ByteArray):Option ((List (S27))):=(impl_ValidTree.f k a2).bind fun ag=>(if ag=true then (impl_Pick.j0 k l1 (decide ((l1.length:Int)>20)) a2) else (impl_Pick.j0 k l1 true a2))
theorem impl_Pick.mono_l:∀ k,(∀ y0 y1 y2,LeO (impl_Pick.j0 k y0 y1 y2) (impl_Pick.j0 (k+1) y0 y1 y2))∧(∀ y0 y1 y2 y3 y4,LeO (impl_Pick.l0 k y0 y1 y2 y3 y4) (impl_Pick.l0 (k+1) y0 y1 y2 y3 y4))
 | 0=>⟨fun _ _ _ r h=>by simp [impl_Pick.j0] at h,fun _ _ _ _ _ r h=>by simp [impl_Pick.l0] at h⟩
 | k + 1 => by
  obtain ⟨ih0,ih1⟩:=impl_Pick.mono_l k;refine ⟨?_,?_⟩
  ·intro y0 y1 y2
   unfold impl_Pick.j0
   repeat' first
   | (with_reducible exact ih0 _ _ _)
   | (with_reducible exact ih1 _ _ _ _ _)
   | (with_reducible exact impl_ValidTree.mono _ _)
   | (with_reducible exact slices_ContainsFunc_string_string.mono _ _ _ _ _)
   | (with_reducible exact LeO.refl _)
   | (with_reducible exact LeO.none _)
   | (with_reducible refine LeO.ite ?_ ?_)
   | (with_reducible refine LeO.bind ?_ (fun _ => ?_))
   | exact ih0 _ _ _
   | exact ih1 _ _ _ _ _
   | exact impl_ValidTree.mono _ _
   | exact slices_ContainsFunc_string_string.mono _ _ _ _ _
   | exact LeO.none _
   | refine LeO.ite ?_ ?_
   | refine LeO.bind ?_ (fun _ => ?_)
  ·intro y0 y1 y2 y3 y4
   unfold impl_Pick.l0
   repeat' first
   | (with_reducible exact ih0 _ _ _)
   | (with_reducible exact ih1 _ _ _ _ _)
   | (with_reducible exact impl_ValidTree.mono _ _)
   | (with_reducible exact slices_ContainsFunc_string_string.mono _ _ _ _ _)
   | (with_reducible exact LeO.refl _)
   | (with_reducible exact LeO.none _)
   | (with_reducible refine LeO.ite ?_ ?_)
   | (with_reducible refine LeO.bind ?_ (fun _ => ?_))
   | exact ih0 _ _ _
   | exact ih1 _ _ _ _ _
   | exact impl_ValidTree.mono _ _
   | exact slices_ContainsFunc_string_string.mono _ _ _ _ _
   | exact LeO.none _
   | refine LeO.ite ?_ ?_
   | refine LeO.bind ?_ (fun _ => ?_)
theorem impl_Pick.mono:∀ a0 a1 k,LeO (impl_Pick.f k a0 a1) (impl_Pick.f (k+1) a0 a1):=by
 intro a0 a1 k;obtain ⟨ih0,ih1⟩:=impl_Pick.mono_l k
 unfold impl_Pick.f
 repeat' first
   | (with_reducible exact ih0 _ _ _)
   | (with_reducible exact ih1 _ _ _ _ _)
   | (with_reducible exact impl_ValidTree.mono _ _)
   | (with_reducible exact slices_ContainsFunc_string_string.mono _ _ _ _ _)
   | (with_reducible exact LeO.refl _)
   | (with_reducible exact LeO.none _)
   | (with_reducible refine LeO.ite ?_ ?_)
   | (with_reducible refine LeO.bind ?_ (fun _ => ?_))
   | exact ih0 _ _ _
   | exact ih1 _ _ _ _ _
   | exact impl_ValidTree.mono _ _
   | exact slices_ContainsFunc_string_string.mono _ _ _ _ _
   | exact LeO.none _
   | refine LeO.ite ?_ ?_
   | refine LeO.bind ?_ (fun _ => ?_)
set_option maxHeartbeats 8000000 in
set_option maxRecDepth 100000 in
theorem impl_Pick.calls (k : Nat) (ac : Option Addr) (ab : Nat) (a2 : List (S27)) (A1 : Option Addr) (c1 : Nat) (l1 : List ByteArray) (r : List (S27)) (w : World) (hg : GOK w) (aU : Kd.C k27 w ac a2.length a2) (aV : a2.length ≤ ab) (hr1 : Kd.C Kd.string w A1 l1.length l1) (hc1 : l1.length ≤ c1) (h : impl_Pick.f k a2 l1 = some r) :
  Calls Tryd.prog 26 #[.agg #[.slice ac a2.length ab],.slice A1 l1.length c1] w fun e w' => ∃ v0_:Value,e = .returned (.agg #[v0_])∧Kd.R k27 27 w' w.heap.size (fun _=>True) v0_ r∧Below w.heap.size w w':=by
 have HG:=Aside0.mk hg;clear hg;have hu25:=Tryd.underlying25;have hu27:=Tryd.underlying27;have aw:=Aside0.mk aU;have aW:=Aside0.mk aV;clear aU aV;have HR1:=Aside0.mk hr1;have HC1:=Aside0.mk hc1;clear hr1 hc1;have HB:=Aside0.mk (Below.refl w.heap.size w);have H:((impl_ValidTree.f k a2).bind fun ag=>(if ag=true then (impl_Pick.j0 k l1 (decide ((l1.length:Int)>20)) a2) else (impl_Pick.j0 k l1 true a2)))=some r:=h;clear h;have aH:=Aside0.mk H;clear H
 go_enter Tryd.func26,Tryd.ntmps26
 go_upto_region 2 with (first|((with_reducible refine gd 2 rfl ?_);(try (refine gate_guard (by rfl) ?_;dsimp only));refine bx 2 25 (#[.slice ac a2.length ab]) ?_;intro aI hg w4 hbox hb;refine Ya4 (below_step (be HB.out) hb) (hbox) (bs hg (be HB.out)) (bs hg (be HB.out)) ?_;clear HB;intro HB a4 GW597 GE597;clear hb hbox hg)|((with_reducible refine gd 4 rfl ?_);(try (refine gate_guard (by rfl) ?_;dsimp only));refine bx 4 25 (#[.slice none 0 0]) ?_;intro ah hg w5 hbox hb;refine Ya7 (bb a4 hb) (below_step (bf HB.out) hb) (hbox) (bs hg (bf HB.out)) (bs hg (bf HB.out)) (bl hg a4) (br hg a4) ?_;clear a4 HB;intro a4 HB a5 GW598 GE598 al am;clear hb hbox hg)|((with_reducible refine gd 5 rfl ?_);(try (refine gate_guard (by rfl) ?_;dsimp only));refine bx 5 25 (#[.slice none 0 0]) ?_;intro ax hg w6 hbox hb;refine Ya10 (bb a4 hb) (bb a5 hb) (below_step (bf HB.out) hb) (hbox) (bs hg (bf HB.out)) (bs hg (bf HB.out)) (bl hg a4) (br hg a4) (bl hg a5) (br hg a5) ?_;clear a4 a5 HB;intro a4 a5 HB a6 GW599 GE599 ad ai ay aJ;clear hb hbox hg))
 (try simp only [Act.put,List.setIfInBounds_toArray,List.set_cons_zero,List.set_cons_succ])
 go_cut [15] (fun v15 wc => ∃ (kq:Nat) (az:Bool),v15 = .bool az∧Aside0 (impl_Pick.j0 kq l1 az a2=some r)∧Aside0 (kq≤k)∧Aside0 (wc.heap[aI]? = some (.cells #[(.slice ac a2.length ab)] 25 (0,0)))∧Aside0 (wc.heap[ah]? = some (.cells #[(.slice none 0 0)] 25 (0,0)))∧Aside0 (wc.heap[ax]? = some (.cells #[(.slice none 0 0)] 25 (0,0)))∧Aside0 (Below w.heap.size w wc))
 case first =>
  have H:=aH.out;clear aH;replace H:=Option.bind_eq_some_iff.mp H;obtain ⟨ag,A70,H⟩:=H;replace H:(if ag=true then (impl_Pick.j0 k l1 (decide ((l1.length:Int)>20)) a2) else (impl_Pick.j0 k l1 true a2))=some r:=H;have A7:=Aside0.mk A70;clear A70
  by_cases c8:ag=true
  ·subst c8
   have H1:(impl_Pick.j0 k l1 (decide ((l1.length:Int)>20)) a2)=some r:=by rw [if_pos rfl] at H;exact H
   clear H;have H:=H1;clear H1;have H':=Aside0.mk H;clear H;have hnb9:=al.out;have hnc9:=am.out;have hnb10:=ad.out;have hnc10:=ai.out;have ⟨aX,aY⟩:=Yc1 a4.out
   go_wp2_with (first|((with_reducible refine gc 18 rfl ?_);refine gl (some 9) _ (#[.agg #[.slice ac a2.length ab]]) Tryd.func18 ?_;(with_reducible refine (impl_ValidTree.calls k _ _ a2 true _ ?sideG ?side1 ?side2 A7.out).mono ?_);(case sideG=>exact gf HG.out HB.out);(case side1=>exact cb (Kd.C_below aw.out HB.out));(case side2=>exact aW.out);rintro e w12 ⟨rfl,hb⟩;refine ⟨_,rfl,?_⟩;refine Ya4 (bb a4 hb) (bb a5 hb) (bb a6 hb) (below_step (bf HB.out) hb) ?_;clear a4 a5 a6 HB;intro a4 a5 a6 HB;(try clear hb);(try clear hb2);(try clear hk);(try clear hi)))
   go_meet
   case rel=>exact ⟨_,(decide ((l1.length:Int)>20)),Ye1,H',⟨by first|omega|exact Nat.le_refl _⟩,⟨bk a4.out⟩,⟨bk a5.out⟩,⟨bk a6.out⟩,⟨bf HB.out⟩⟩
  ·replace c8:=Bool.eq_false_iff.mpr c8;subst c8
   have H1:(impl_Pick.j0 k l1 true a2)=some r:=by rw [if_neg (show ¬(false=true) by decide)] at H;exact H
   clear H;have H:=H1;clear H1;have H':=Aside0.mk H;clear H;have hnb13:=al.out;have hnc13:=am.out;have hnb14:=ad.out;have hnc14:=ai.out;have ⟨aZ,b0⟩:=Yc1 a4.out
   go_wp2_with (first|((with_reducible refine gc 18 rfl ?_);refine gl (some 9) _ (#[.agg #[.slice ac a2.length ab]]) Tryd.func18 ?_;(with_reducible refine (impl_ValidTree.calls k _ _ a2 false _ ?sideG ?side1 ?side2 A7.out).mono ?_);(case sideG=>exact gf HG.out HB.out);(case side1=>exact cb (Kd.C_below aw.out HB.out));(case side2=>exact aW.out);rintro e w16 ⟨rfl,hb⟩;refine ⟨_,rfl,?_⟩;refine Ya4 (bb a4 hb) (bb a5 hb) (bb a6 hb) (below_step (bf HB.out) hb) ?_;clear a4 a5 a6 HB;intro a4 a5 a6 HB;(try clear hb);(try clear hb2);(try clear hk);(try clear hi)))
   go_meet
   case rel=>exact ⟨_,(true),Ye1,H',⟨by first|omega|exact Nat.le_refl _⟩,⟨bk a4.out⟩,⟨bk a5.out⟩,⟨bk a6.out⟩,⟨bf HB.out⟩⟩
 case rest =>
  clear aH;(try clear c1);(try clear c2);(try clear p2);(try clear c8);(try clear c9);(try clear c10);(try clear c13);(try clear c14);(try clear aX);(try clear aZ);(try clear aY);(try clear b0);obtain ⟨kq,az,rfl,HA,HJ2,a4,a5,a6,HB⟩:=hcut
  cases kq with
  | zero=>exact absurd HA.out (by simp [impl_Pick.j0])
  | succ aK =>
   have H:=HA.out;clear HA;simp only [impl_Pick.j0] at H
   by_cases an:az=true
   ·subst an
    have H1:(some ([]:List (S27)))=some r:=by rw [if_pos rfl] at H;exact H
    clear H;have H:=H1;clear H1;obtain rfl:=Option.some.inj H;have hnb18:=ai.out;have hnc18:=ad.out;have hnb19:=aJ.out;have hnc19:=ay.out;have ⟨b8,b9⟩:=Yc1 a6.out;have hnb21:=am.out;have hnc21:=al.out;have ⟨ba,bd⟩:=Yc1 a5.out
    go_wp2
    refine bodyPost_ret (results_cell_row rfl _ _ ah 25 #[.slice none 0 0] (0,0) _ rfl (bp a5.out) Tryd.underlying25 rfl (by kernel_rfl)) rfl ?_;exact ⟨_,Ye2,nl,(bf HB.out)⟩
   ·replace an:=Bool.eq_false_iff.mpr an;subst an
    have H1:(impl_Pick.l0 aK l1 a2 (a2.length:Int) 0 ([]:List (S27)))=some r:=by rw [if_neg (show ¬(false=true) by decide)] at H;exact H
    clear H;have H:=H1;clear H1;have H':=Aside0.mk H;clear H;have hnb23:=al.out;have hnc23:=am.out;have hnb24:=ad.out;have hnc24:=ai.out;have ⟨bg,bh⟩:=Yc1 a4.out
    go_wp2
    go_loopg [20] aK (fun kq v20 w' => ∃ (a3:Int) (a9:List (S27)) (aj:Value),v20 = .int .i64 a3∧Aside0 (impl_Pick.l0 kq l1 a2 (a2.length:Int) a3 a9=some r)∧Aside0 (kq≤aK)∧Aside0 (Kd.R k27 27 w' w.heap.size (fun _=>True) aj a9)∧Aside0 (w'.heap[aI]? = some (.cells #[(.slice ac a2.length ab)] 25 (0,0)))∧Aside0 (w'.heap[ah]? = some (.cells #[(.slice none 0 0)] 25 (0,0)))∧Aside0 (w'.heap[ax]? = some (.cells #[aj] 25 (0,0)))∧Aside0 (Below w.heap.size w w'))
    case atStart=>exact ⟨(0),(([]:List (S27))),(.slice none 0 0),Ye1,H',⟨Nat.le_refl _⟩,⟨nl⟩,⟨bk a4.out⟩,⟨bk a5.out⟩,⟨bk a6.out⟩,⟨bf HB.out⟩⟩
    case round =>
     clear H';(try clear c1);(try clear c2);(try clear p2);(try clear c8);(try clear c9);(try clear c10);(try clear c13);(try clear c14);(try clear an);(try clear c18);(try clear c19);(try clear c21);(try clear c23);(try clear c24);(try clear aX);(try clear aZ);(try clear b8);(try clear ba);(try clear bg);(try clear aY);(try clear b0);(try clear b9);(try clear bd);(try clear bh);(try clear p2);obtain ⟨a3,a9,aj,rfl,HA,HK2,a7,a4,a5,a6,HB⟩:=hrel
     cases gk with
     | zero=>exact absurd HA.out (by simp [impl_Pick.l0])
     | succ k2 =>
      have H:=HA.out;clear HA;simp only [impl_Pick.l0] at H
      by_cases ak:a3<(a2.length:Int)
      ·rw [if_pos ak] at H
       have bi:decide (a3<(a2.length:Int))=true:=decide_eq_true ak;clear ak
       by_cases aA:0≤a3
       ·rw [if_pos aA] at H
        have c27b0:decide (0≤a3)=true:=decide_eq_true aA;clear aA
        by_cases aC:a3<(a2.length:Int)
        ·rw [if_pos aC] at H
         have c28b0:decide (a3<(a2.length:Int))=true:=decide_eq_true aC;clear aC;replace H:=Option.bind_eq_some_iff.mp H;obtain ⟨av,b1,H⟩:=H;replace H:(if av=true then (if a9.length<3518437208883 then (impl_Pick.l0 k2 l1 a2 (a2.length:Int) (wrap64 (a3+1)) (a9 ++ [(⟨(rd_T27 a2 a3).f0,(rd_T27 a2 a3).f1,(rd_T27 a2 a3).f2⟩:S27)])) else (none)) else (impl_Pick.l0 k2 l1 a2 (a2.length:Int) (wrap64 (a3+1)) a9))=some r:=H;have A29:=Aside0.mk b1;clear b1
         by_cases aD:av=true
         ·subst aD
          have H1:(if a9.length<3518437208883 then (impl_Pick.l0 k2 l1 a2 (a2.length:Int) (wrap64 (a3+1)) (a9 ++ [(⟨(rd_T27 a2 a3).f0,(rd_T27 a2 a3).f1,(rd_T27 a2 a3).f2⟩:S27)])) else (none))=some r:=by rw [if_pos rfl] at H;exact H
          clear H;have H:=H1;clear H1
          by_cases aE:a9.length<3518437208883
          ·rw [if_pos aE] at H
           have bj:=Aside0.mk aE;clear aE
           obtain ⟨aG,ao⟩:∃ y_:List (S27),y_=(a9 ++ [(⟨(rd_T27 a2 a3).f0,(rd_T27 a2 a3).f1,(rd_T27 a2 a3).f2⟩:S27)]):=⟨_,rfl⟩
           replace H:(impl_Pick.l0 k2 l1 a2 (a2.length:Int) (wrap64 (a3+1)) aG)=some r:=by first|(rw [ao];with_reducible exact H)|(have H2_:=(Option.bind_some _ _).symm.trans H;rw [ao];with_reducible exact H2_)|(have H2_:=(Option.bind_some _ _).symm.trans H;with_reducible exact H2_)|with_reducible exact H|(rw [ao];exact H)|exact H
           have bm:=Aside0.mk ao;clear ao;have H':=Aside0.mk H;clear H;have ae:0≤(a3:Int):=oda;have af:a3<(a2.length:Int):=oda;obtain ⟨b2,aM,bn,bo,bq⟩:=at_T27 (Kd.C_below aw.out HB.out) a3 ae af
           cases aM
           replace ae:=eq_true ae;replace af:=eq_true af
           go_wp2_with (first|((with_reducible refine gd 7 rfl ?_);(try (refine gate_guard (by rfl) ?_;dsimp only));refine bx 7 27 (#[.string (⟨#[]⟩:ByteArray),.string (⟨#[]⟩:ByteArray),.bool false]) ?_;intro aa hg w32 hbox hb;refine Ya14 (Kd.R_below (Kd.R_elderB (kr a7.out) aa (Nat.le_of_eq hg.symm)) hb) (bb a4 hb) (bb a5 hb) (bb a6 hb) (below_step (bf HB.out) hb) (hbox) (bs hg (bf HB.out)) (bs hg (bf HB.out)) (bl hg a4) (br hg a4) (bl hg a5) (br hg a5) (bl hg a6) (br hg a6) ?_;clear a7 a4 a5 a6 HB;intro a7 a4 a5 a6 HB a8 bu bv ap aN aq aQ ar aR;clear hb hbox hg;have hnb33:=aN.out;have hnc33:=ap.out;have hnb34:=aQ.out;have hnc34:=aq.out;have hnb35:=aR.out;have hnc35:=ar.out;have ⟨bA,bB,bC,bD,bE,bF⟩:=Yc3 a8.out)|((with_reducible refine gc 86 rfl ?_);refine gl (some 26) _ (#[.slice A1 l1.length c1,.func (.func 87) #[] #[.pointer (some ⟨aa,0,none⟩)]]) Tryd.func86 ?_;(with_reducible refine (slices_ContainsFunc_string_string.calls k2 _ _ l1 ((rd_T27 a2 a3).f0) ((rd_T27 a2 a3).f1) ((rd_T27 a2 a3).f2) true aa _ ?sideG ?side1 ?side2 ?sideB A29.out).mono ?_);(case sideB=>exact (bp a8.out));(case sideG=>exact gf HG.out HB.out);(case side1=>exact Kd.C_below HR1.out (bf HB.out));(case side2=>exact HC1.out);rintro e w37 ⟨rfl,hb⟩;refine ⟨_,rfl,?_⟩;refine Ya6 (Kd.R_below (rp a7.out (fun k_ hk=>hk.2)) hb) (bbf a4 ap hb) (bbf a5 aq hb) (bbf a6 ar hb) (blk_below (g:=aa) (o:=.cells #[.string ((rd_T27 a2 a3).f0),.string ((rd_T27 a2 a3).f1),.bool ((rd_T27 a2 a3).f2)] 27 (0,0)) (bp a8.out) hb) (below_step (bf HB.out) hb) ?_;clear a7 a4 a5 a6 a8 HB;intro a7 a4 a5 a6 a8 HB;(try clear hb);(try clear hb2);(try clear hk);(try clear hi);have hnb38:=ai.out;have hnc38:=ad.out;have hnb39:=aJ.out;have hnc39:=ay.out;have ⟨bG,bH⟩:=Yc1 a6.out;have ⟨bI,bJ,bK,bL,bM,bN⟩:=Yc3 a8.out)|((with_reducible refine gate_builtin (b:=.append) (xs:=#[.tmp 28,.tmp 30]) rfl ?_);(try (refine gate_guard (by rfl) ?_;dsimp only));at_builtin;refine Kd.R_append k27 (w0:=w) w.heap.size rfl (.tmp 28) (.tmp 30) 23 27 (.agg #[(.string ⟨#[]⟩),(.string ⟨#[]⟩),(.bool false)]) 40 rfl Tryd.underlying23 info27 rfl (by decide) (by omega) aj a9 (⟨(rd_T27 a2 a3).f0,(rd_T27 a2 a3).f1,(rd_T27 a2 a3).f2⟩:S27) [.string ((rd_T27 a2 a3).f0),.string ((rd_T27 a2 a3).f1),.bool ((rd_T27 a2 a3).f2)] (fun k_=>k_≠aa) (fun _=>False) rfl rfl ?aP (fun _ hk=>hk.elim) ?aF ?aO ?aB ?aS ?aL ?_;(case aP=>exact k27_mkM _ _ _ (⟨(rd_T27 a2 a3).f0,(rd_T27 a2 a3).f1,(rd_T27 a2 a3).f2⟩:S27));(case aB=>exact (bf HB.out));(case aF=>exact (fun k_ hk=>Kd.freshB (g:=aa) (o:=.cells #[.string ((rd_T27 a2 a3).f0),.string ((rd_T27 a2 a3).f1),.bool ((rd_T27 a2 a3).f2)] 27 (0,0)) (bk a8.out) k_ hk));(case aO=>exact (by (with_reducible repeat (first|apply Kd.R_alloc|apply Kd.R_drewN|apply Kd.R_drew));exact Kd.R_mono a7.out (fun _ hk=>hk.2)));(case aS=>exact (below_size (bf HB.out)));(case aL=>have:=bj.out;omega);intro v605 w42 ho hb hg hat;rw [←bm.out] at ho;refine Ya6 (blk_grown (g:=aI) (o:=.cells #[.slice (some b2) a2.length ab] 25 (0,0)) (bk a4.out) hg (Kd.R_ne a7.out a4.out (by decide))) (blk_grown (g:=ah) (o:=.cells #[.slice none 0 0] 25 (0,0)) (bk a5.out) hg (Kd.R_ne a7.out a5.out (by decide))) (blk_grown (g:=ax) (o:=.cells #[aj] 25 (0,0)) (bk a6.out) hg (Kd.R_ne a7.out a6.out (by decide))) (blk_grown (g:=aa) (o:=.cells #[.string ((rd_T27 a2 a3).f0),.string ((rd_T27 a2 a3).f1),.bool ((rd_T27 a2 a3).f2)] 27 (0,0)) (bk a8.out) hg (Kd.R_away a7.out (fun _ hk=>hk.2))) (hb) (ho) ?_;clear a4 a5 a6 a8 HB a7;intro a4 a5 a6 a8 HB b3;clear ho hb hg hat;obtain ⟨b4,b5,bw⟩:=Kd.R_slice b3.out;subst bw;have ⟨bO,bP⟩:=Yc1 a6.out))
           go_roundg k2
           case measure=>have:=HJ2.out;have:=HK2.out;omega
           case rel=>exact ⟨(wrap64 (a3+1)),(aG),(.slice b4 aG.length b5),Ye1,H',⟨by have:=HJ2.out;have:=HK2.out;omega⟩,⟨by (with_reducible repeat (first|apply Kd.R_alloc|apply Kd.R_drewN|apply Kd.R_drew));exact Kd.R_mono (Kd.R_far (p:=⟨ax,0,none⟩) (Kd.R_types b3.out a6.out (by decide)) (fun _ hk=>hk.2) (.slice b4 aG.length b5)) (fun _ hk=>trivial)⟩,⟨bkf a4.out ad.out⟩,⟨bkf a5.out ay.out⟩,⟨bp a6.out⟩,⟨bf HB.out⟩⟩
          ·rw [if_neg aE] at H
           exact absurd H (by simp)
         ·replace aD:=Bool.eq_false_iff.mpr aD;subst aD
          have H1:(impl_Pick.l0 k2 l1 a2 (a2.length:Int) (wrap64 (a3+1)) a9)=some r:=by rw [if_neg (show ¬(false=true) by decide)] at H;exact H
          clear H;have H:=H1;clear H1;have H':=Aside0.mk H;clear H;have ae:0≤(a3:Int):=oda;have af:a3<(a2.length:Int):=oda;obtain ⟨b2,aM,bn,bo,bq⟩:=at_T27 (Kd.C_below aw.out HB.out) a3 ae af
          cases aM
          replace ae:=eq_true ae;replace af:=eq_true af
          go_wp2_with (first|((with_reducible refine gd 7 rfl ?_);(try (refine gate_guard (by rfl) ?_;dsimp only));refine bx 7 27 (#[.string (⟨#[]⟩:ByteArray),.string (⟨#[]⟩:ByteArray),.bool false]) ?_;intro aa hg w45 hbox hb;refine Ya14 (Kd.R_below (Kd.R_elderB (kr a7.out) aa (Nat.le_of_eq hg.symm)) hb) (bb a4 hb) (bb a5 hb) (bb a6 hb) (below_step (bf HB.out) hb) (hbox) (bs hg (bf HB.out)) (bs hg (bf HB.out)) (bl hg a4) (br hg a4) (bl hg a5) (br hg a5) (bl hg a6) (br hg a6) ?_;clear a7 a4 a5 a6 HB;intro a7 a4 a5 a6 HB a8 bu bv ap aN aq aQ ar aR;clear hb hbox hg;have hnb46:=aN.out;have hnc46:=ap.out;have hnb47:=aQ.out;have hnc47:=aq.out;have hnb48:=aR.out;have hnc48:=ar.out;have ⟨bQ,bR,bS,bT,bU,bV⟩:=Yc3 a8.out)|((with_reducible refine gc 86 rfl ?_);refine gl (some 26) _ (#[.slice A1 l1.length c1,.func (.func 87) #[] #[.pointer (some ⟨aa,0,none⟩)]]) Tryd.func86 ?_;(with_reducible refine (slices_ContainsFunc_string_string.calls k2 _ _ l1 ((rd_T27 a2 a3).f0) ((rd_T27 a2 a3).f1) ((rd_T27 a2 a3).f2) false aa _ ?sideG ?side1 ?side2 ?sideB A29.out).mono ?_);(case sideB=>exact (bp a8.out));(case sideG=>exact gf HG.out HB.out);(case side1=>exact Kd.C_below HR1.out (bf HB.out));(case side2=>exact HC1.out);rintro e w50 ⟨rfl,hb⟩;refine ⟨_,rfl,?_⟩;refine Ya6 (Kd.R_below (rp a7.out (fun k_ hk=>hk.2)) hb) (bbf a4 ap hb) (bbf a5 aq hb) (bbf a6 ar hb) (blk_below (g:=aa) (o:=.cells #[.string ((rd_T27 a2 a3).f0),.string ((rd_T27 a2 a3).f1),.bool ((rd_T27 a2 a3).f2)] 27 (0,0)) (bp a8.out) hb) (below_step (bf HB.out) hb) ?_;clear a7 a4 a5 a6 a8 HB;intro a7 a4 a5 a6 a8 HB;(try clear hb);(try clear hb2);(try clear hk);(try clear hi)))
          go_roundg k2
          case measure=>have:=HJ2.out;have:=HK2.out;omega
          case rel=>exact ⟨(wrap64 (a3+1)),(a9),(aj),Ye1,H',⟨by have:=HJ2.out;have:=HK2.out;omega⟩,⟨by (with_reducible repeat (first|apply Kd.R_alloc|apply Kd.R_drewN|apply Kd.R_drew));exact Kd.R_mono a7.out (fun _ hk=>trivial)⟩,⟨bk a4.out⟩,⟨bk a5.out⟩,⟨bk a6.out⟩,⟨bf HB.out⟩⟩
        ·rw [if_neg aC] at H
         exact absurd H (by simp)
       ·rw [if_neg aA] at H
        exact absurd H (by simp)
      ·rw [if_neg ak] at H
       have bi:decide (a3<(a2.length:Int))=false:=decide_eq_false ak;clear ak;obtain rfl:=Option.some.inj H;have hnb51:=ai.out;have hnc51:=ad.out;have hnb52:=aJ.out;have hnc52:=ay.out;have ⟨bW,bX⟩:=Yc1 a6.out;obtain ⟨b6,b7,bz⟩:=Kd.R_slice a7.out;subst bz;have hnb55:=am.out;have hnc55:=al.out;have ⟨bY,bZ⟩:=Yc1 a5.out
       go_wp2
       refine bodyPost_ret (results_cell_row rfl _ _ ah 25 #[.slice b6 a9.length b7] (0,0) _ rfl (bp a5.out) Tryd.underlying25 rfl (by kernel_rfl)) rfl ?_;exact ⟨_,Ye2,by (with_reducible repeat (first|apply Kd.R_alloc|apply Kd.R_drewN|apply Kd.R_drew));exact Kd.R_mono (Kd.R_far (p:=⟨ah,0,none⟩) (Kd.R_types a7.out a5.out (by decide)) (fun _ hk=>hk.2) (.slice b6 a9.length b7)) (fun _ hk=>trivial),(bf HB.out)⟩

end Go.Proofs.YtknagppkeodggaaDoor.P


namespace Go.Proofs.YtknagppkeodggaaDoor.P
open Go.RowKit Go.Proofs.YtknagppkeodggaaDoorW.PrintWords Go.Proofs.YtknagppkeodggaaDoorW.PrintLast Go.Proofs.YtknagppkeodggaaDoorW.PrintMore
attribute [local go_sem] max2_int min2_int max_two min_two max_three min_three max_four min_four
set_option linter.unusedVariables false
set_option linter.unusedSimpArgs false

attribute [local go_sem high] eqA27
def laws_wTree.l0:Nat→Int→List (S27)→List (S27)→Option (Bool)
 | 0,_,_,_=>none
 | k+1,x5,ak,al=>if x5<(ak.length:Int) then (if 0≤x5 then (if x5<(al.length:Int) then (if (!((((rd_T27 ak x5).f0).toList)==(((rd_T27 al x5).f0).toList))||(!((((rd_T27 ak x5).f1).toList)==(((rd_T27 al x5).f1).toList))||(!(((rd_T27 ak x5).f2)==((rd_T27 al x5).f2)))))=true then (some false) else (laws_wTree.l0 k (wrap64 (x5+1)) ak al)) else (none)) else (none)) else (some true)
def laws_wTree.f (k:Nat) (a4:List (S27)) (a5:List (S27)):Option (Bool):=if (a4.length:Int)=(a5.length:Int) then (laws_wTree.l0 k 0 a4 a5) else (some false)
theorem laws_wTree.mono_l:∀ k,(∀ y0 y1 y2,LeO (laws_wTree.l0 k y0 y1 y2) (laws_wTree.l0 (k+1) y0 y1 y2))
 | 0=>fun _ _ _ r h=>by simp [laws_wTree.l0] at h
 | k + 1 => by
  have ih0:=laws_wTree.mono_l k
  ·intro y0 y1 y2
   unfold laws_wTree.l0
   repeat' first
   | (with_reducible exact ih0 _ _ _)
   | (with_reducible exact LeO.refl _)
   | (with_reducible exact LeO.none _)
   | (with_reducible refine LeO.ite ?_ ?_)
   | (with_reducible refine LeO.bind ?_ (fun _ => ?_))
   | exact ih0 _ _ _
   | exact LeO.none _
   | refine LeO.ite ?_ ?_
   | refine LeO.bind ?_ (fun _ => ?_)
theorem laws_wTree.mono:∀ a0 a1 k,LeO (laws_wTree.f k a0 a1) (laws_wTree.f (k+1) a0 a1):=by
 intro a0 a1 k;have ih0:=laws_wTree.mono_l k
 unfold laws_wTree.f
 repeat' first
   | (with_reducible exact ih0 _ _ _)
   | (with_reducible exact LeO.refl _)
   | (with_reducible exact LeO.none _)
   | (with_reducible refine LeO.ite ?_ ?_)
   | (with_reducible refine LeO.bind ?_ (fun _ => ?_))
   | exact ih0 _ _ _
   | exact LeO.none _
   | refine LeO.ite ?_ ?_
   | refine LeO.bind ?_ (fun _ => ?_)
set_option maxHeartbeats 8000000 in
set_option maxRecDepth 100000 in
theorem laws_wTree.calls (k : Nat) (a9 : Option Addr) (aa : Nat) (a4 : List (S27)) (ab : Option Addr) (ac : Nat) (a5 : List (S27)) (r : Bool) (w : World) (az : Kd.C k27 w a9 a4.length a4) (aA : a4.length ≤ aa) (aB : Kd.C k27 w ab a5.length a5) (aC : a5.length ≤ ac) (h : laws_wTree.f k a4 a5 = some r) :
  Calls Tryd.prog 16 #[.agg #[.slice a9 a4.length aa],.agg #[.slice ab a5.length ac]] w fun e w'=>e = .returned (.bool r)∧Below w.heap.size w w':=by
 have hu25:=Tryd.underlying25;have hu27:=Tryd.underlying27;have aD:=Aside0.mk az;have HC0_0:=Aside0.mk aA;clear az aA;have aE:=Aside0.mk aB;have HC1_0:=Aside0.mk aC;clear aB aC;have HB:=Aside0.mk (Below.refl w.heap.size w);have H:(if (a4.length:Int)=(a5.length:Int) then (laws_wTree.l0 k 0 a4 a5) else (some false))=some r:=h;clear h
 by_cases c3:(a4.length:Int)=(a5.length:Int)
 ·rw [if_pos c3] at H
  have aF:((a4.length:Int)==(a5.length:Int))=true:=beq_iff_eq.mpr c3;have aG:((a4.length:Int) != (a5.length:Int))=false:=bne_eq_false_iff_eq.mpr c3
  have aH:(a4.length==a5.length)=true:=by first|simpa using c3|(simp at c3 ⊢; omega)
  clear c3;have H':=Aside0.mk H;clear H
  go_enter Tryd.func16,Tryd.ntmps16
  go_wp2_with (first|((with_reducible refine gd 2 rfl ?_);refine bx 2 25 (#[.slice a9 a4.length aa]) ?_;intro ah hg w4 hbox hb;refine Ya4 (below_step (be HB.out) hb) (hbox) (bs hg (be HB.out)) (bs hg (be HB.out)) ?_;clear HB;intro HB a2 am an;clear hb hbox hg)|((with_reducible refine gd 3 rfl ?_);refine bx 3 25 (#[.slice ab a5.length ac]) ?_;intro ai hg w5 hbox hb;refine Ya7 (bb a2 hb) (below_step (bf HB.out) hb) (hbox) (bs hg (bf HB.out)) (bs hg (bf HB.out)) (bl hg a2) (br hg a2) ?_;clear a2 HB;intro a2 HB a6 ao ap a7 a8;clear hb hbox hg;have aI:=a7.out;have aJ:=a8.out;have ⟨ar,au⟩:=Yc1 a2.out;have ⟨av,aw⟩:=Yc1 a6.out))
  try have ⟨av,aw⟩:=Yc1 a6.out
  repeat (go_quiet (first|((with_reducible refine gd 2 rfl ?_);refine bx 2 25 (#[.slice a9 a4.length aa]) ?_;intro ah hg w4 hbox hb;refine Ya4 (below_step (be HB.out) hb) (hbox) (bs hg (be HB.out)) (bs hg (be HB.out)) ?_;clear HB;intro HB a2 am an;clear hb hbox hg)|((with_reducible refine gd 3 rfl ?_);refine bx 3 25 (#[.slice ab a5.length ac]) ?_;intro ai hg w5 hbox hb;refine Ya7 (bb a2 hb) (below_step (bf HB.out) hb) (hbox) (bs hg (bf HB.out)) (bs hg (bf HB.out)) (bl hg a2) (br hg a2) ?_;clear a2 HB;intro a2 HB a6 ao ap a7 a8;clear hb hbox hg;have aI:=a7.out;have aJ:=a8.out;have ⟨ar,au⟩:=Yc1 a2.out));try go_wp2_with (first|((with_reducible refine gd 2 rfl ?_);refine bx 2 25 (#[.slice a9 a4.length aa]) ?_;intro ah hg w4 hbox hb;refine Ya4 (below_step (be HB.out) hb) (hbox) (bs hg (be HB.out)) (bs hg (be HB.out)) ?_;clear HB;intro HB a2 am an;clear hb hbox hg)|((with_reducible refine gd 3 rfl ?_);refine bx 3 25 (#[.slice ab a5.length ac]) ?_;intro ai hg w5 hbox hb;refine Ya7 (bb a2 hb) (below_step (bf HB.out) hb) (hbox) (bs hg (bf HB.out)) (bs hg (bf HB.out)) (bl hg a2) (br hg a2) ?_;clear a2 HB;intro a2 HB a6 ao ap a7 a8;clear hb hbox hg;have aI:=a7.out;have aJ:=a8.out;have ⟨ar,au⟩:=Yc1 a2.out;have ⟨av,aw⟩:=Yc1 a6.out)))
  go_loopg [5] k (fun kq v5 w' => ∃ (a3:Int),v5 = .int .i64 a3∧Aside0 (laws_wTree.l0 kq a3 a4 a5=some r)∧Aside0 (kq≤k)∧Aside0 (w'.heap[ah]? = some (.cells #[(.slice a9 a4.length aa)] 25 (0,0)))∧Aside0 (w'.heap[ai]? = some (.cells #[(.slice ab a5.length ac)] 25 (0,0)))∧Aside0 (Below w.heap.size w w'))
  case atStart=>exact ⟨(0),Ye1,H',⟨Nat.le_refl _⟩,⟨bk a2.out⟩,⟨bk a6.out⟩,⟨bf HB.out⟩⟩
  case round =>
   clear H';(try clear c1);(try clear p2);(try clear c3);(try clear aF);(try clear aG);(try clear aH);(try clear c6);(try clear ar);(try clear av);(try clear au);(try clear aw);obtain ⟨a3,rfl,HA,HK1,a2,a6,HB⟩:=hrel
   cases gk with
   | zero=>exact absurd HA.out (by simp [laws_wTree.l0])
   | succ k1 =>
    have H:=HA.out;clear HA;simp only [laws_wTree.l0] at H
    by_cases c9:a3<(a4.length:Int)
    ·rw [if_pos c9] at H
     have aQ:decide (a3<(a4.length:Int))=true:=decide_eq_true c9;clear c9
     by_cases c10:0≤a3
     ·rw [if_pos c10] at H
      have c10b0:decide (0≤a3)=true:=decide_eq_true c10;clear c10
      by_cases aq:a3<(a5.length:Int)
      ·rw [if_pos aq] at H
       have c11b0:decide (a3<(a5.length:Int))=true:=decide_eq_true aq;clear aq
       by_cases aj:(!((((rd_T27 a4 a3).f0).toList)==(((rd_T27 a5 a3).f0).toList))||(!((((rd_T27 a4 a3).f1).toList)==(((rd_T27 a5 a3).f1).toList))||(!(((rd_T27 a4 a3).f2)==((rd_T27 a5 a3).f2)))))=true
       ·rw [if_pos aj] at H
        have aR:(!((((rd_T27 a4 a3).f0).toList)==(((rd_T27 a5 a3).f0).toList))||(!((((rd_T27 a4 a3).f1).toList)==(((rd_T27 a5 a3).f1).toList))||(!(((rd_T27 a4 a3).f2)==((rd_T27 a5 a3).f2)))))=true:=aj;clear aj;obtain rfl:=Option.some.inj H;have hnb13:=a7.out;have hnc13:=a8.out;have ⟨b0,b1⟩:=Yc1 a2.out;have ad:0≤(a3:Int):=oda;have ae:a3<(a4.length:Int):=oda;obtain ⟨aS,ax,aT,aU,aV⟩:=at_T27 (Kd.C_below aD.out HB.out) a3 ad ae
        cases ax
        replace ad:=eq_true ad;replace ae:=eq_true ae;have ⟨b2,b3⟩:=Yc1 a6.out;have af:0≤(a3:Int):=oda;have ag:a3<(a5.length:Int):=oda;obtain ⟨aW,ay,aX,aY,aZ⟩:=at_T27 (Kd.C_below aE.out HB.out) a3 af ag
        cases ay
        replace af:=eq_true af;replace ag:=eq_true ag
        go_wp2
        repeat (go_quiet (fail);try go_wp2)
        go_ret
        exact ⟨Ye2,(bf HB.out)⟩
       ·rw [if_neg aj] at H
        have aR:(!((((rd_T27 a4 a3).f0).toList)==(((rd_T27 a5 a3).f0).toList))||(!((((rd_T27 a4 a3).f1).toList)==(((rd_T27 a5 a3).f1).toList))||(!(((rd_T27 a4 a3).f2)==((rd_T27 a5 a3).f2)))))=false:=by simpa using aj
        clear aj;have H':=Aside0.mk H;clear H;have hnb16:=a7.out;have hnc16:=a8.out;have ⟨b4,b5⟩:=Yc1 a2.out;have ad:0≤(a3:Int):=oda;have ae:a3<(a4.length:Int):=oda;obtain ⟨aS,ax,aT,aU,aV⟩:=at_T27 (Kd.C_below aD.out HB.out) a3 ad ae
        cases ax
        replace ad:=eq_true ad;replace ae:=eq_true ae;have ⟨b6,b7⟩:=Yc1 a6.out;have af:0≤(a3:Int):=oda;have ag:a3<(a5.length:Int):=oda;obtain ⟨aW,ay,aX,aY,aZ⟩:=at_T27 (Kd.C_below aE.out HB.out) a3 af ag
        cases ay
        replace af:=eq_true af;replace ag:=eq_true ag
        go_wp2
        repeat (go_quiet (fail);try go_wp2)
        go_roundg k1
        case measure=>have:=HK1.out;omega
        case rel=>exact ⟨(wrap64 (a3+1)),Ye1,H',⟨by have:=HK1.out;omega⟩,⟨bk a2.out⟩,⟨bk a6.out⟩,⟨bf HB.out⟩⟩
      ·rw [if_neg aq] at H
       exact absurd H (by simp)
     ·rw [if_neg c10] at H
      exact absurd H (by simp)
    ·rw [if_neg c9] at H
     have aQ:decide (a3<(a4.length:Int))=false:=decide_eq_false c9;clear c9;obtain rfl:=Option.some.inj H;have hnb19:=a7.out;have hnc19:=a8.out;have ⟨b8,b9⟩:=Yc1 a2.out
     go_wp2
     repeat (go_quiet (fail);try go_wp2)
     go_ret
     exact ⟨Ye2,(bf HB.out)⟩
 ·rw [if_neg c3] at H
  have aF:((a4.length:Int)==(a5.length:Int))=false:=beq_eq_false_iff_ne.mpr c3;have aG:((a4.length:Int) != (a5.length:Int))=true:=bne_iff_ne.mpr c3
  have aH:(a4.length==a5.length)=false:=by first|simpa using c3|(simp at c3 ⊢; omega)
  obtain rfl:=Option.some.inj H
  go_enter Tryd.func16,Tryd.ntmps16
  go_wp2_with (first|((with_reducible refine gd 2 rfl ?_);refine bx 2 25 (#[.slice a9 a4.length aa]) ?_;intro ah hg w21 hbox hb;refine Ya4 (below_step (be HB.out) hb) (hbox) (bs hg (be HB.out)) (bs hg (be HB.out)) ?_;clear HB;intro HB a2 am an;clear hb hbox hg)|((with_reducible refine gd 3 rfl ?_);refine bx 3 25 (#[.slice ab a5.length ac]) ?_;intro ai hg w22 hbox hb;refine Ya7 (bb a2 hb) (below_step (bf HB.out) hb) (hbox) (bs hg (bf HB.out)) (bs hg (bf HB.out)) (bl hg a2) (br hg a2) ?_;clear a2 HB;intro a2 HB a6 ao ap a7 a8;clear hb hbox hg;have aK:=a7.out;have aL:=a8.out;have ⟨aM,aN⟩:=Yc1 a2.out;have ⟨aO,aP⟩:=Yc1 a6.out))
  try have ⟨aO,aP⟩:=Yc1 a6.out
  repeat (go_quiet (first|((with_reducible refine gd 2 rfl ?_);refine bx 2 25 (#[.slice a9 a4.length aa]) ?_;intro ah hg w21 hbox hb;refine Ya4 (below_step (be HB.out) hb) (hbox) (bs hg (be HB.out)) (bs hg (be HB.out)) ?_;clear HB;intro HB a2 am an;clear hb hbox hg)|((with_reducible refine gd 3 rfl ?_);refine bx 3 25 (#[.slice ab a5.length ac]) ?_;intro ai hg w22 hbox hb;refine Ya7 (bb a2 hb) (below_step (bf HB.out) hb) (hbox) (bs hg (bf HB.out)) (bs hg (bf HB.out)) (bl hg a2) (br hg a2) ?_;clear a2 HB;intro a2 HB a6 ao ap a7 a8;clear hb hbox hg;have aK:=a7.out;have aL:=a8.out;have ⟨aM,aN⟩:=Yc1 a2.out));try go_wp2_with (first|((with_reducible refine gd 2 rfl ?_);refine bx 2 25 (#[.slice a9 a4.length aa]) ?_;intro ah hg w21 hbox hb;refine Ya4 (below_step (be HB.out) hb) (hbox) (bs hg (be HB.out)) (bs hg (be HB.out)) ?_;clear HB;intro HB a2 am an;clear hb hbox hg)|((with_reducible refine gd 3 rfl ?_);refine bx 3 25 (#[.slice ab a5.length ac]) ?_;intro ai hg w22 hbox hb;refine Ya7 (bb a2 hb) (below_step (bf HB.out) hb) (hbox) (bs hg (bf HB.out)) (bs hg (bf HB.out)) (bl hg a2) (br hg a2) ?_;clear a2 HB;intro a2 HB a6 ao ap a7 a8;clear hb hbox hg;have aK:=a7.out;have aL:=a8.out;have ⟨aM,aN⟩:=Yc1 a2.out;have ⟨aO,aP⟩:=Yc1 a6.out)))
  go_ret
  exact ⟨Ye2,(bf HB.out)⟩

end Go.Proofs.YtknagppkeodggaaDoor.P


namespace Go.Proofs.YtknagppkeodggaaDoor.P
open Go.RowKit Go.Proofs.YtknagppkeodggaaDoorW.PrintWords Go.Proofs.YtknagppkeodggaaDoorW.PrintLast Go.Proofs.YtknagppkeodggaaDoorW.PrintMore
attribute [local go_sem] max2_int min2_int max_two min_two max_three min_three max_four min_four
set_option linter.unusedVariables false
set_option linter.unusedSimpArgs false

def spec_l1Many.l0:Nat→ByteArray→Int→ByteArray→Option (ByteArray)
 | 0,_,_,_=>none
 | k+1,x0,x1,x5=>if x1>0 then (if (Int.tmod x1 2)=1 then (if x5.size+x0.size≤9223372036854775807 then (if x0.size+x0.size≤9223372036854775807 then (spec_l1Many.l0 k (x0++x0) (wrap64 (Int.tdiv x1 2)) (x5++x0)) else (none)) else (none)) else (if x0.size+x0.size≤9223372036854775807 then (spec_l1Many.l0 k (x0++x0) (wrap64 (Int.tdiv x1 2)) x5) else (none))) else (some x5)
def spec_l1Many.f (k:Nat) (a0:ByteArray) (a1:Int):Option (ByteArray):=spec_l1Many.l0 k a0 a1 (⟨#[]⟩:ByteArray)
theorem spec_l1Many.mono_l:∀ k,(∀ y0 y1 y2,LeO (spec_l1Many.l0 k y0 y1 y2) (spec_l1Many.l0 (k+1) y0 y1 y2))
 | 0=>fun _ _ _ r h=>by simp [spec_l1Many.l0] at h
 | k + 1 => by
  have ih0:=spec_l1Many.mono_l k
  ·intro y0 y1 y2
   unfold spec_l1Many.l0
   repeat' first
   | (with_reducible exact ih0 _ _ _)
   | (with_reducible exact LeO.refl _)
   | (with_reducible exact LeO.none _)
   | (with_reducible refine LeO.ite ?_ ?_)
   | (with_reducible refine LeO.bind ?_ (fun _ => ?_))
   | exact ih0 _ _ _
   | exact LeO.none _
   | refine LeO.ite ?_ ?_
   | refine LeO.bind ?_ (fun _ => ?_)
theorem spec_l1Many.mono:∀ a0 a1 k,LeO (spec_l1Many.f k a0 a1) (spec_l1Many.f (k+1) a0 a1):=by
 intro a0 a1 k;have ih0:=spec_l1Many.mono_l k
 unfold spec_l1Many.f
 repeat' first
   | (with_reducible exact ih0 _ _ _)
   | (with_reducible exact LeO.refl _)
   | (with_reducible exact LeO.none _)
   | (with_reducible refine LeO.ite ?_ ?_)
   | (with_reducible refine LeO.bind ?_ (fun _ => ?_))
   | exact ih0 _ _ _
   | exact LeO.none _
   | refine LeO.ite ?_ ?_
   | refine LeO.bind ?_ (fun _ => ?_)
set_option maxHeartbeats 8000000 in
set_option maxRecDepth 100000 in
theorem spec_l1Many.calls (k:Nat) (a0:ByteArray) (a1:Int) (r:ByteArray) (w:World) (h:spec_l1Many.f k a0 a1=some r) :
  Calls Tryd.prog 68 #[.string a0,.int .i64 a1] w fun e w'=>e = .returned (.string r)∧Drawn0 w w':=by
 have H:(spec_l1Many.l0 k a0 a1 (⟨#[]⟩:ByteArray))=some r:=h;clear h;have H':=Aside0.mk H;clear H
 go_enter Tryd.func68,Tryd.ntmps68
 go_wp2
 go_loopg [0,1,5] k (fun kq v0 v1 v5 w' => ∃ (a2:ByteArray) (a3:Int) (a4:ByteArray),v0 = .string a2∧v1 = .int .i64 a3∧v5 = .string a4∧Aside0 (spec_l1Many.l0 kq a2 a3 a4=some r)∧Aside0 (kq≤k)∧Drawn0 w w')
 case atStart=>exact ⟨(a0),(a1),((⟨#[]⟩:ByteArray)),Ye1,Ye1,Ye1,H',⟨Nat.le_refl _⟩,dz⟩
 case round =>
  clear H';(try clear p2);obtain ⟨a2,a3,a4,rfl,rfl,rfl,HA,HK1,⟨m1,rfl⟩⟩:=hrel
  cases gk with
  | zero=>exact absurd HA.out (by simp [spec_l1Many.l0])
  | succ k1 =>
   have H:=HA.out;clear HA;simp only [spec_l1Many.l0] at H
   by_cases c3:a3>0
   ·rw [if_pos c3] at H
    have a5:decide (0<a3)=true:=decide_eq_true c3;clear c3
    by_cases c4:(Int.tmod a3 2)=1
    ·rw [if_pos c4] at H
     have a6:((Int.tmod a3 2)==1)=true:=beq_iff_eq.mpr c4;have a7:((Int.tmod a3 2) != 1)=false:=bne_eq_false_iff_eq.mpr c4;clear c4
     by_cases c5:a4.size+a2.size≤9223372036854775807
     ·rw [if_pos c5] at H
      have c5b0:=eq_true c5;have c5b1:decide (a4.size+a2.size≤9223372036854775807)=true:=decide_eq_true c5
      try have c5b2:(9223372036854775807<a4.size+a2.size)=False:=eq_false (Nat.not_lt.2 c5)
      by_cases c6:a2.size+a2.size≤9223372036854775807
      ·rw [if_pos c6] at H
       have c6b0:=eq_true c6;have c6b1:decide (a2.size+a2.size≤9223372036854775807)=true:=decide_eq_true c6
       try have c6b2:(9223372036854775807<a2.size+a2.size)=False:=eq_false (Nat.not_lt.2 c6)
       have H':=Aside0.mk H;clear H
       go_wp2
       go_roundg k1
       case measure=>have:=HK1.out;omega
       case rel=>exact ⟨(a2++a2),(wrap64 (Int.tdiv a3 2)),(a4++a2),Ye1,Ye1,Ye1,H',⟨by have:=HK1.out;omega⟩,dz⟩
      ·rw [if_neg c6] at H
       exact absurd H (by simp)
     ·rw [if_neg c5] at H
      exact absurd H (by simp)
    ·rw [if_neg c4] at H
     have a6:((Int.tmod a3 2)==1)=false:=beq_eq_false_iff_ne.mpr c4;have a7:((Int.tmod a3 2) != 1)=true:=bne_iff_ne.mpr c4
     by_cases c7:a2.size+a2.size≤9223372036854775807
     ·rw [if_pos c7] at H
      have c7b0:=eq_true c7;have c7b1:decide (a2.size+a2.size≤9223372036854775807)=true:=decide_eq_true c7
      try have c7b2:(9223372036854775807<a2.size+a2.size)=False:=eq_false (Nat.not_lt.2 c7)
      have H':=Aside0.mk H;clear H
      go_wp2
      go_roundg k1
      case measure=>have:=HK1.out;omega
      case rel=>exact ⟨(a2++a2),(wrap64 (Int.tdiv a3 2)),(a4),Ye1,Ye1,Ye1,H',⟨by have:=HK1.out;omega⟩,dz⟩
     ·rw [if_neg c7] at H
      exact absurd H (by simp)
   ·rw [if_neg c3] at H
    have a5:decide (0<a3)=false:=decide_eq_false c3;clear c3;obtain rfl:=Option.some.inj H
    go_wp2
    go_ret
    exact ⟨Ye1,dz⟩

end Go.Proofs.YtknagppkeodggaaDoor.P


namespace Go.Proofs.YtknagppkeodggaaDoor.P
open Go.RowKit Go.Proofs.YtknagppkeodggaaDoorW.PrintWords Go.Proofs.YtknagppkeodggaaDoorW.PrintLast Go.Proofs.YtknagppkeodggaaDoorW.PrintMore
attribute [local go_sem] max2_int min2_int max_two min_two max_three min_three max_four min_four
set_option linter.unusedVariables false
set_option linter.unusedSimpArgs false

/-- A state of type 173 at block g of W; what its slices lead to came in by w0. -/
def IsS173 (w0 W:World) (g:Nat) (f0:List Int) (f1:Int):Prop:=∃ A0 c0,W.heap[g]? = some (.cells #[.slice A0 f0.length c0,.int .i64 f1] 173 (0,0))∧w0.heap.size≤g∧Kd.C (Kd.int .u8) w0 A0 f0.length f0
theorem IsS173.grown {w0 W:World} {g:Nat} {f0:List Int} {f1:Int} {W1:World} {row:Option Nat} (h:IsS173 w0 W g f0 f1) (hw:W.grownBy W1 row) (hne:some g≠row):IsS173 w0 W1 g f0 f1:=by
 obtain ⟨A0,c0,hb,hg,hr0⟩:=h
 exact ⟨A0,c0,blk_grown hb hw hne,hg,hr0⟩
theorem IsS173.own_neN {w0 W:World} {g:Nat} {f0:List Int} {f1:Int} {α:Type} {d:Kd α} {e:Nat} {base:Nat} {ok:Nat→Prop} {v:Value} {xs:List α} (h:IsS173 w0 W g f0 f1) (ho:Kd.N d e W base ok v xs) (ht:e≠173):some g≠v.ownBlock:=by
 obtain ⟨A0,c0,hb,hg,hr0⟩:=h
 exact Kd.N_ne ho hb ht
theorem IsS173.fresh {w0 W:World} {g:Nat} {f0:List Int} {f1:Int} (h:IsS173 w0 W g f0 f1):∀ k,W.heap.size≤k→k≠g:=by
 obtain ⟨A0,c0,hb,hg,hr0⟩:=h
 exact Kd.freshB hb
theorem IsS173.kept {w0 W:World} {g:Nat} {f0:List Int} {f1:Int} {W1:World} {S:Nat→Prop} (h:IsS173 w0 W g f0 f1) (hk:Kept W W1 S) (hne:¬ S g):IsS173 w0 W1 g f0 f1:=by
 obtain ⟨A0,c0,hb,hg,hr0⟩:=h
 exact ⟨A0,c0,blk_kept hb hk hne,hg,hr0⟩
theorem IsS173.below {w0 W:World} {g:Nat} {f0:List Int} {f1:Int} {W1:World} (h:IsS173 w0 W g f0 f1) (hw:Below W.heap.size W W1):IsS173 w0 W1 g f0 f1:=h.grown (grown_of_below hw none) (by simp)
theorem IsS173.alloc {w0 W:World} {g:Nat} {f0:List Int} {f1:Int} (h:IsS173 w0 W g f0 f1) (o:Obj):IsS173 w0 (W.alloc o) g f0 f1:=h.below (below_alloc (Below.refl _ _) o)
theorem IsS173.drewN {w0 W:World} {g:Nat} {f0:List Int} {f1:Int} (h:IsS173 w0 W g f0 f1) (m:Nat):IsS173 w0 (W.drewN m) g f0 f1:=h
theorem IsS173.drew {w0 W:World} {g:Nat} {f0:List Int} {f1:Int} (h:IsS173 w0 W g f0 f1):IsS173 w0 W.drew g f0 f1:=h
theorem IsS173.at_ {w0 W:World} {g:Nat} {f0:List Int} {f1:Int} {w':World} {m:Nat} (hq:W.drewN m=w') (h:IsS173 w0 W g f0 f1):IsS173 w0 w' g f0 f1:=by subst hq;exact IsS173.drewN h m
theorem IsS173.apart {w0 W:World} {g:Nat} {f0:List Int} {f1:Int} {α:Type} {d:Kd α} {e:Nat} {base:Nat} {ok:Nat→Prop} {v:Value} {xs:List α} (h:IsS173 w0 W g f0 f1) (ho:d.R e W base ok v xs) (ht:∀ q,q ∈ e :: d.E→q≠173):d.R e W base (fun k=>ok k∧k≠g) v xs:=by
 obtain ⟨A0,c0,hb,hg,hr0⟩:=h
 exact Kd.R_types ho hb ht
theorem IsS173.own_ne {w0 W:World} {g:Nat} {f0:List Int} {f1:Int} {α:Type} {d:Kd α} {e:Nat} {base:Nat} {ok:Nat→Prop} {v:Value} {xs:List α} (h:IsS173 w0 W g f0 f1) (ho:d.R e W base ok v xs) (ht:e≠173):some g≠v.ownBlock:=by
 obtain ⟨A0,c0,hb,hg,hr0⟩:=h
 exact Kd.R_ne ho hb ht
theorem IsS173.apartQ {w0 W:World} {g:Nat} {f0:List Int} {f1:Int} {α:Type} {d:Kd α} {e:Nat} {base:Nat} {ok:Nat→Prop} {v:Value} {xs:List α} (h:IsS173 w0 W g f0 f1) (ho:d.Q e W base ok v xs) (ht:∀ q,q ∈ e :: d.E→q≠173):d.Q e W base (fun k=>ok k∧k≠g) v xs:=by
 obtain ⟨A0,c0,hb,hg,hr0⟩:=h
 exact Kd.Q_types ho hb ht
theorem IsS173.own_neQ {w0 W:World} {g:Nat} {f0:List Int} {f1:Int} {α:Type} {d:Kd α} {e:Nat} {base:Nat} {ok:Nat→Prop} {v:Value} {xs:List α} (h:IsS173 w0 W g f0 f1) (ho:d.Q e W base ok v xs) (ht:e≠173):some g≠v.ownBlock:=by
 obtain ⟨A0,c0,hb,hg,hr0⟩:=h
 exact Kd.Q_ne ho hb ht
theorem IsS173.apartS {w0 W:World} {g:Nat} {f0:List Int} {f1:Int} {α:Type} {d:Kd α} {e:Nat} {base:Nat} {ok:Nat→Prop} {v:Value} {xs:List α} (h:IsS173 w0 W g f0 f1) (ho:d.S e W base ok v xs) (ht:∀ q,q ∈ e :: d.E→q≠173):d.S e W base (fun k=>ok k∧k≠g) v xs:=by
 obtain ⟨A0,c0,hb,hg,hr0⟩:=h
 exact Kd.S_types ho hb ht
theorem IsS173.own_neS {w0 W:World} {g:Nat} {f0:List Int} {f1:Int} {α:Type} {d:Kd α} {e:Nat} {base:Nat} {ok:Nat→Prop} {v:Value} {xs:List α} (h:IsS173 w0 W g f0 f1) (ho:d.S e W base ok v xs) (ht:e≠173):some g≠v.ownBlock:=by
 obtain ⟨A0,c0,hb,hg,hr0⟩:=h
 exact Kd.S_ne ho hb ht
theorem IsS173.lt {w0 W:World} {g:Nat} {f0:List Int} {f1:Int} (h:IsS173 w0 W g f0 f1):g<W.heap.size:=by
 obtain ⟨A0,c0,hb,hg,hr0⟩:=h
 exact blk_lt hb
theorem IsS173.ge {w0 W:World} {g:Nat} {f0:List Int} {f1:Int} (h:IsS173 w0 W g f0 f1):w0.heap.size≤g:=by
 obtain ⟨A0,c0,hb,hg,hr0⟩:=h
 exact hg
theorem IsS173.ne_blk {w0 W:World} {g:Nat} {f0:List Int} {f1:Int} {a:Nat} {cs:Array Value} {t:TypeId} {fr:Nat×Nat} (h:IsS173 w0 W g f0 f1) (hb2:W.heap[a]? = some (.cells cs t fr)) (ht:t≠173):g≠a:=by
 obtain ⟨A0,c0,hb,hg,hr0⟩:=h
 rintro rfl
 rw [hb] at hb2
 injection hb2 with hb2
 injection hb2 with _ ht2
 exact ht ht2.symm
theorem IsS173.far {w0 W:World} {g:Nat} {f0:List Int} {f1:Int} {p:Addr} (h:IsS173 w0 W g f0 f1) (hne:g≠p.block) (u:Value):IsS173 w0 (W.setCell p u) g f0 f1:=by
 obtain ⟨A0,c0,hb,hg,hr0⟩:=h
 exact ⟨A0,c0,blk_far hb hne u,hg,hr0⟩
theorem cellS173_0 {W:World} {g:Nat} {A0:Option Addr} {c0:Nat} {f0:List Int} {f1:Int} (h:W.heap[g]? = some (.cells #[.slice A0 f0.length c0,.int .i64 f1] 173 (0,0))):W.cell? ⟨g,0,none⟩=some (.slice A0 f0.length c0):=(blk_cell h 0).trans rfl
theorem cellS173_1 {W:World} {g:Nat} {A0:Option Addr} {c0:Nat} {f0:List Int} {f1:Int} (h:W.heap[g]? = some (.cells #[.slice A0 f0.length c0,.int .i64 f1] 173 (0,0))):W.cell? ⟨g,1,none⟩=some (.int .i64 f1):=(blk_cell h 1).trans rfl
theorem IsS173.set_1 {w0 W:World} {g:Nat} {f0:List Int} {f1:Int} (h:IsS173 w0 W g f0 f1) (x:Int):IsS173 w0 (W.setCell ⟨g,1,none⟩ (.int .i64 x)) g f0 x:=by
 obtain ⟨A0,c0,hb,hg,hr0⟩:=h
 exact ⟨A0,c0,by simpa using blk_set hb 1 (.int .i64 x),hg,hr0⟩
theorem IsS173.new (w0 W:World) (A0:Option Addr) (c0:Nat) (f0:List Int) (f1:Int) (hB:Below w0.heap.size w0 W) (hr0:Kd.C (Kd.int .u8) w0 A0 f0.length f0):IsS173 w0 (W.alloc (.cells #[.slice A0 f0.length c0,.int .i64 f1] 173)) W.heap.size f0 f1:=⟨A0,c0,by simpa using heap_alloc_new W _,hB.size,hr0⟩

def spec_l1Open.f (l0:List Int):Option (List Int×Int):=if (l0.length:Int)>2000 then (if 2000≤(l0.length:Int) then (some (l0.take 2000,0)) else (none)) else (some (l0,0))
set_option maxHeartbeats 8000000 in
set_option maxRecDepth 100000 in
theorem spec_l1Open.calls (A0:Option Addr) (c0:Nat) (l0:List Int) (r1:List Int) (r2:Int) (w0 w:World) (hB:Below w0.heap.size w0 w) (hr0:Kd.C (Kd.int .u8) w0 A0 l0.length l0) (hc0:l0.length≤c0) (h:spec_l1Open.f l0=some (r1,r2)) :
  Calls Tryd.prog 62 #[.slice A0 l0.length c0] w fun e w' => ∃ g_:Nat,e = .returned (.pointer (some ⟨g_,0,none⟩))∧IsS173 w0 w' g_ r1 r2∧Below w0.heap.size w0 w'∧Below w.heap.size w w':=by
 have hu173:=Tryd.underlying173;have HR0:=Aside0.mk hr0;have HC0:=Aside0.mk hc0;clear hr0 hc0;have HBW:=Aside0.mk (Below.refl w.heap.size w);have HW0:=Aside0.mk hB.size;have HB:=Aside0.mk hB;clear hB;have H:(if (l0.length:Int)>2000 then (if 2000≤(l0.length:Int) then (some (l0.take 2000,0)) else (none)) else (some (l0,0)))=some (r1,r2):=h;clear h
 by_cases c2:(l0.length:Int)>2000
 ·rw [if_pos c2] at H
  have a4:decide (2000<(l0.length:Int))=true:=decide_eq_true c2;have a5:decide (2000<l0.length)=true:=decide_eq_true (by omega);clear c2
  by_cases c3:2000≤(l0.length:Int)
  ·rw [if_pos c3] at H
   have c3b0:=eq_true c3;have c3b1:decide (2000≤(l0.length:Int))=true:=decide_eq_true c3;clear c3;simp only [Option.some.injEq,Prod.mk.injEq] at H;obtain ⟨rfl,rfl⟩:=H;obtain ⟨i04,hi04,_,hsz4,_⟩:=info_parts info5;obtain ⟨hcut4,hA4,hC4⟩:=print_take_of (P:=Tryd.prog) (Value.int .u8) 0 22 5 .i64 Tryd.underlying22 hi04 hsz4 A0 c0 l0 2000 (by omega) (oda) HC0.out;have a6:=Aside0.mk (Kd.C_of_reads (h1:=fun _=>rfl) (hA4 _ (Kd.reads_of_C HR0.out)));have HC101:=Aside0.mk hC4;clear hA4 hC4 hi04 hsz4
   go_enter Tryd.func62,Tryd.ntmps62
   go_wp2_with (first|((with_reducible refine gd 10 rfl ?_);refine bx 10 173 (#[.slice A0 (l0.take 2000).length c0,.int .i64 0]) ?_;intro a0 hg w5 hbox hb;refine Ya5 (below_step HBW.out hb) (below_step (be HB.out) hb) (hbox) (bs hg (be HBW.out)) ((Nat.le_trans HW0.out (bs hg (be HBW.out)):w0.heap.size≤a0)) ?_;clear HBW HB;intro HBW HB a7 a8 a1;clear hb hbox hg))
   go_ret
   exact ⟨_,rfl,(show IsS173 w0 _ a0 (l0.take 2000) 0 from ⟨_,_,bk a7.out,a1.out,a6.out⟩),(by first|exact be1 HB.out a1.out|exact be HB.out),(by first|exact be1 HBW.out a8.out|exact be HBW.out)⟩
  ·rw [if_neg c3] at H
   exact absurd H (by simp)
 ·rw [if_neg c2] at H
  have a4:decide (2000<(l0.length:Int))=false:=decide_eq_false c2;have a5:decide (2000<l0.length)=false:=decide_eq_false (by omega);clear c2;simp only [Option.some.injEq,Prod.mk.injEq] at H;obtain ⟨rfl,rfl⟩:=H
  go_enter Tryd.func62,Tryd.ntmps62
  go_wp2_with (first|((with_reducible refine gd 10 rfl ?_);refine bx 10 173 (#[.slice A0 l0.length c0,.int .i64 0]) ?_;intro a2 hg w6 hbox hb;refine Ya5 (below_step HBW.out hb) (below_step (be HB.out) hb) (hbox) (bs hg (be HBW.out)) ((Nat.le_trans HW0.out (bs hg (be HBW.out)):w0.heap.size≤a2)) ?_;clear HBW HB;intro HBW HB a9 aa a3;clear hb hbox hg))
  go_ret
  exact ⟨_,rfl,(show IsS173 w0 _ a2 l0 0 from ⟨_,_,bk a9.out,a3.out,HR0.out⟩),(by first|exact be1 HB.out a3.out|exact be HB.out),(by first|exact be1 HBW.out aa.out|exact be HBW.out)⟩

end Go.Proofs.YtknagppkeodggaaDoor.P


namespace Go.Proofs.YtknagppkeodggaaDoor.P
open Go.RowKit Go.Proofs.YtknagppkeodggaaDoorW.PrintWords Go.Proofs.YtknagppkeodggaaDoorW.PrintLast Go.Proofs.YtknagppkeodggaaDoorW.PrintMore
attribute [local go_sem] max2_int min2_int max_two min_two max_three min_three max_four min_four
set_option linter.unusedVariables false
set_option linter.unusedSimpArgs false

def spec_l4Parts.l0:Nat→ByteArray→List ByteArray→Int→Int→Option (List ByteArray)
 | 0,_,_,_,_=>none
 | k+1,x0,x3,x4,x5=>if x5<(x0.size:Int) then (if 0≤x5 then (if (bt x0 x5)=47 then (if 0≤x4 then (if x4≤x5 then (if x5≤(x0.size:Int) then (if x3.length<8796093022208 then (spec_l4Parts.l0 k x0 (x3 ++ [x0.extract (x4:Int).toNat (x5:Int).toNat]) (wrap64 (x5+1)) (wrap64 (x5+1))) else (none)) else (none)) else (none)) else (none)) else (spec_l4Parts.l0 k x0 x3 x4 (wrap64 (x5+1)))) else (none)) else (if 0≤x4 then (if x4≤(x0.size:Int) then (if x3.length<8796093022208 then (some (x3 ++ [x0.extract (x4:Int).toNat x0.size])) else (none)) else (none)) else (none))
def spec_l4Parts.f (k:Nat) (a0:ByteArray):Option (List ByteArray):=spec_l4Parts.l0 k a0 (([]:List ByteArray)) 0 0
theorem spec_l4Parts.mono_l:∀ k,(∀ y0 y1 y2 y3,LeO (spec_l4Parts.l0 k y0 y1 y2 y3) (spec_l4Parts.l0 (k+1) y0 y1 y2 y3))
 | 0=>fun _ _ _ _ r h=>by simp [spec_l4Parts.l0] at h
 | k + 1 => by
  have ih0:=spec_l4Parts.mono_l k
  ·intro y0 y1 y2 y3
   unfold spec_l4Parts.l0
   repeat' first
   | (with_reducible exact ih0 _ _ _ _)
   | (with_reducible exact LeO.refl _)
   | (with_reducible exact LeO.none _)
   | (with_reducible refine LeO.ite ?_ ?_)
   | (with_reducible refine LeO.bind ?_ (fun _ => ?_))
   | exact ih0 _ _ _ _
   | exact LeO.none _
   | refine LeO.ite ?_ ?_
   | refine LeO.bind ?_ (fun _ => ?_)
theorem spec_l4Parts.mono:∀ a0 k,LeO (spec_l4Parts.f k a0) (spec_l4Parts.f (k+1) a0):=by
 intro a0 k;have ih0:=spec_l4Parts.mono_l k
 unfold spec_l4Parts.f
 repeat' first
   | (with_reducible exact ih0 _ _ _ _)
   | (with_reducible exact LeO.refl _)
   | (with_reducible exact LeO.none _)
   | (with_reducible refine LeO.ite ?_ ?_)
   | (with_reducible refine LeO.bind ?_ (fun _ => ?_))
   | exact ih0 _ _ _ _
   | exact LeO.none _
   | refine LeO.ite ?_ ?_
   | refine LeO.bind ?_ (fun _ => ?_)
set_option maxHeartbeats 8000000 in
set_option maxRecDepth 100000 in
theorem spec_l4Parts.calls (k : Nat) (a0 : ByteArray) (r : List ByteArray) (w : World) (h : spec_l4Parts.f k a0 = some r) :
  Calls Tryd.prog 79 #[.string a0] w fun e w' => ∃ v0_:Value,e = .returned (v0_)∧Kd.R Kd.string 9 w' w.heap.size (fun _=>True) v0_ r∧Below w.heap.size w w':=by
 have HB:=Aside0.mk (Below.refl w.heap.size w);have H:(spec_l4Parts.l0 k a0 (([]:List ByteArray)) 0 0)=some r:=h;clear h
 obtain ⟨ac,a4⟩:∃ y_:List ByteArray,y_=(([]:List ByteArray)):=⟨_,rfl⟩
 replace H:(spec_l4Parts.l0 k a0 ac 0 0)=some r:=by first|(rw [a4];with_reducible exact H)|(have H2_:=(Option.bind_some _ _).symm.trans H;rw [a4];with_reducible exact H2_)|(have H2_:=(Option.bind_some _ _).symm.trans H;with_reducible exact H2_)|with_reducible exact H|(rw [a4];exact H)|exact H
 have ad:=Aside0.mk a4;clear a4;have H':=Aside0.mk H;clear H
 go_enter Tryd.func79,Tryd.ntmps79
 go_wp2_with (first|((with_reducible refine gd 6 rfl ?_);refine Kd.R_lit Kd.string _ 9 ?hg (N:=6) ?hd (xs:=([]:List ByteArray)) (inner:=[]) (ok:=fun _=>True) (okp:=fun _=>True) ?hr ?hp (fun _ hk=>hk) trivial (Below.refl _ _) (Nat.le_refl _) (by simp) ?_;(case hd=>rfl);(case hg=>rfl);(case hr=>first|(go_simp;done)|(go_simp;rfl));(case hp=>exact (Reps.none _ _));intro v108 w2 ho3 hb hg_ hnew_;clear hg_ hnew_;(first|rw [←ad.out] at ho3|(simp only [Int.reduceToNat] at ho3;rw [←ad.out] at ho3));refine Ya2 (Kd.R_lower ho3 (below_size (be HB.out))) (below_step (be HB.out) hb) ?_;clear HB;intro af HB;clear hb ho3))
 go_loopg [3,4,5] k (fun kq v3 v4 v5 w' => ∃ (a3:List ByteArray) (a2:Int) (a1:Int),v4 = .int .i64 a2∧v5 = .int .i64 a1∧Aside0 (spec_l4Parts.l0 kq a0 a3 a2 a1=some r)∧Aside0 (kq≤k)∧Aside0 (Kd.R Kd.string 9 w' w.heap.size (fun _=>True) v3 a3)∧Aside0 (Below w.heap.size w w'))
 case atStart=>exact ⟨(ac),(0),(0),Ye1,Ye1,H',⟨Nat.le_refl _⟩,⟨kr af.out⟩,⟨be HB.out⟩⟩
 case round =>
  clear H';(try clear p2);obtain ⟨a3,a2,a1,rfl,rfl,HA,HK1,a5,HB⟩:=hrel
  cases gk with
  | zero=>exact absurd HA.out (by simp [spec_l4Parts.l0])
  | succ k1 =>
   have H:=HA.out;clear HA;simp only [spec_l4Parts.l0] at H
   by_cases c4:a1<(a0.size:Int)
   ·rw [if_pos c4] at H
    have ag:decide (a1<(a0.size:Int))=true:=decide_eq_true c4;clear c4
    by_cases c5:0≤a1
    ·rw [if_pos c5] at H
     have c5b0:decide (0≤a1)=true:=decide_eq_true c5;clear c5
     by_cases c7:(bt a0 a1)=47
     ·rw [if_pos c7] at H
      have ah:((bt a0 a1)==47)=true:=beq_iff_eq.mpr c7;have ai:((bt a0 a1) != 47)=false:=bne_eq_false_iff_eq.mpr c7;clear c7
      by_cases c8:0≤a2
      ·rw [if_pos c8] at H
       have c8b0:=eq_true c8;have c8b1:decide (0≤a2)=true:=decide_eq_true c8;clear c8
       by_cases c9:a2≤a1
       ·rw [if_pos c9] at H
        have c9b0:=eq_true c9;have c9b1:decide (a2≤a1)=true:=decide_eq_true c9;clear c9
        by_cases c10:a1≤(a0.size:Int)
        ·rw [if_pos c10] at H
         have c10b0:=eq_true c10;have c10b1:decide (a1≤(a0.size:Int))=true:=decide_eq_true c10;clear c10
         by_cases aa:a3.length<8796093022208
         ·rw [if_pos aa] at H
          have aj:=Aside0.mk aa;clear aa
          obtain ⟨ae,a6⟩:∃ y_:List ByteArray,y_=(a3 ++ [a0.extract (a2:Int).toNat (a1:Int).toNat]):=⟨_,rfl⟩
          replace H:(spec_l4Parts.l0 k1 a0 ae (wrap64 (a1+1)) (wrap64 (a1+1)))=some r:=by first|(rw [a6];with_reducible exact H)|(have H2_:=(Option.bind_some _ _).symm.trans H;rw [a6];with_reducible exact H2_)|(have H2_:=(Option.bind_some _ _).symm.trans H;with_reducible exact H2_)|with_reducible exact H|(rw [a6];exact H)|exact H
          have ak:=Aside0.mk a6;clear a6;have H':=Aside0.mk H;clear H;have p6:0≤(a1:Int):=oda;have q6:a1<(a0.size:Int):=oda;have hx6:=bt_at a0 a1;replace p6:=eq_true p6;replace q6:=eq_true q6
          go_wp2_with (first|((with_reducible refine gate_builtin (b:=.append) (xs:=#[.tmp 17,.tmp 22]) rfl ?_);at_builtin;refine Kd.R_append Kd.string (w0:=w) w.heap.size rfl (.tmp 17) (.tmp 22) 42 9 (.string ⟨#[]⟩) 16 rfl Tryd.underlying42 info9 rfl (by decide) (by omega) u3 a3 (a0.extract (a2:Int).toNat (a1:Int).toNat) [.string (a0.extract (a2:Int).toNat (a1:Int).toNat)] (fun _=>True) (fun _=>False) rfl rfl ?aP (fun _ hk=>hk.elim) ?aF ?aO ?aB ?aS ?aL ?_;(case aP=>exact rfl);(case aB=>exact (be HB.out));(case aF=>exact (fun _ _=>trivial));(case aO=>exact (kr a5.out));(case aS=>exact (below_size (be HB.out)));(case aL=>have:=aj.out;omega);intro v111 w12 ho hb hg hat;rw [←ak.out] at ho;refine Ya2 (hb) (ho) ?_;clear HB a5;intro HB al;clear ho hb hg hat))
          go_roundg k1
          case measure=>have:=HK1.out;omega
          case rel=>exact ⟨(ae),(wrap64 (a1+1)),(wrap64 (a1+1)),Ye1,Ye1,H',⟨by have:=HK1.out;omega⟩,⟨kr al.out⟩,⟨be HB.out⟩⟩
         ·rw [if_neg aa] at H
          exact absurd H (by simp)
        ·rw [if_neg c10] at H
         exact absurd H (by simp)
       ·rw [if_neg c9] at H
        exact absurd H (by simp)
      ·rw [if_neg c8] at H
       exact absurd H (by simp)
     ·rw [if_neg c7] at H
      have ah:((bt a0 a1)==47)=false:=beq_eq_false_iff_ne.mpr c7;have ai:((bt a0 a1) != 47)=true:=bne_iff_ne.mpr c7;have H':=Aside0.mk H;clear H;have p6:0≤(a1:Int):=oda;have q6:a1<(a0.size:Int):=oda;have hx6:=bt_at a0 a1;replace p6:=eq_true p6;replace q6:=eq_true q6
      go_wp2
      go_roundg k1
      case measure=>have:=HK1.out;omega
      case rel=>exact ⟨(a3),(a2),(wrap64 (a1+1)),Ye1,Ye1,H',⟨by have:=HK1.out;omega⟩,⟨kr a5.out⟩,⟨be HB.out⟩⟩
    ·rw [if_neg c5] at H
     exact absurd H (by simp)
   ·rw [if_neg c4] at H
    have ag:decide (a1<(a0.size:Int))=false:=decide_eq_false c4;clear c4
    by_cases a7:0≤a2
    ·rw [if_pos a7] at H
     have c13b0:=eq_true a7;have c13b1:decide (0≤a2)=true:=decide_eq_true a7;clear a7
     by_cases a8:a2≤(a0.size:Int)
     ·rw [if_pos a8] at H
      have c14b0:=eq_true a8;have c14b1:decide (a2≤(a0.size:Int))=true:=decide_eq_true a8;clear a8
      by_cases ab:a3.length<8796093022208
      ·rw [if_pos ab] at H
       have am:=Aside0.mk ab;clear ab
       obtain ⟨an,a9⟩:∃ y_:List ByteArray,y_=(a3 ++ [a0.extract (a2:Int).toNat a0.size]):=⟨_,rfl⟩
       replace H:(some an)=some r:=by first|(rw [a9];with_reducible exact H)|(have H2_:=(Option.bind_some _ _).symm.trans H;rw [a9];with_reducible exact H2_)|(have H2_:=(Option.bind_some _ _).symm.trans H;with_reducible exact H2_)|with_reducible exact H|(rw [a9];exact H)|exact H
       have ao:=Aside0.mk a9;clear a9;obtain rfl:=Option.some.inj H
       go_wp2_with (first|((with_reducible refine gate_builtin (b:=.append) (xs:=#[.tmp 26,.tmp 30]) rfl ?_);at_builtin;refine Kd.R_append Kd.string (w0:=w) w.heap.size rfl (.tmp 26) (.tmp 30) 42 9 (.string ⟨#[]⟩) 16 rfl Tryd.underlying42 info9 rfl (by decide) (by omega) u3 a3 (a0.extract (a2:Int).toNat a0.size) [.string (a0.extract (a2:Int).toNat a0.size)] (fun _=>True) (fun _=>False) rfl rfl ?aP (fun _ hk=>hk.elim) ?aF ?aO ?aB ?aS ?aL ?_;(case aP=>exact rfl);(case aB=>exact (be HB.out));(case aF=>exact (fun _ _=>trivial));(case aO=>exact (kr a5.out));(case aS=>exact (below_size (be HB.out)));(case aL=>have:=am.out;omega);intro v114 w16 ho hb hg hat;rw [←ao.out] at ho;refine Ya2 (hb) (ho) ?_;clear HB a5;intro HB ap;clear ho hb hg hat))
       go_ret
       exact ⟨_,Ye2,kr ap.out,be HB.out⟩
      ·rw [if_neg ab] at H
       exact absurd H (by simp)
     ·rw [if_neg a8] at H
      exact absurd H (by simp)
    ·rw [if_neg a7] at H
     exact absurd H (by simp)

end Go.Proofs.YtknagppkeodggaaDoor.P

