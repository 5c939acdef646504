/- Several texts of this claim in one file: YtknagppkeodggaaDoorPSpecL1RdPick, YtknagppkeodggaaDoorPSpecL4Glob, YtknagppkeodggaaDoorPSpecL4Path, YtknagppkeodggaaDoorPSpecL4Spoil, YtknagppkeodggaaDoorPSpecDrawMatch, YtknagppkeodggaaDoorPSpecL1Text. -/
import Derived.Test.YtknagppkeodggaaDoorM2
import Derived.Test.YtknagppkeodggaaDoorM3
import Derived.Test.YtknagppkeodggaaDoorM4
import Derived.Test.YtknagppkeodggaaDoorM7
namespace Go.Proofs.YtknagppkeodggaaDoor.P
open Go.RowKit Go.Proofs.YtknagppkeodggaaDoorW.PrintWords Go.Proofs.YtknagppkeodggaaDoorW.PrintLast Go.Proofs.YtknagppkeodggaaDoorW.PrintMore
attribute [local go_sem] max2_int min2_int max_two min_two max_three min_three max_four min_four
set_option linter.unusedVariables false
set_option linter.unusedSimpArgs false

def spec_l1Rd_pick.j0:Nat→Int→Bool→List Int→Int→Option (Int×Int)
 | 0,_,_,_,_=>none
 | k+1,x1,x24,a3,a4=>if x24=true then (some (0,a4)) else (if (wrap64 (a4 - 1))<(a3.length:Int) then (if 0≤(wrap64 (a4 - 1)) then (if x1=0 then (none) else (some (Int.tmod (wrap64 (rd a3 (wrap64 (a4 - 1)))) x1,a4))) else (none)) else (if (a3.length:Int)=0 then (none) else (if 0≤(Int.tmod (wrap64 (a4 - 1)) (a3.length:Int)) then (if (Int.tmod (wrap64 (a4 - 1)) (a3.length:Int))<(a3.length:Int) then (if 0≤(Int.tmod (wrap64 ((wrap64 ((wrap64 (a4 - 1))*7))+3)) (a3.length:Int)) then (if (Int.tmod (wrap64 ((wrap64 ((wrap64 (a4 - 1))*7))+3)) (a3.length:Int))<(a3.length:Int) then (if x1=0 then (none) else (some (Int.tmod (Go.bits .xor .i64 (wrap64 ((wrap64 ((wrap64 ((wrap64 ((wrap64 (rd a3 (Int.tmod (wrap64 (a4 - 1)) (a3.length:Int))))*131))+(wrap64 ((wrap64 (rd a3 (Int.tmod (wrap64 ((wrap64 ((wrap64 (a4 - 1))*7))+3)) (a3.length:Int))))*1117))))+(wrap64 ((wrap64 (a4 - 1))*29))))+(wrap64 ((wrap64 (Int.tdiv (wrap64 (a4 - 1)) (a3.length:Int)))*53)))) (wrap64 (Int.tdiv (wrap64 ((wrap64 ((wrap64 ((wrap64 ((wrap64 (rd a3 (Int.tmod (wrap64 (a4 - 1)) (a3.length:Int))))*131))+(wrap64 ((wrap64 (rd a3 (Int.tmod (wrap64 ((wrap64 ((wrap64 (a4 - 1))*7))+3)) (a3.length:Int))))*1117))))+(wrap64 ((wrap64 (a4 - 1))*29))))+(wrap64 ((wrap64 (Int.tdiv (wrap64 (a4 - 1)) (a3.length:Int)))*53)))) 64))) x1,a4))) else (none)) else (none)) else (none)) else (none))))
def spec_l1Rd_pick.f (k:Nat) (s0_0:List Int) (s0_1:Int) (a1:Int):Option (Int×Int):=if a1<1 then (spec_l1Rd_pick.j0 k a1 true s0_0 (wrap64 (s0_1+1))) else (spec_l1Rd_pick.j0 k a1 ((s0_0.length:Int)==0) s0_0 (wrap64 (s0_1+1)))
theorem spec_l1Rd_pick.mono_l:∀ k,(∀ y0 y1 y2 y3,LeO (spec_l1Rd_pick.j0 k y0 y1 y2 y3) (spec_l1Rd_pick.j0 (k+1) y0 y1 y2 y3))
 | 0=>fun _ _ _ _ r h=>by simp [spec_l1Rd_pick.j0] at h
 | k + 1 => by
  have ih0:=spec_l1Rd_pick.mono_l k
  ·intro y0 y1 y2 y3
   unfold spec_l1Rd_pick.j0
   repeat' first
   | (with_reducible exact ih0 _ _ _ _)
   | (with_reducible exact LeO.refl _)
   | (with_reducible exact LeO.none _)
   | (with_reducible refine LeO.ite ?_ ?_)
   | (with_reducible refine LeO.bind ?_ (fun _ => ?_))
   | exact ih0 _ _ _ _
   | exact LeO.none _
   | refine LeO.ite ?_ ?_
   | refine LeO.bind ?_ (fun _ => ?_)
theorem spec_l1Rd_pick.mono:∀ a0 a1 a2 k,LeO (spec_l1Rd_pick.f k a0 a1 a2) (spec_l1Rd_pick.f (k+1) a0 a1 a2):=by
 intro a0 a1 a2 k;have ih0:=spec_l1Rd_pick.mono_l k
 unfold spec_l1Rd_pick.f
 repeat' first
   | (with_reducible exact ih0 _ _ _ _)
   | (with_reducible exact LeO.refl _)
   | (with_reducible exact LeO.none _)
   | (with_reducible refine LeO.ite ?_ ?_)
   | (with_reducible refine LeO.bind ?_ (fun _ => ?_))
   | exact ih0 _ _ _ _
   | exact LeO.none _
   | refine LeO.ite ?_ ?_
   | refine LeO.bind ?_ (fun _ => ?_)
set_option maxHeartbeats 8000000 in
set_option maxRecDepth 100000 in
theorem spec_l1Rd_pick.calls (k : Nat) (g : Nat) (s0_0 : List Int) (s0_1 : Int) (a1 : Int) (r1 : Int) (r2 : Int) (w0 w : World) (hI : IsS173 w0 w g s0_0 s0_1) (hB : Below w0.heap.size w0 w) (h : spec_l1Rd_pick.f k s0_0 s0_1 a1 = some (r1, r2)) :
  Calls Tryd.prog 66 #[.pointer (some ⟨g,0,none⟩),.int .i64 a1] w fun e w'=>e = .returned (.int .i64 r1)∧IsS173 w0 w' g s0_0 r2∧Below w0.heap.size w0 w'∧KeepBut w w' g none:=by
 have a5:=Aside0.mk hI;have HK:=Aside0.mk (KeepBut.refl w g none);have HL:=Aside0.mk hB.size;clear hI;have HW0:=Aside0.mk hB.size;have HB:=Aside0.mk hB;clear hB;have H:(if a1<1 then (spec_l1Rd_pick.j0 k a1 true s0_0 (wrap64 (s0_1+1))) else (spec_l1Rd_pick.j0 k a1 ((s0_0.length:Int)==0) s0_0 (wrap64 (s0_1+1))))=some (r1,r2):=h;clear h;have aj:=Aside0.mk H;clear H;obtain ⟨ASz4_0,cSz4_0,HGz4,hgz4,HSz4_0⟩:=a5.out;have ay:=cellS173_0 HGz4;have az:=cellS173_1 HGz4;have aA:=blk_frozen HGz4 1;clear HGz4 hgz4
 go_enter Tryd.func66,Tryd.ntmps66
 go_upto_region 2 with (fail)
 repeat (go_quiet (fail);go_upto_region 2 with (fail))
 go_cut [24] (fun v24 wc => ∃ (kq:Nat) (ac:Bool),v24 = .bool ac∧Aside0 (spec_l1Rd_pick.j0 kq a1 ac s0_0 (wrap64 (s0_1+1))=some (r1,r2))∧Aside0 (kq≤k)∧Aside0 (IsS173 w0 wc g s0_0 (wrap64 (s0_1+1)))∧Aside0 (KeepBut w wc g none)∧Aside0 (Below w0.heap.size w0 wc))
 case first =>
  have H:=aj.out;clear aj
  by_cases c5:a1<1
  ·rw [if_pos c5] at H
   have a9:decide (a1<1)=true:=decide_eq_true c5;clear c5;(first|rw [a9]|(simp only [i64_w,i32_w];rw [a9])|skip);have H':=Aside0.mk H;clear H
   go_wp2
   repeat (go_quiet (fail);try go_wp2)
   go_meet
   case rel=>exact ⟨_,(true),Ye1,H',⟨by first|omega|exact Nat.le_refl _⟩,⟨iq173 a5.out⟩,⟨kb HK.out⟩,⟨bq173 HB.out a5.out⟩⟩
  ·rw [if_neg c5] at H
   have a9:decide (a1<1)=false:=decide_eq_false c5;clear c5;(first|rw [a9]|(simp only [i64_w,i32_w];rw [a9])|skip);have H':=Aside0.mk H;clear H;obtain ⟨ASz6_0,cSz6_0,HGz6,hgz6,HSz6_0⟩:=a5.out;have aB:=cellS173_0 HGz6;have aC:=cellS173_1 HGz6;have aD:=blk_frozen HGz6 1;clear HGz6 hgz6
   go_wp2
   repeat (go_quiet (fail);try go_wp2)
   go_meet
   case rel=>exact ⟨_,(((s0_0.length:Int)==0)),Ye1,H',⟨by first|omega|exact Nat.le_refl _⟩,⟨iq173 a5.out⟩,⟨kb HK.out⟩,⟨bq173 HB.out a5.out⟩⟩
 case rest =>
  clear aj;(try clear p2);(try clear c5);(try clear a9);(try clear c6);(try clear p6);(try clear ay);(try clear az);(try clear aB);(try clear aC);(try clear aA);(try clear aD);obtain ⟨kq,ac,rfl,HA,HJ2,a5,HK,HB⟩:=hcut
  cases kq with
  | zero=>exact absurd HA.out (by simp [spec_l1Rd_pick.j0])
  | succ kj2 =>
   have H:=HA.out;clear HA;simp only [spec_l1Rd_pick.j0] at H
   by_cases c7:ac=true
   ·subst c7
    have H1:(some (0,(wrap64 (s0_1+1))))=some (r1,r2):=by rw [if_pos rfl] at H;exact H
    clear H;have H:=H1;clear H1;simp only [Option.some.injEq,Prod.mk.injEq] at H;obtain ⟨rfl,rfl⟩:=H
    go_wp2
    repeat (go_quiet (fail);try go_wp2)
    go_ret
    exact ⟨Ye2,iq173 a5.out,bq173 HB.out a5.out,kb HK.out⟩
   ·replace c7:=Bool.eq_false_iff.mpr c7;subst c7
    have H1:(if (wrap64 ((wrap64 (s0_1+1)) - 1))<(s0_0.length:Int) then (if 0≤(wrap64 ((wrap64 (s0_1+1)) - 1)) then (if a1=0 then (none) else (some (Int.tmod (wrap64 (rd s0_0 (wrap64 ((wrap64 (s0_1+1)) - 1)))) a1,(wrap64 (s0_1+1))))) else (none)) else (if (s0_0.length:Int)=0 then (none) else (if 0≤(Int.tmod (wrap64 ((wrap64 (s0_1+1)) - 1)) (s0_0.length:Int)) then (if (Int.tmod (wrap64 ((wrap64 (s0_1+1)) - 1)) (s0_0.length:Int))<(s0_0.length:Int) then (if 0≤(Int.tmod (wrap64 ((wrap64 ((wrap64 ((wrap64 (s0_1+1)) - 1))*7))+3)) (s0_0.length:Int)) then (if (Int.tmod (wrap64 ((wrap64 ((wrap64 ((wrap64 (s0_1+1)) - 1))*7))+3)) (s0_0.length:Int))<(s0_0.length:Int) then (if a1=0 then (none) else (some (Int.tmod (Go.bits .xor .i64 (wrap64 ((wrap64 ((wrap64 ((wrap64 ((wrap64 (rd s0_0 (Int.tmod (wrap64 ((wrap64 (s0_1+1)) - 1)) (s0_0.length:Int))))*131))+(wrap64 ((wrap64 (rd s0_0 (Int.tmod (wrap64 ((wrap64 ((wrap64 ((wrap64 (s0_1+1)) - 1))*7))+3)) (s0_0.length:Int))))*1117))))+(wrap64 ((wrap64 ((wrap64 (s0_1+1)) - 1))*29))))+(wrap64 ((wrap64 (Int.tdiv (wrap64 ((wrap64 (s0_1+1)) - 1)) (s0_0.length:Int)))*53)))) (wrap64 (Int.tdiv (wrap64 ((wrap64 ((wrap64 ((wrap64 ((wrap64 (rd s0_0 (Int.tmod (wrap64 ((wrap64 (s0_1+1)) - 1)) (s0_0.length:Int))))*131))+(wrap64 ((wrap64 (rd s0_0 (Int.tmod (wrap64 ((wrap64 ((wrap64 ((wrap64 (s0_1+1)) - 1))*7))+3)) (s0_0.length:Int))))*1117))))+(wrap64 ((wrap64 ((wrap64 (s0_1+1)) - 1))*29))))+(wrap64 ((wrap64 (Int.tdiv (wrap64 ((wrap64 (s0_1+1)) - 1)) (s0_0.length:Int)))*53)))) 64))) a1,(wrap64 (s0_1+1))))) else (none)) else (none)) else (none)) else (none))))=some (r1,r2):=by rw [if_neg (show ¬(false=true) by decide)] at H;exact H
    clear H;have H:=H1;clear H1
    by_cases c8:(wrap64 ((wrap64 (s0_1+1)) - 1))<(s0_0.length:Int)
    ·rw [if_pos c8] at H
     have au:decide ((wrap64 ((wrap64 (s0_1+1)) - 1))<(s0_0.length:Int))=true:=decide_eq_true c8;clear c8
     obtain ⟨a8,aa⟩:∃ j_:Int,(wrap64 ((wrap64 (s0_1+1)) - 1))=j_:=⟨_,rfl⟩
     replace H:(if 0≤(a8) then (if a1=0 then (none) else (some (Int.tmod (wrap64 (rd s0_0 (a8))) a1,(wrap64 (s0_1+1))))) else (none))=some (r1,r2):=by first|(rw [aa] at H;exact H)|(simp only [aa] at H ⊢; exact H)
     (try rw [aa] at au);have hji9w:(IntKind.i64.wrap ((wrap64 (s0_1+1)) - 1))=a8:=(i64_w _).trans aa
     by_cases c10:0≤(a8)
     ·rw [if_pos c10] at H
      have c10b0:decide (0≤(a8))=true:=decide_eq_true c10;clear c10
      by_cases ad:a1=0
      ·rw [if_pos ad] at H
       exact absurd H (by simp)
      ·rw [if_neg ad] at H
       have c11b0:(a1==0)=false:=beq_eq_false_iff_ne.mpr ad;have c11b1:(a1 != 0)=true:=bne_iff_ne.mpr ad;simp only [Option.some.injEq,Prod.mk.injEq] at H;obtain ⟨rfl,rfl⟩:=H;obtain ⟨ASz12_0,cSz12_0,HGz12,hgz12,HSz12_0⟩:=a5.out;have aJ:=cellS173_0 HGz12;have aK:=cellS173_1 HGz12;have aL:=blk_frozen HGz12 1;clear HGz12 hgz12;have ak:0≤((a8):Int):=oda;have al:(a8)<(s0_0.length:Int):=oda;obtain ⟨ad104,aE,av⟩:=Kd.at_int HSz12_0 (a8) ak al
       cases aE
       replace av:=pw_cell_below HB.out av;replace ak:=eq_true ak;replace al:=eq_true al
       go_wp2
       repeat (go_quiet (fail);try go_wp2)
       go_ret
       exact ⟨by first|rfl|(simp [errW_none,errW_some] <;> rfl)|(simp only [←aa];first|rfl|(simp [errW_none,errW_some] <;> rfl))|(simp [*,errW_none,errW_some] <;> rfl),iq173 a5.out,bq173 HB.out a5.out,kb HK.out⟩
     ·rw [if_neg c10] at H
      exact absurd H (by simp)
    ·rw [if_neg c8] at H
     have au:decide ((wrap64 ((wrap64 (s0_1+1)) - 1))<(s0_0.length:Int))=false:=decide_eq_false c8;clear c8
     by_cases ab:(s0_0.length:Int)=0
     ·rw [if_pos ab] at H
      exact absurd H (by simp)
     ·rw [if_neg ab] at H
      have c13b0:((s0_0.length:Int)==0)=false:=beq_eq_false_iff_ne.mpr ab;have c13b1:((s0_0.length:Int) != 0)=true:=bne_iff_ne.mpr ab
      have c13b2:¬ (s0_0 = []):=fun h_=>ab (by rw [h_];rfl)
      obtain ⟨a6,am⟩:∃ j_:Int,(Int.tmod (wrap64 ((wrap64 (s0_1+1)) - 1)) (s0_0.length:Int))=j_:=⟨_,rfl⟩
      replace H:(if 0≤(a6) then (if (a6)<(s0_0.length:Int) then (if 0≤(Int.tmod (wrap64 ((wrap64 ((wrap64 ((wrap64 (s0_1+1)) - 1))*7))+3)) (s0_0.length:Int)) then (if (Int.tmod (wrap64 ((wrap64 ((wrap64 ((wrap64 (s0_1+1)) - 1))*7))+3)) (s0_0.length:Int))<(s0_0.length:Int) then (if a1=0 then (none) else (some (Int.tmod (Go.bits .xor .i64 (wrap64 ((wrap64 ((wrap64 ((wrap64 ((wrap64 (rd s0_0 (a6)))*131))+(wrap64 ((wrap64 (rd s0_0 (Int.tmod (wrap64 ((wrap64 ((wrap64 ((wrap64 (s0_1+1)) - 1))*7))+3)) (s0_0.length:Int))))*1117))))+(wrap64 ((wrap64 ((wrap64 (s0_1+1)) - 1))*29))))+(wrap64 ((wrap64 (Int.tdiv (wrap64 ((wrap64 (s0_1+1)) - 1)) (s0_0.length:Int)))*53)))) (wrap64 (Int.tdiv (wrap64 ((wrap64 ((wrap64 ((wrap64 ((wrap64 (rd s0_0 (a6)))*131))+(wrap64 ((wrap64 (rd s0_0 (Int.tmod (wrap64 ((wrap64 ((wrap64 ((wrap64 (s0_1+1)) - 1))*7))+3)) (s0_0.length:Int))))*1117))))+(wrap64 ((wrap64 ((wrap64 (s0_1+1)) - 1))*29))))+(wrap64 ((wrap64 (Int.tdiv (wrap64 ((wrap64 (s0_1+1)) - 1)) (s0_0.length:Int)))*53)))) 64))) a1,(wrap64 (s0_1+1))))) else (none)) else (none)) else (none)) else (none))=some (r1,r2):=by first|(rw [am] at H;exact H)|(simp only [am] at H ⊢; exact H)
      by_cases ae:0≤(a6)
      ·rw [if_pos ae] at H
       have c15b0:decide (0≤(a6))=true:=decide_eq_true ae;clear ae
       by_cases af:(a6)<(s0_0.length:Int)
       ·rw [if_pos af] at H
        have c16b0:decide ((a6)<(s0_0.length:Int))=true:=decide_eq_true af;clear af
        obtain ⟨a7,an⟩:∃ j_:Int,(Int.tmod (wrap64 ((wrap64 ((wrap64 ((wrap64 (s0_1+1)) - 1))*7))+3)) (s0_0.length:Int))=j_:=⟨_,rfl⟩
        replace H:(if 0≤(a7) then (if (a7)<(s0_0.length:Int) then (if a1=0 then (none) else (some (Int.tmod (Go.bits .xor .i64 (wrap64 ((wrap64 ((wrap64 ((wrap64 ((wrap64 (rd s0_0 (a6)))*131))+(wrap64 ((wrap64 (rd s0_0 (a7)))*1117))))+(wrap64 ((wrap64 ((wrap64 (s0_1+1)) - 1))*29))))+(wrap64 ((wrap64 (Int.tdiv (wrap64 ((wrap64 (s0_1+1)) - 1)) (s0_0.length:Int)))*53)))) (wrap64 (Int.tdiv (wrap64 ((wrap64 ((wrap64 ((wrap64 ((wrap64 (rd s0_0 (a6)))*131))+(wrap64 ((wrap64 (rd s0_0 (a7)))*1117))))+(wrap64 ((wrap64 ((wrap64 (s0_1+1)) - 1))*29))))+(wrap64 ((wrap64 (Int.tdiv (wrap64 ((wrap64 (s0_1+1)) - 1)) (s0_0.length:Int)))*53)))) 64))) a1,(wrap64 (s0_1+1))))) else (none)) else (none))=some (r1,r2):=by first|(rw [an] at H;exact H)|(simp only [an] at H ⊢; exact H)
        by_cases ag:0≤(a7)
        ·rw [if_pos ag] at H
         have c18b0:decide (0≤(a7))=true:=decide_eq_true ag;clear ag
         by_cases ah:(a7)<(s0_0.length:Int)
         ·rw [if_pos ah] at H
          have c19b0:decide ((a7)<(s0_0.length:Int))=true:=decide_eq_true ah;clear ah
          by_cases ai:a1=0
          ·rw [if_pos ai] at H
           exact absurd H (by simp)
          ·rw [if_neg ai] at H
           have c20b0:(a1==0)=false:=beq_eq_false_iff_ne.mpr ai;have c20b1:(a1 != 0)=true:=bne_iff_ne.mpr ai;simp only [Option.some.injEq,Prod.mk.injEq] at H;obtain ⟨rfl,rfl⟩:=H;obtain ⟨ASz21_0,cSz21_0,HGz21,hgz21,HSz21_0⟩:=a5.out;have aM:=cellS173_0 HGz21;have aN:=cellS173_1 HGz21;have aO:=blk_frozen HGz21 1;clear HGz21 hgz21;have ao:0≤((a6):Int):=oda;have ap:(a6)<(s0_0.length:Int):=oda;obtain ⟨aF,aG,aw⟩:=Kd.at_int HSz21_0 (a6) ao ap
           cases aG
           replace aw:=pw_cell_below HB.out aw;replace ao:=eq_true ao;replace ap:=eq_true ap;have aq:0≤((a7):Int):=oda;have ar:(a7)<(s0_0.length:Int):=oda;obtain ⟨aH,aI,ax⟩:=Kd.at_int HSz21_0 (a7) aq ar
           obtain rfl:aF=aH:=(by injection aI)
           replace ax:=pw_cell_below HB.out ax;replace aq:=eq_true aq;replace ar:=eq_true ar
           go_wp2
           repeat (go_quiet (fail);try go_wp2)
           go_ret
           exact ⟨by first|rfl|(simp [errW_none,errW_some] <;> rfl)|(simp only [←am,←an];first|rfl|(simp [errW_none,errW_some] <;> rfl))|(simp [*,errW_none,errW_some] <;> rfl),iq173 a5.out,bq173 HB.out a5.out,kb HK.out⟩
         ·rw [if_neg ah] at H
          exact absurd H (by simp)
        ·rw [if_neg ag] at H
         exact absurd H (by simp)
       ·rw [if_neg af] at H
        exact absurd H (by simp)
      ·rw [if_neg ae] at H
       exact absurd H (by simp)

end Go.Proofs.YtknagppkeodggaaDoor.P


namespace Go.Proofs.YtknagppkeodggaaDoor.P
open Go.RowKit Go.Proofs.YtknagppkeodggaaDoorW.PrintWords Go.Proofs.YtknagppkeodggaaDoorW.PrintLast Go.Proofs.YtknagppkeodggaaDoorW.PrintMore
attribute [local go_sem] max2_int min2_int max_two min_two max_three min_three max_four min_four
set_option linter.unusedVariables false
set_option linter.unusedSimpArgs false

def spec_l4Glob.l0:Nat→ByteArray→Int→List Int→Int→Option (ByteArray×Int)
 | 0,_,_,_,_=>none
 | k+1,x3,x4,ar,au=>if x4>0 then (if x3.size+1≤9223372036854775807 then ((some (([(⟨#[42]⟩:ByteArray),(⟨#[42,42]⟩:ByteArray),(⟨#[120,42]⟩:ByteArray),(⟨#[63]⟩:ByteArray),(⟨#[42,120,42]⟩:ByteArray),(⟨#[63,63]⟩:ByteArray),(⟨#[42,46,107]⟩:ByteArray),(⟨#[120]⟩:ByteArray),(⟨#[97]⟩:ByteArray)]:List ByteArray):List ByteArray)).bind fun a3=>((spec_l1Rd_pick.f k ar au 9).bind fun bt453=>(if 0≤bt453.1 then (if bt453.1<(a3.length:Int) then (if (x3++(⟨#[47]⟩:ByteArray)).size+(rdOf ByteArray.empty a3 bt453.1).size≤9223372036854775807 then (spec_l4Glob.l0 k ((x3++(⟨#[47]⟩:ByteArray))++(rdOf ByteArray.empty a3 bt453.1)) (wrap64 (x4 - 1)) ar bt453.2) else (none)) else (none)) else (none)))) else (none)) else (some (x3,au))
def spec_l4Glob.f (k:Nat) (s0_0:List Int) (s0_1:Int):Option (ByteArray×Int):=(some (([(⟨#[42]⟩:ByteArray),(⟨#[42,42]⟩:ByteArray),(⟨#[97]⟩:ByteArray),(⟨#[63]⟩:ByteArray),(⟨#[98,42]⟩:ByteArray)]:List ByteArray):List ByteArray)).bind fun a5=>((spec_l1Rd_pick.f k s0_0 s0_1 5).bind fun bt445=>(if 0≤bt445.1 then (if bt445.1<(a5.length:Int) then ((spec_l1Rd_pick.f k s0_0 bt445.2 4).bind fun bt448=>(spec_l4Glob.l0 k (rdOf ByteArray.empty a5 bt445.1) bt448.1 s0_0 bt448.2)) else (none)) else (none)))
theorem spec_l4Glob.mono_l:∀ k,(∀ y0 y1 y2 y3,LeO (spec_l4Glob.l0 k y0 y1 y2 y3) (spec_l4Glob.l0 (k+1) y0 y1 y2 y3))
 | 0=>fun _ _ _ _ r h=>by simp [spec_l4Glob.l0] at h
 | k + 1 => by
  have ih0:=spec_l4Glob.mono_l k
  ·intro y0 y1 y2 y3
   unfold spec_l4Glob.l0
   repeat' first
   | (with_reducible exact ih0 _ _ _ _)
   | (with_reducible exact spec_l1Rd_pick.mono _ _ _ _)
   | (with_reducible exact LeO.refl _)
   | (with_reducible exact LeO.none _)
   | (with_reducible refine LeO.ite ?_ ?_)
   | (with_reducible refine LeO.bind ?_ (fun _ => ?_))
   | exact ih0 _ _ _ _
   | exact spec_l1Rd_pick.mono _ _ _ _
   | exact LeO.none _
   | refine LeO.ite ?_ ?_
   | refine LeO.bind ?_ (fun _ => ?_)
theorem spec_l4Glob.mono:∀ a0 a1 k,LeO (spec_l4Glob.f k a0 a1) (spec_l4Glob.f (k+1) a0 a1):=by
 intro a0 a1 k;have ih0:=spec_l4Glob.mono_l k
 unfold spec_l4Glob.f
 repeat' first
   | (with_reducible exact ih0 _ _ _ _)
   | (with_reducible exact spec_l1Rd_pick.mono _ _ _ _)
   | (with_reducible exact LeO.refl _)
   | (with_reducible exact LeO.none _)
   | (with_reducible refine LeO.ite ?_ ?_)
   | (with_reducible refine LeO.bind ?_ (fun _ => ?_))
   | exact ih0 _ _ _ _
   | exact spec_l1Rd_pick.mono _ _ _ _
   | exact LeO.none _
   | refine LeO.ite ?_ ?_
   | refine LeO.bind ?_ (fun _ => ?_)
set_option maxHeartbeats 8000000 in
set_option maxRecDepth 100000 in
theorem spec_l4Glob.calls (k : Nat) (g : Nat) (s0_0 : List Int) (s0_1 : Int) (r1 : ByteArray) (r2 : Int) (w0 w : World) (hI : IsS173 w0 w g s0_0 s0_1) (hB : Below w0.heap.size w0 w) (h : spec_l4Glob.f k s0_0 s0_1 = some (r1, r2)) :
  Calls Tryd.prog 78 #[.pointer (some ⟨g,0,none⟩)] w fun e w'=>e = .returned (.string r1)∧IsS173 w0 w' g s0_0 r2∧Below w0.heap.size w0 w'∧KeepBut w w' g none:=by
 have a2:=Aside0.mk hI;have HK:=Aside0.mk (KeepBut.refl w g none);have HL:=Aside0.mk hB.size;clear hI;have HW0:=Aside0.mk hB.size;have HB:=Aside0.mk hB;clear hB;have H:((some (([(⟨#[42]⟩:ByteArray),(⟨#[42,42]⟩:ByteArray),(⟨#[97]⟩:ByteArray),(⟨#[63]⟩:ByteArray),(⟨#[98,42]⟩:ByteArray)]:List ByteArray):List ByteArray)).bind fun a5=>((spec_l1Rd_pick.f k s0_0 s0_1 5).bind fun bt445=>(if 0≤bt445.1 then (if bt445.1<(a5.length:Int) then ((spec_l1Rd_pick.f k s0_0 bt445.2 4).bind fun bt448=>(spec_l4Glob.l0 k (rdOf ByteArray.empty a5 bt445.1) bt448.1 s0_0 bt448.2)) else (none)) else (none))))=some (r1,r2):=h;clear h
 obtain ⟨a5,ab⟩:∃ y_:List ByteArray,y_=(([(⟨#[42]⟩:ByteArray),(⟨#[42,42]⟩:ByteArray),(⟨#[97]⟩:ByteArray),(⟨#[63]⟩:ByteArray),(⟨#[98,42]⟩:ByteArray)]:List ByteArray)):=⟨_,rfl⟩
 replace H:((spec_l1Rd_pick.f k s0_0 s0_1 5).bind fun bt445=>(if 0≤bt445.1 then (if bt445.1<(a5.length:Int) then ((spec_l1Rd_pick.f k s0_0 bt445.2 4).bind fun bt448=>(spec_l4Glob.l0 k (rdOf ByteArray.empty a5 bt445.1) bt448.1 s0_0 bt448.2)) else (none)) else (none)))=some (r1,r2):=by first|(rw [ab];with_reducible exact H)|(have H2_:=(Option.bind_some _ _).symm.trans H;rw [ab];with_reducible exact H2_)|(have H2_:=(Option.bind_some _ _).symm.trans H;with_reducible exact H2_)|with_reducible exact H|(rw [ab];exact H)|exact H
 have av:=Aside0.mk ab;clear ab;replace H:=Option.bind_eq_some_iff.mp H;obtain ⟨⟨a7,al⟩,A20,H⟩:=H;replace H:(if 0≤a7 then (if a7<(a5.length:Int) then ((spec_l1Rd_pick.f k s0_0 al 4).bind fun bt448=>(spec_l4Glob.l0 k (rdOf ByteArray.empty a5 a7) bt448.1 s0_0 bt448.2)) else (none)) else (none))=some (r1,r2):=H;have A2:=Aside0.mk A20;clear A20
 by_cases c3:0≤a7
 ·rw [if_pos c3] at H
  have ay:decide (0≤a7)=true:=decide_eq_true c3;clear c3
  by_cases c4:a7<(a5.length:Int)
  ·rw [if_pos c4] at H
   have az:decide (a7<(a5.length:Int))=true:=decide_eq_true c4;clear c4;replace H:=Option.bind_eq_some_iff.mp H;obtain ⟨⟨am,an⟩,A50,H⟩:=H;replace H:(spec_l4Glob.l0 k (rdOf ByteArray.empty a5 a7) am s0_0 an)=some (r1,r2):=H;have A5:=Aside0.mk A50;clear A50;have H':=Aside0.mk H;clear H
   go_enter Tryd.func78,Tryd.ntmps78
   go_wp2_with (first|((with_reducible refine gd 5 rfl ?_);refine Kd.R_lit Kd.string _ 9 ?hg (N:=5) ?hd (xs:=([(⟨#[42]⟩:ByteArray),(⟨#[42,42]⟩:ByteArray),(⟨#[97]⟩:ByteArray),(⟨#[63]⟩:ByteArray),(⟨#[98,42]⟩:ByteArray)]:List ByteArray)) (inner:=[.string (⟨#[42]⟩:ByteArray),.string (⟨#[42,42]⟩:ByteArray),.string (⟨#[97]⟩:ByteArray),.string (⟨#[63]⟩:ByteArray),.string (⟨#[98,42]⟩:ByteArray)]) (ok:=fun _=>True) (okp:=fun _=>True) ?hr ?hp (fun _ hk=>hk) trivial (Below.refl _ _) (Nat.le_refl _) (by simp) ?_;(case hd=>rfl);(case hg=>rfl);(case hr=>first|(go_simp;done)|(go_simp;rfl));(case hp=>exact (Reps.one (show Kd.M Kd.string _ _ _ (⟨#[42]⟩:ByteArray) [.string (⟨#[42]⟩:ByteArray)] from rfl) (Reps.one (show Kd.M Kd.string _ _ _ (⟨#[42,42]⟩:ByteArray) [.string (⟨#[42,42]⟩:ByteArray)] from rfl) (Reps.one (show Kd.M Kd.string _ _ _ (⟨#[97]⟩:ByteArray) [.string (⟨#[97]⟩:ByteArray)] from rfl) (Reps.one (show Kd.M Kd.string _ _ _ (⟨#[63]⟩:ByteArray) [.string (⟨#[63]⟩:ByteArray)] from rfl) (Reps.one (show Kd.M Kd.string _ _ _ (⟨#[98,42]⟩:ByteArray) [.string (⟨#[98,42]⟩:ByteArray)] from rfl) (Reps.none _ _)))))));intro v443 w6 ho7 hb hg_ hnew_;clear hg_ hnew_;(first|rw [←av.out] at ho7|(simp only [Int.reduceToNat] at ho7;rw [←av.out] at ho7));refine Ya4 (Kd.R_lower ho7 (keep_size (w:=w) (g:=g) (row:=none) (kb HK.out))) (IsS173.below (iq173 a2.out) hb) (KeepBut.trans (kb HK.out) (KeepBut.of_below hb g none) (.inl rfl)) (below_step (bq173 HB.out a2.out) hb) ?_;clear a2 HK HB;intro a9 a2 HK HB;clear hb ho7)|((with_reducible refine gc 66 rfl ?_);refine gl (some 7) _ (#[.pointer (some ⟨g,0,none⟩),.int .i64 5]) Tryd.func66 ?_;(with_reducible refine (spec_l1Rd_pick.calls k g s0_0 s0_1 5 a7 al w0 _ ?side1 ?side2 A2.out).mono ?_);(case side1=>exact iq173 a2.out);(case side2=>exact bq173 HB.out a2.out);rintro e w8 ⟨rfl,hi,hb,hk⟩;refine ⟨_,rfl,?_⟩;refine Ya4 (ra173 (iq173 a2.out) (kr a9.out) hk) (KeepBut.trans (kb HK.out) hk (.inl rfl)) (hb) (hi) ?_;clear a9 HK HB a2;intro a9 HK HB a2;(try clear hb);(try clear hb2);(try clear hk);(try clear hi);obtain ⟨Ao9,co9,eo9⟩:=Kd.R_slice a9.out;subst eo9;have ah:0≤(a7:Int):=oda;have ai:a7<(a5.length:Int):=oda;obtain ⟨ad447,aA,aB⟩:=Kd.at_string (Kd.R_reads' a9.out).2.2 a7 ah ai;cases aA;replace ah:=eq_true ah;replace ai:=eq_true ai)|((with_reducible refine gc 66 rfl ?_);refine gl (some 11) _ (#[.pointer (some ⟨g,0,none⟩),.int .i64 4]) Tryd.func66 ?_;(with_reducible refine (spec_l1Rd_pick.calls k g s0_0 al 4 am an w0 _ ?side1 ?side2 A5.out).mono ?_);(case side1=>exact iq173 a2.out);(case side2=>exact bq173 HB.out a2.out);rintro e w10 ⟨rfl,hi,hb,hk⟩;refine ⟨_,rfl,?_⟩;refine Ya4 (ra173 (iq173 a2.out) (kr a9.out) hk) (KeepBut.trans (kb HK.out) hk (.inl rfl)) (hb) (hi) ?_;clear a9 HK HB a2;intro a9 HK HB a2;(try clear hb);(try clear hb2);(try clear hk);(try clear hi)))
   go_loopg [3,4] k (fun kq v3 v4 w' => ∃ (a6:ByteArray) (a8:Int) (ac:Int),v3 = .string a6∧v4 = .int .i64 a8∧Aside0 (spec_l4Glob.l0 kq a6 a8 s0_0 ac=some (r1,r2))∧Aside0 (kq≤k)∧Aside0 (IsS173 w0 w' g s0_0 ac)∧Aside0 (KeepBut w w' g none)∧Aside0 (Below w0.heap.size w0 w'))
   case atStart=>exact ⟨(rdOf ByteArray.empty a5 a7),(am),(an),Ye1,Ye1,H',⟨Nat.le_refl _⟩,⟨iq173 a2.out⟩,⟨kb HK.out⟩,⟨bq173 HB.out a2.out⟩⟩
   case round =>
    clear H';(try clear p2);(try clear c3);(try clear ay);(try clear c4);(try clear az);(try clear p4);(try clear q4);(try clear hx4);(try clear c6);(try clear c7);(try clear aB);(try clear ah);(try clear ai);obtain ⟨a6,a8,ac,rfl,rfl,HA,HK1,a2,HK,HB⟩:=hrel
    cases gk with
    | zero=>exact absurd HA.out (by simp [spec_l4Glob.l0])
    | succ k1 =>
     have H:=HA.out;clear HA;simp only [spec_l4Glob.l0] at H
     by_cases aa:a8>0
     ·rw [if_pos aa] at H
      have aC:decide (0<a8)=true:=decide_eq_true aa;clear aa
      by_cases ad:a6.size+1≤9223372036854775807
      ·rw [if_pos ad] at H
       have c12b0:=eq_true ad;have c12b1:decide (a6.size+1≤9223372036854775807)=true:=decide_eq_true ad
       try have c12b2:(9223372036854775807<a6.size+1)=False:=eq_false (Nat.not_lt.2 ad)
       obtain ⟨a3,ae⟩:∃ y_:List ByteArray,y_=(([(⟨#[42]⟩:ByteArray),(⟨#[42,42]⟩:ByteArray),(⟨#[120,42]⟩:ByteArray),(⟨#[63]⟩:ByteArray),(⟨#[42,120,42]⟩:ByteArray),(⟨#[63,63]⟩:ByteArray),(⟨#[42,46,107]⟩:ByteArray),(⟨#[120]⟩:ByteArray),(⟨#[97]⟩:ByteArray)]:List ByteArray)):=⟨_,rfl⟩
       replace H:((spec_l1Rd_pick.f k1 s0_0 ac 9).bind fun bt453=>(if 0≤bt453.1 then (if bt453.1<(a3.length:Int) then (if (a6++(⟨#[47]⟩:ByteArray)).size+(rdOf ByteArray.empty a3 bt453.1).size≤9223372036854775807 then (spec_l4Glob.l0 k1 ((a6++(⟨#[47]⟩:ByteArray))++(rdOf ByteArray.empty a3 bt453.1)) (wrap64 (a8 - 1)) s0_0 bt453.2) else (none)) else (none)) else (none)))=some (r1,r2):=by first|(rw [ae];with_reducible exact H)|(have H2_:=(Option.bind_some _ _).symm.trans H;rw [ae];with_reducible exact H2_)|(have H2_:=(Option.bind_some _ _).symm.trans H;with_reducible exact H2_)|with_reducible exact H|(rw [ae];exact H)|exact H
       have aw:=Aside0.mk ae;clear ae;replace H:=Option.bind_eq_some_iff.mp H;obtain ⟨⟨a4,ao⟩,ax,H⟩:=H;replace H:(if 0≤a4 then (if a4<(a3.length:Int) then (if (a6++(⟨#[47]⟩:ByteArray)).size+(rdOf ByteArray.empty a3 a4).size≤9223372036854775807 then (spec_l4Glob.l0 k1 ((a6++(⟨#[47]⟩:ByteArray))++(rdOf ByteArray.empty a3 a4)) (wrap64 (a8 - 1)) s0_0 ao) else (none)) else (none)) else (none))=some (r1,r2):=H;have A13:=Aside0.mk ax;clear ax
       by_cases aj:0≤a4
       ·rw [if_pos aj] at H
        have c14b0:decide (0≤a4)=true:=decide_eq_true aj;clear aj
        by_cases ak:a4<(a3.length:Int)
        ·rw [if_pos ak] at H
         have c15b0:decide (a4<(a3.length:Int))=true:=decide_eq_true ak;clear ak
         by_cases af:(a6++(⟨#[47]⟩:ByteArray)).size+(rdOf ByteArray.empty a3 a4).size≤9223372036854775807
         ·rw [if_pos af] at H
          have c16b0:=eq_true af;have c16b1:decide ((a6++(⟨#[47]⟩:ByteArray)).size+(rdOf ByteArray.empty a3 a4).size≤9223372036854775807)=true:=decide_eq_true af
          try have c16b2:(9223372036854775807<(a6++(⟨#[47]⟩:ByteArray)).size+(rdOf ByteArray.empty a3 a4).size)=False:=eq_false (Nat.not_lt.2 af)
          have H':=Aside0.mk H;clear H
          go_wp2_with (first|((with_reducible refine gd 18 rfl ?_);refine Kd.R_lit Kd.string _ 9 ?hg (N:=18) ?hd (xs:=([(⟨#[42]⟩:ByteArray),(⟨#[42,42]⟩:ByteArray),(⟨#[120,42]⟩:ByteArray),(⟨#[63]⟩:ByteArray),(⟨#[42,120,42]⟩:ByteArray),(⟨#[63,63]⟩:ByteArray),(⟨#[42,46,107]⟩:ByteArray),(⟨#[120]⟩:ByteArray),(⟨#[97]⟩:ByteArray)]:List ByteArray)) (inner:=[.string (⟨#[42]⟩:ByteArray),.string (⟨#[42,42]⟩:ByteArray),.string (⟨#[120,42]⟩:ByteArray),.string (⟨#[63]⟩:ByteArray),.string (⟨#[42,120,42]⟩:ByteArray),.string (⟨#[63,63]⟩:ByteArray),.string (⟨#[42,46,107]⟩:ByteArray),.string (⟨#[120]⟩:ByteArray),.string (⟨#[97]⟩:ByteArray)]) (ok:=fun _=>True) (okp:=fun _=>True) ?hr ?hp (fun _ hk=>hk) trivial (Below.refl _ _) (Nat.le_refl _) (by simp) ?_;(case hd=>rfl);(case hg=>rfl);(case hr=>first|(go_simp;done)|(go_simp;rfl));(case hp=>exact (Reps.one (show Kd.M Kd.string _ _ _ (⟨#[42]⟩:ByteArray) [.string (⟨#[42]⟩:ByteArray)] from rfl) (Reps.one (show Kd.M Kd.string _ _ _ (⟨#[42,42]⟩:ByteArray) [.string (⟨#[42,42]⟩:ByteArray)] from rfl) (Reps.one (show Kd.M Kd.string _ _ _ (⟨#[120,42]⟩:ByteArray) [.string (⟨#[120,42]⟩:ByteArray)] from rfl) (Reps.one (show Kd.M Kd.string _ _ _ (⟨#[63]⟩:ByteArray) [.string (⟨#[63]⟩:ByteArray)] from rfl) (Reps.one (show Kd.M Kd.string _ _ _ (⟨#[42,120,42]⟩:ByteArray) [.string (⟨#[42,120,42]⟩:ByteArray)] from rfl) (Reps.one (show Kd.M Kd.string _ _ _ (⟨#[63,63]⟩:ByteArray) [.string (⟨#[63,63]⟩:ByteArray)] from rfl) (Reps.one (show Kd.M Kd.string _ _ _ (⟨#[42,46,107]⟩:ByteArray) [.string (⟨#[42,46,107]⟩:ByteArray)] from rfl) (Reps.one (show Kd.M Kd.string _ _ _ (⟨#[120]⟩:ByteArray) [.string (⟨#[120]⟩:ByteArray)] from rfl) (Reps.one (show Kd.M Kd.string _ _ _ (⟨#[97]⟩:ByteArray) [.string (⟨#[97]⟩:ByteArray)] from rfl) (Reps.none _ _)))))))))));intro v451 w17 ho18 hb hg_ hnew_;clear hg_ hnew_;(first|rw [←aw.out] at ho18|(simp only [Int.reduceToNat] at ho18;rw [←aw.out] at ho18));refine Ya4 (Kd.R_lower ho18 (keep_size (w:=w) (g:=g) (row:=none) (kb HK.out))) (IsS173.below (iq173 a2.out) hb) (KeepBut.trans (kb HK.out) (KeepBut.of_below hb g none) (.inl rfl)) (below_step (bq173 HB.out a2.out) hb) ?_;clear a2 HK HB;intro ag a2 HK HB;clear hb ho18)|((with_reducible refine gc 66 rfl ?_);refine gl (some 20) _ (#[.pointer (some ⟨g,0,none⟩),.int .i64 9]) Tryd.func66 ?_;(with_reducible refine (spec_l1Rd_pick.calls k1 g s0_0 ac 9 a4 ao w0 _ ?side1 ?side2 A13.out).mono ?_);(case side1=>exact iq173 a2.out);(case side2=>exact bq173 HB.out a2.out);rintro e w19 ⟨rfl,hi,hb,hk⟩;refine ⟨_,rfl,?_⟩;refine Ya4 (ra173 (iq173 a2.out) (kr ag.out) hk) (KeepBut.trans (kb HK.out) hk (.inl rfl)) (hb) (hi) ?_;clear ag HK HB a2;intro ag HK HB a2;(try clear hb);(try clear hb2);(try clear hk);(try clear hi);obtain ⟨Ao20,co20,aD⟩:=Kd.R_slice ag.out;subst aD;have ap:0≤(a4:Int):=oda;have aq:a4<(a3.length:Int):=oda;obtain ⟨ad455,aE,aF⟩:=Kd.at_string (Kd.R_reads' ag.out).2.2 a4 ap aq;cases aE;replace ap:=eq_true ap;replace aq:=eq_true aq))
          go_roundg k1
          case measure=>have:=HK1.out;omega
          case rel=>exact ⟨((a6++(⟨#[47]⟩:ByteArray))++(rdOf ByteArray.empty a3 a4)),(wrap64 (a8 - 1)),(ao),Ye1,Ye1,H',⟨by have:=HK1.out;omega⟩,⟨iq173 a2.out⟩,⟨kb HK.out⟩,⟨bq173 HB.out a2.out⟩⟩
         ·rw [if_neg af] at H
          exact absurd H (by simp)
        ·rw [if_neg ak] at H
         exact absurd H (by simp)
       ·rw [if_neg aj] at H
        exact absurd H (by simp)
      ·rw [if_neg ad] at H
       exact absurd H (by simp)
     ·rw [if_neg aa] at H
      have aC:decide (0<a8)=false:=decide_eq_false aa;clear aa;simp only [Option.some.injEq,Prod.mk.injEq] at H;obtain ⟨rfl,rfl⟩:=H
      go_wp2
      go_ret
      exact ⟨Ye2,iq173 a2.out,bq173 HB.out a2.out,kb HK.out⟩
  ·rw [if_neg c4] at H
   exact absurd H (by simp)
 ·rw [if_neg c3] at H
  exact absurd H (by simp)

end Go.Proofs.YtknagppkeodggaaDoor.P


namespace Go.Proofs.YtknagppkeodggaaDoor.P
open Go.RowKit Go.Proofs.YtknagppkeodggaaDoorW.PrintWords Go.Proofs.YtknagppkeodggaaDoorW.PrintLast Go.Proofs.YtknagppkeodggaaDoorW.PrintMore
attribute [local go_sem] max2_int min2_int max_two min_two max_three min_three max_four min_four
set_option linter.unusedVariables false
set_option linter.unusedSimpArgs false

def spec_l4Path.l0:Nat→ByteArray→Int→List Int→Int→Option (ByteArray×Int)
 | 0,_,_,_,_=>none
 | k+1,x3,x4,az,aA=>if x4>0 then (if x3.size+1≤9223372036854775807 then ((some (([(⟨#[120]⟩:ByteArray),(⟨#[121]⟩:ByteArray),(⟨#[120,120]⟩:ByteArray),(⟨#[109,97,105,110,46,107]⟩:ByteArray),(⟨#[97]⟩:ByteArray),(⟨#[120,33]⟩:ByteArray)]:List ByteArray):List ByteArray)).bind fun a7=>((spec_l1Rd_pick.f k az aA 6).bind fun bt183=>(if 0≤bt183.1 then (if bt183.1<(a7.length:Int) then (if (x3++(⟨#[47]⟩:ByteArray)).size+(rdOf ByteArray.empty a7 bt183.1).size≤9223372036854775807 then (spec_l4Path.l0 k ((x3++(⟨#[47]⟩:ByteArray))++(rdOf ByteArray.empty a7 bt183.1)) (wrap64 (x4 - 1)) az bt183.2) else (none)) else (none)) else (none)))) else (none)) else (some (x3,aA))
def spec_l4Path.f (k:Nat) (s0_0:List Int) (s0_1:Int):Option (ByteArray×Int):=(spec_l1Rd_pick.f k s0_0 s0_1 3).bind fun bt170=>(if 0≤bt170.1 then (if bt170.1≤3 then (if 0≤1 then (if 1≤(((⟨#[97,98,99]⟩:ByteArray).extract (bt170.1:Int).toNat (⟨#[97,98,99]⟩:ByteArray).size).size:Int) then ((some (([(⟨#[]⟩:ByteArray),(⟨#[]⟩:ByteArray),(⟨#[]⟩:ByteArray),(⟨#[]⟩:ByteArray),(⟨#[33,98]⟩:ByteArray),(⟨#[45]⟩:ByteArray)]:List ByteArray):List ByteArray)).bind fun a3=>((spec_l1Rd_pick.f k s0_0 bt170.2 6).bind fun bt175=>(if 0≤bt175.1 then (if bt175.1<(a3.length:Int) then (if (((⟨#[97,98,99]⟩:ByteArray).extract (bt170.1:Int).toNat (⟨#[97,98,99]⟩:ByteArray).size).extract 0 1).size+(rdOf ByteArray.empty a3 bt175.1).size≤9223372036854775807 then ((spec_l1Rd_pick.f k s0_0 bt175.2 4).bind fun bt178=>(spec_l4Path.l0 k ((((⟨#[97,98,99]⟩:ByteArray).extract (bt170.1:Int).toNat (⟨#[97,98,99]⟩:ByteArray).size).extract 0 1)++(rdOf ByteArray.empty a3 bt175.1)) bt178.1 s0_0 bt178.2)) else (none)) else (none)) else (none)))) else (none)) else (none)) else (none)) else (none))
theorem spec_l4Path.mono_l:∀ k,(∀ y0 y1 y2 y3,LeO (spec_l4Path.l0 k y0 y1 y2 y3) (spec_l4Path.l0 (k+1) y0 y1 y2 y3))
 | 0=>fun _ _ _ _ r h=>by simp [spec_l4Path.l0] at h
 | k + 1 => by
  have ih0:=spec_l4Path.mono_l k
  ·intro y0 y1 y2 y3
   unfold spec_l4Path.l0
   repeat' first
   | (with_reducible exact ih0 _ _ _ _)
   | (with_reducible exact spec_l1Rd_pick.mono _ _ _ _)
   | (with_reducible exact LeO.refl _)
   | (with_reducible exact LeO.none _)
   | (with_reducible refine LeO.ite ?_ ?_)
   | (with_reducible refine LeO.bind ?_ (fun _ => ?_))
   | exact ih0 _ _ _ _
   | exact spec_l1Rd_pick.mono _ _ _ _
   | exact LeO.none _
   | refine LeO.ite ?_ ?_
   | refine LeO.bind ?_ (fun _ => ?_)
theorem spec_l4Path.mono:∀ a0 a1 k,LeO (spec_l4Path.f k a0 a1) (spec_l4Path.f (k+1) a0 a1):=by
 intro a0 a1 k;have ih0:=spec_l4Path.mono_l k
 unfold spec_l4Path.f
 repeat' first
   | (with_reducible exact ih0 _ _ _ _)
   | (with_reducible exact spec_l1Rd_pick.mono _ _ _ _)
   | (with_reducible exact LeO.refl _)
   | (with_reducible exact LeO.none _)
   | (with_reducible refine LeO.ite ?_ ?_)
   | (with_reducible refine LeO.bind ?_ (fun _ => ?_))
   | exact ih0 _ _ _ _
   | exact spec_l1Rd_pick.mono _ _ _ _
   | exact LeO.none _
   | refine LeO.ite ?_ ?_
   | refine LeO.bind ?_ (fun _ => ?_)
def spec_l4Path.T1:Bool×List (List Nat×List Nat):=(true,[([],[]),([0],[0]),([1],[1]),([2],[2]),([],[]),([],[]),([5,1],[5]),([4,6],[4,6]),([7],[7]),([3,8],[3,8]),([9,6,0,1,2,3,4,5,6,7,8,9],[9])])
def spec_l4Path.B1:List Nat:=[0,1,3,7,0,0,35,115,243,511,1023]
theorem spec_l4Path.tab1:rtab .any (opsOf Tryd.f77 1)=spec_l4Path.T1:=by kernel_rfl
theorem spec_l4Path.bits1:waitsOk spec_l4Path.T1.2 spec_l4Path.B1=true:=by kernel_rfl
set_option maxHeartbeats 8000000 in
set_option maxRecDepth 100000 in
theorem spec_l4Path.calls (k : Nat) (g : Nat) (s0_0 : List Int) (s0_1 : Int) (r1 : ByteArray) (r2 : Int) (w0 w : World) (hI : IsS173 w0 w g s0_0 s0_1) (hB : Below w0.heap.size w0 w) (h : spec_l4Path.f k s0_0 s0_1 = some (r1, r2)) :
  Calls Tryd.prog 77 #[.pointer (some ⟨g,0,none⟩)] w fun e w'=>e = .returned (.string r1)∧IsS173 w0 w' g s0_0 r2∧Below w0.heap.size w0 w'∧KeepBut w w' g none:=by
 have a2:=Aside0.mk hI;have HK:=Aside0.mk (KeepBut.refl w g none);have HL:=Aside0.mk hB.size;clear hI;have HW0:=Aside0.mk hB.size;have HB:=Aside0.mk hB;clear hB;have H:((spec_l1Rd_pick.f k s0_0 s0_1 3).bind fun bt170=>(if 0≤bt170.1 then (if bt170.1≤3 then (if 0≤1 then (if 1≤(((⟨#[97,98,99]⟩:ByteArray).extract (bt170.1:Int).toNat (⟨#[97,98,99]⟩:ByteArray).size).size:Int) then ((some (([(⟨#[]⟩:ByteArray),(⟨#[]⟩:ByteArray),(⟨#[]⟩:ByteArray),(⟨#[]⟩:ByteArray),(⟨#[33,98]⟩:ByteArray),(⟨#[45]⟩:ByteArray)]:List ByteArray):List ByteArray)).bind fun a3=>((spec_l1Rd_pick.f k s0_0 bt170.2 6).bind fun bt175=>(if 0≤bt175.1 then (if bt175.1<(a3.length:Int) then (if (((⟨#[97,98,99]⟩:ByteArray).extract (bt170.1:Int).toNat (⟨#[97,98,99]⟩:ByteArray).size).extract 0 1).size+(rdOf ByteArray.empty a3 bt175.1).size≤9223372036854775807 then ((spec_l1Rd_pick.f k s0_0 bt175.2 4).bind fun bt178=>(spec_l4Path.l0 k ((((⟨#[97,98,99]⟩:ByteArray).extract (bt170.1:Int).toNat (⟨#[97,98,99]⟩:ByteArray).size).extract 0 1)++(rdOf ByteArray.empty a3 bt175.1)) bt178.1 s0_0 bt178.2)) else (none)) else (none)) else (none)))) else (none)) else (none)) else (none)) else (none)))=some (r1,r2):=h;clear h;replace H:=Option.bind_eq_some_iff.mp H;obtain ⟨⟨a4,ac⟩,A20,H⟩:=H;replace H:(if 0≤a4 then (if a4≤3 then (if 0≤1 then (if 1≤(((⟨#[97,98,99]⟩:ByteArray).extract (a4:Int).toNat (⟨#[97,98,99]⟩:ByteArray).size).size:Int) then ((some (([(⟨#[]⟩:ByteArray),(⟨#[]⟩:ByteArray),(⟨#[]⟩:ByteArray),(⟨#[]⟩:ByteArray),(⟨#[33,98]⟩:ByteArray),(⟨#[45]⟩:ByteArray)]:List ByteArray):List ByteArray)).bind fun a3=>((spec_l1Rd_pick.f k s0_0 ac 6).bind fun bt175=>(if 0≤bt175.1 then (if bt175.1<(a3.length:Int) then (if (((⟨#[97,98,99]⟩:ByteArray).extract (a4:Int).toNat (⟨#[97,98,99]⟩:ByteArray).size).extract 0 1).size+(rdOf ByteArray.empty a3 bt175.1).size≤9223372036854775807 then ((spec_l1Rd_pick.f k s0_0 bt175.2 4).bind fun bt178=>(spec_l4Path.l0 k ((((⟨#[97,98,99]⟩:ByteArray).extract (a4:Int).toNat (⟨#[97,98,99]⟩:ByteArray).size).extract 0 1)++(rdOf ByteArray.empty a3 bt175.1)) bt178.1 s0_0 bt178.2)) else (none)) else (none)) else (none)))) else (none)) else (none)) else (none)) else (none))=some (r1,r2):=H;have A2:=Aside0.mk A20;clear A20
 by_cases c3:0≤a4
 ·rw [if_pos c3] at H
  have aE:=eq_true c3;have aF:decide (0≤a4)=true:=decide_eq_true c3;clear c3
  by_cases c4:a4≤3
  ·rw [if_pos c4] at H
   have aG:=eq_true c4;have aH:decide (a4≤3)=true:=decide_eq_true c4;clear c4
   by_cases c5:0≤1
   ·rw [if_pos c5] at H
    have aI:=eq_true c5;have aJ:decide (0≤1)=true:=decide_eq_true c5;clear c5
    by_cases c6:1≤(((⟨#[97,98,99]⟩:ByteArray).extract (a4:Int).toNat (⟨#[97,98,99]⟩:ByteArray).size).size:Int)
    ·rw [if_pos c6] at H
     have c6q:1≤3 - a4.toNat:=(by have h_:=c6;rw [ByteArray.size_extract] at h_;have e_:(⟨#[97,98,99]⟩:ByteArray).size=3:=rfl;omega)
     have c6r:(((3 - a4.toNat:Nat):Int)<1)=False:=eq_false (by omega);have aK:=eq_true c6;have aL:decide (1≤(((⟨#[97,98,99]⟩:ByteArray).extract (a4:Int).toNat (⟨#[97,98,99]⟩:ByteArray).size).size:Int))=true:=decide_eq_true c6
     have c6o:1≤3 - a4.toNat:=(by have h_:=c6;rw [ByteArray.size_extract] at h_;have e_:(⟨#[97,98,99]⟩:ByteArray).size=3:=rfl;omega)
     clear c6
     obtain ⟨a3,ah⟩:∃ y_:List ByteArray,y_=(([(⟨#[]⟩:ByteArray),(⟨#[]⟩:ByteArray),(⟨#[]⟩:ByteArray),(⟨#[]⟩:ByteArray),(⟨#[33,98]⟩:ByteArray),(⟨#[45]⟩:ByteArray)]:List ByteArray)):=⟨_,rfl⟩
     replace H:((spec_l1Rd_pick.f k s0_0 ac 6).bind fun bt175=>(if 0≤bt175.1 then (if bt175.1<(a3.length:Int) then (if (((⟨#[97,98,99]⟩:ByteArray).extract (a4:Int).toNat (⟨#[97,98,99]⟩:ByteArray).size).extract 0 1).size+(rdOf ByteArray.empty a3 bt175.1).size≤9223372036854775807 then ((spec_l1Rd_pick.f k s0_0 bt175.2 4).bind fun bt178=>(spec_l4Path.l0 k ((((⟨#[97,98,99]⟩:ByteArray).extract (a4:Int).toNat (⟨#[97,98,99]⟩:ByteArray).size).extract 0 1)++(rdOf ByteArray.empty a3 bt175.1)) bt178.1 s0_0 bt178.2)) else (none)) else (none)) else (none)))=some (r1,r2):=by first|(rw [ah];with_reducible exact H)|(have H2_:=(Option.bind_some _ _).symm.trans H;rw [ah];with_reducible exact H2_)|(have H2_:=(Option.bind_some _ _).symm.trans H;with_reducible exact H2_)|with_reducible exact H|(rw [ah];exact H)|exact H
     have ar:=Aside0.mk ah;clear ah;replace H:=Option.bind_eq_some_iff.mp H;obtain ⟨⟨a5,ai⟩,A70,H⟩:=H;replace H:(if 0≤a5 then (if a5<(a3.length:Int) then (if (((⟨#[97,98,99]⟩:ByteArray).extract (a4:Int).toNat (⟨#[97,98,99]⟩:ByteArray).size).extract 0 1).size+(rdOf ByteArray.empty a3 a5).size≤9223372036854775807 then ((spec_l1Rd_pick.f k s0_0 ai 4).bind fun bt178=>(spec_l4Path.l0 k ((((⟨#[97,98,99]⟩:ByteArray).extract (a4:Int).toNat (⟨#[97,98,99]⟩:ByteArray).size).extract 0 1)++(rdOf ByteArray.empty a3 a5)) bt178.1 s0_0 bt178.2)) else (none)) else (none)) else (none))=some (r1,r2):=H;have A7:=Aside0.mk A70;clear A70
     by_cases c8:0≤a5
     ·rw [if_pos c8] at H
      have aM:decide (0≤a5)=true:=decide_eq_true c8;clear c8
      by_cases c9:a5<(a3.length:Int)
      ·rw [if_pos c9] at H
       have aN:decide (a5<(a3.length:Int))=true:=decide_eq_true c9;clear c9
       by_cases c10:(((⟨#[97,98,99]⟩:ByteArray).extract (a4:Int).toNat (⟨#[97,98,99]⟩:ByteArray).size).extract 0 1).size+(rdOf ByteArray.empty a3 a5).size≤9223372036854775807
       ·rw [if_pos c10] at H
        try have c10n:1+(rdOf ByteArray.empty a3 a5).size≤9223372036854775807:=(by have h_:=c10;(try simp only [ByteArray.size_append] at h_);(try simp only [ByteArray.size_extract] at h_);(try simp only [show (⟨#[97,98,99]⟩:ByteArray).size=3 from rfl] at h_);(try omega);(try simpa using h_))
        try have c10m:=eq_true c10n
        try have c10d:=decide_eq_true c10n
        try have c10l:=eq_false (Nat.not_lt.2 c10n)
        (try clear c10n);have aO:=eq_true c10;have aP:decide ((((⟨#[97,98,99]⟩:ByteArray).extract (a4:Int).toNat (⟨#[97,98,99]⟩:ByteArray).size).extract 0 1).size+(rdOf ByteArray.empty a3 a5).size≤9223372036854775807)=true:=decide_eq_true c10
        try have aQ:(9223372036854775807<(((⟨#[97,98,99]⟩:ByteArray).extract (a4:Int).toNat (⟨#[97,98,99]⟩:ByteArray).size).extract 0 1).size+(rdOf ByteArray.empty a3 a5).size)=False:=eq_false (Nat.not_lt.2 c10)
        replace H:=Option.bind_eq_some_iff.mp H;obtain ⟨⟨au,av⟩,aB,H⟩:=H;replace H:(spec_l4Path.l0 k ((((⟨#[97,98,99]⟩:ByteArray).extract (a4:Int).toNat (⟨#[97,98,99]⟩:ByteArray).size).extract 0 1)++(rdOf ByteArray.empty a3 a5)) au s0_0 av)=some (r1,r2):=H;have A11:=Aside0.mk aB;clear aB;have H':=Aside0.mk H;clear H
        go_enter Tryd.func77,Tryd.ntmps77
        try go_wp2
        have pi177:(0≤(a5:Int))=True:=eq_true (oda);have qi177:(a5<(a3.length:Int))=True:=eq_true (oda);refine Ya3 (IsS173.drew a2.out) (keep_drew HK.out) (below_drew1 HB.out) ?_;clear a2 HK HB;intro a2 HK HB;refine start_ (n:=11) (S:=fun w'=>True) (ds:=[]) (fb 11 0) (by kernel_rfl) rfl rfl trivial (fun hHeld => ?_);refine with_tabW spec_l4Path.tab1 spec_l4Path.bits1 (fun HT_ HW_ => ?_);generalize w.drew=w12 at a2 HK HB hHeld ⊢; refine pu 0 5 (fb 11 1) HT_ ?_;refine pu 5 10 (fb 11 33) HT_ ?_;refine inv_at [1,2,3,4,6,7,8,9,10] (fun a0_ b a w' => ∃ (a6:Value) (adz_v173:Addr) (m7_:Value),a=putSel a0_ b [(1,6,.int .i64 a4),(2,7,.string ((⟨#[97,98,99]⟩:ByteArray).extract (a4:Int).toNat (⟨#[97,98,99]⟩:ByteArray).size)),(3,8,.string (((⟨#[97,98,99]⟩:ByteArray).extract (a4:Int).toNat (⟨#[97,98,99]⟩:ByteArray).size).extract 0 1)),(4,9,a6),(6,11,.int .i64 a5),(7,12,m7_),(8,13,.string (rdOf ByteArray.empty a3 a5)),(9,14,.string ((((⟨#[97,98,99]⟩:ByteArray).extract (a4:Int).toNat (⟨#[97,98,99]⟩:ByteArray).size).extract 0 1)++(rdOf ByteArray.empty a3 a5))),(10,3,.string ((((⟨#[97,98,99]⟩:ByteArray).extract (a4:Int).toNat (⟨#[97,98,99]⟩:ByteArray).size).extract 0 1)++(rdOf ByteArray.empty a3 a5)))]∧(b 1=false→IsS173 w0 w' g s0_0 s0_1)∧(KeepBut w w' g none)∧(Below w0.heap.size w0 w')∧(b 1=true→b 6=false→IsS173 w0 w' g s0_0 ac)∧(b 4=true→Kd.R Kd.string 9 w' w.heap.size (fun _=>True) a6 a3)∧(b 4=true → ∃ c_,(a6:Value) = .slice (some adz_v173) a3.length c_)∧(b 6=true→IsS173 w0 w' g s0_0 ai)∧(b 7=true→(m7_:Value) = .pointer (some (adz_v173.add (a5).toNat)))) HT_.out HW_.out (by kernel_rfl) (by kernel_rfl) ?_ ?_ ?_
        ·exact ⟨.bool false,⟨0,0,none⟩,.bool false,by simp only [putSel,Bool.false_eq_true,if_false],fun _=>a2.out,HK.out,HB.out,fun h_=>absurd h_ (by decide),fun h_=>absurd h_ (by decide),fun h_=>absurd h_ (by decide),fun h_=>absurd h_ (by decide),fun h_=>absurd h_ (by decide)⟩
        ·skip
         clear HB a2 HK;refine steps_cons ?_ ?_
         ·rintro b a w' ⟨a6,adz_v173,m7_,ha,Q_HI0,Q_HK,Q_HB,Q_HI0_e1,Q_HO174,Q_HA_HO174,Q_HI0_e6,Q_X7_⟩ hb_ hon hoff;refine ⟨_,rfl,fun K hK => ?_⟩
          have e5:a.tmps[5]? = some (.pointer (some ⟨g,0,none⟩)):=by rw [ha];exact (putSel_off rfl).trans rfl
          replace ha:=Aside0.mk ha;have a2:=Aside0.mk (Q_HI0 hb_);have HK:=Aside0.mk Q_HK;have HB:=Aside0.mk Q_HB;refine goes_ Tryd.func66 (by kernel_rfl) rfl #[.pointer (some ⟨g,0,none⟩),.int .i64 3] (by rfl) rfl rfl (by first|(simp only [List.map_toArray,List.map_cons,List.map_nil,Act.eval,Array.getD_eq_getD_getElem?,Option.getD_some,e5];done)|(simp only [List.map_toArray,List.map_cons,List.map_nil,Act.eval,Array.getD_eq_getD_getElem?,Option.getD_some,e5];rfl)) ?_;(with_reducible refine (spec_l1Rd_pick.calls k g s0_0 s0_1 3 a4 ac w0 _ ?side1 ?side2 A2.out).mono ?_);(case side1=>exact iq173 a2.out);(case side2=>exact bq173 HB.out a2.out);rintro e aj ⟨rfl,hi,hb,hk⟩;refine ⟨_,rfl,?_⟩;have ad:=Aside0.mk (KeepBut.trans (kb HK.out) hk (.inl rfl));have ak:=Aside0.mk (hb);have ae:=Aside0.mk (hi)
          have z_HO174:=fun (h0_:b 4=true)=>(show Kd.R Kd.string 9 aj w.heap.size (fun _=>True) a6 a3 from by first|exact (Kd.R_mono (Kd.R_keep (IsS173.apart (show IsS173 w0 _ g s0_0 s0_1 from iq173 a2.out) (by (with_reducible repeat (first|apply Kd.R_alloc|apply Kd.R_drewN|apply Kd.R_drew));exact (Q_HO174 h0_)) (by decide)) hk (fun _ h=>h.2)) (fun _ h=>h.1))|exact Kd.R_mono (Kd.R_mono (Kd.R_keep (IsS173.apart (show IsS173 w0 _ g s0_0 s0_1 from iq173 a2.out) (by (with_reducible repeat (first|apply Kd.R_alloc|apply Kd.R_drewN|apply Kd.R_drew));exact (Q_HO174 h0_)) (by decide)) hk (fun _ h=>h.2)) (fun _ h=>h.1)) (fun _ h_=>by first|trivial|exact h_|exact h_.1))
          clear HK;clear HB;clear a2;have HK:=ad;have HB:=ak;have a2:=ae;clear ad ak ae;(try clear hb);(try clear hb2);(try clear hk);(try clear hi);refine hK.out _ _ ⟨a6,adz_v173,m7_,(by rw [ha.out];exact putSel_upk 0 hb_ rfl rfl rfl),fun h0_=>absurd ((up_self b 1).symm.trans h0_) (by decide),(kb HK.out),(bq173 HB.out a2.out),fun _ _=>(iq173 a2.out),z_HO174,Q_HA_HO174,fun h0_=>absurd ((hoff 6 (by kernel_rfl)).symm.trans h0_) (by decide),fun h0_=>absurd ((hoff 7 (by kernel_rfl)).symm.trans h0_) (by decide)⟩
         refine steps_cons ?_ ?_
         ·rintro b a w' ⟨a6,adz_v173,m7_,ha,Q_HI0,Q_HK,Q_HB,Q_HI0_e1,Q_HO174,Q_HA_HO174,Q_HI0_e6,Q_X7_⟩ hb_ hon hoff;refine ⟨_,rfl,fun K hK => ?_⟩
          have e6:a.tmps[6]? = some (.int .i64 a4):=by rw [ha];exact putSel_on (e:=(1,6,.int .i64 a4)) 0 rfl rfl (hon 1 (by kernel_rfl)) rfl
          replace ha:=Aside0.mk ha;have HK:=Aside0.mk Q_HK;have HB:=Aside0.mk Q_HB;refine value_ (w1:=w') (v:=.string ((⟨#[97,98,99]⟩:ByteArray).extract (a4:Int).toNat (⟨#[97,98,99]⟩:ByteArray).size)) (by rfl) rfl ?_ ?_
          ·go_simp;(try simp only [i64_w])
           try rfl
          refine hK.out _ _ ⟨a6,adz_v173,m7_,(by rw [ha.out];exact putSel_upk 1 hb_ rfl rfl rfl),fun h0_=>absurd ((hon 1 (by kernel_rfl)).symm.trans h0_) (by decide),Q_HK,Q_HB,Q_HI0_e1,Q_HO174,Q_HA_HO174,Q_HI0_e6,Q_X7_⟩
         refine steps_cons ?_ ?_
         ·rintro b a w' ⟨a6,adz_v173,m7_,ha,Q_HI0,Q_HK,Q_HB,Q_HI0_e1,Q_HO174,Q_HA_HO174,Q_HI0_e6,Q_X7_⟩ hb_ hon hoff;refine ⟨_,rfl,fun K hK => ?_⟩
          have e7:a.tmps[7]? = some (.string ((⟨#[97,98,99]⟩:ByteArray).extract (a4:Int).toNat (⟨#[97,98,99]⟩:ByteArray).size)):=by rw [ha];exact putSel_on (e:=(2,7,.string ((⟨#[97,98,99]⟩:ByteArray).extract (a4:Int).toNat (⟨#[97,98,99]⟩:ByteArray).size))) 1 rfl rfl (hon 2 (by kernel_rfl)) rfl
          replace ha:=Aside0.mk ha;have HK:=Aside0.mk Q_HK;have HB:=Aside0.mk Q_HB;refine value_ (w1:=w') (v:=.string (((⟨#[97,98,99]⟩:ByteArray).extract (a4:Int).toNat (⟨#[97,98,99]⟩:ByteArray).size).extract 0 1)) (by rfl) rfl ?_ ?_
          ·go_simp;(try simp only [i64_w])
           try rfl
          refine hK.out _ _ ⟨a6,adz_v173,m7_,(by rw [ha.out];exact putSel_upk 2 hb_ rfl rfl rfl),fun h0_=>absurd ((hon 1 (by kernel_rfl)).symm.trans h0_) (by decide),Q_HK,Q_HB,Q_HI0_e1,Q_HO174,Q_HA_HO174,Q_HI0_e6,Q_X7_⟩
         refine steps_cons ?_ ?_
         ·rintro b a w' ⟨a6,adz_v173,m7_,ha,Q_HI0,Q_HK,Q_HB,Q_HI0_e1,Q_HO174,Q_HA_HO174,Q_HI0_e6,Q_X7_⟩ hb_ hon hoff;refine ⟨_,rfl,fun K hK => ?_⟩;replace ha:=Aside0.mk ha;have HK:=Aside0.mk Q_HK;have HB:=Aside0.mk Q_HB;refine Kd.R_lit_step Kd.string _ 9 ?hg (N:=9) ?hd (xs:=([(⟨#[]⟩:ByteArray),(⟨#[]⟩:ByteArray),(⟨#[]⟩:ByteArray),(⟨#[]⟩:ByteArray),(⟨#[33,98]⟩:ByteArray),(⟨#[45]⟩:ByteArray)]:List ByteArray)) (inner:=[.string (⟨#[]⟩:ByteArray),.string (⟨#[]⟩:ByteArray),.string (⟨#[]⟩:ByteArray),.string (⟨#[]⟩:ByteArray),.string (⟨#[33,98]⟩:ByteArray),.string (⟨#[45]⟩:ByteArray)]) (ok:=fun _=>True) (okp:=fun _=>True) ?hr ?hp (fun _ hk=>hk) trivial (Below.refl _ _) (Nat.le_refl _) (by simp) ?_;(case hd=>rfl);(case hg=>rfl);(case hr=>first|(go_simp;done)|(go_simp;rfl));(case hp=>exact (Reps.one (show Kd.M Kd.string _ _ _ (⟨#[]⟩:ByteArray) [.string (⟨#[]⟩:ByteArray)] from rfl) (Reps.one (show Kd.M Kd.string _ _ _ (⟨#[]⟩:ByteArray) [.string (⟨#[]⟩:ByteArray)] from rfl) (Reps.one (show Kd.M Kd.string _ _ _ (⟨#[]⟩:ByteArray) [.string (⟨#[]⟩:ByteArray)] from rfl) (Reps.one (show Kd.M Kd.string _ _ _ (⟨#[]⟩:ByteArray) [.string (⟨#[]⟩:ByteArray)] from rfl) (Reps.one (show Kd.M Kd.string _ _ _ (⟨#[33,98]⟩:ByteArray) [.string (⟨#[33,98]⟩:ByteArray)] from rfl) (Reps.one (show Kd.M Kd.string _ _ _ (⟨#[45]⟩:ByteArray) [.string (⟨#[45]⟩:ByteArray)] from rfl) (Reps.none _ _))))))));intro a6 aj ho14 hb hg_ hnew_;clear hg_ hnew_;(first|rw [←ar.out] at ho14|(simp only [Int.reduceToNat] at ho14;rw [←ar.out] at ho14));have ad:=Aside0.mk (Kd.R_lower ho14 (keep_size (w:=w) (g:=g) (row:=none) (kb HK.out)));have ae:=Aside0.mk (KeepBut.trans (kb HK.out) (KeepBut.of_below hb g none) (.inl rfl));have n3_:=Aside0.mk (below_step (be HB.out) hb)
          have z_HI0:=fun (h0_:b 1=false)=>(show IsS173 w0 aj g s0_0 s0_1 from by first|exact (IsS173.below (by repeat (first|(with_reducible first|exact (Q_HI0 h0_)|apply IsS173.alloc|apply IsS173.drewN|apply IsS173.drew|apply IsS173.set_1)|exact (Q_HI0 h0_))) hb))
          have z_HI0_e1:=fun (h0_:b 1=true) (h1_:b 6=false)=>(show IsS173 w0 aj g s0_0 ac from by first|exact (IsS173.below (by repeat (first|(with_reducible first|exact (Q_HI0_e1 h0_ h1_)|apply IsS173.alloc|apply IsS173.drewN|apply IsS173.drew|apply IsS173.set_1)|exact (Q_HI0_e1 h0_ h1_))) hb))
          have z_HI0_e6:=fun (h0_:b 6=true)=>(show IsS173 w0 aj g s0_0 ai from by first|exact (IsS173.below (by repeat (first|(with_reducible first|exact (Q_HI0_e6 h0_)|apply IsS173.alloc|apply IsS173.drewN|apply IsS173.drew|apply IsS173.set_1)|exact (Q_HI0_e6 h0_))) hb))
          clear HK;clear HB;have aa:=ad;have HK:=ae;have HB:=n3_;clear ad ae n3_;clear hb ho14;obtain ⟨Ao15,aR,aS⟩:=Kd.R_slice aa.out;subst aS;obtain ⟨ado15,fo15,_⟩:=Kd.at_string (Kd.R_reads' aa.out).2.2 0 (by decide) (by rw [ar.out];simp)
          cases fo15
          refine hK.out _ _ ⟨.slice (some ado15) a3.length aR,ado15,m7_,(by rw [ha.out];exact putSel_upk 3 hb_ rfl rfl rfl),z_HI0,(kb HK.out),(be HB.out),z_HI0_e1,fun _=>(kr aa.out),fun _=>⟨_,rfl⟩,z_HI0_e6,fun h0_=>absurd ((hoff 7 (by kernel_rfl)).symm.trans h0_) (by decide)⟩
         refine steps_cons ?_ ?_
         ·rintro b a w' ⟨a6,adz_v173,m7_,ha,Q_HI0,Q_HK,Q_HB,Q_HI0_e1,Q_HO174,Q_HA_HO174,Q_HI0_e6,Q_X7_⟩ hb_ hon hoff;refine ⟨_,rfl,fun K hK => ?_⟩
          have e10:a.tmps[10]? = some (.pointer (some ⟨g,0,none⟩)):=by rw [ha];exact (putSel_off rfl).trans rfl
          replace ha:=Aside0.mk ha;have HK:=Aside0.mk Q_HK;have HB:=Aside0.mk Q_HB;have a2:=Aside0.mk (Q_HI0_e1 (hon 1 (by kernel_rfl)) hb_);refine goes_ Tryd.func66 (by kernel_rfl) rfl #[.pointer (some ⟨g,0,none⟩),.int .i64 6] (by rfl) rfl rfl (by first|(simp only [List.map_toArray,List.map_cons,List.map_nil,Act.eval,Array.getD_eq_getD_getElem?,Option.getD_some,e10];done)|(simp only [List.map_toArray,List.map_cons,List.map_nil,Act.eval,Array.getD_eq_getD_getElem?,Option.getD_some,e10];rfl)) ?_;(with_reducible refine (spec_l1Rd_pick.calls k g s0_0 ac 6 a5 ai w0 _ ?side1 ?side2 A7.out).mono ?_);(case side1=>exact iq173 a2.out);(case side2=>exact bq173 HB.out a2.out);rintro e w15 ⟨rfl,hi,hb,hk⟩;refine ⟨_,rfl,?_⟩;have ad:=Aside0.mk (KeepBut.trans (kb HK.out) hk (.inl rfl));have ak:=Aside0.mk (hb);have ae:=Aside0.mk (hi)
          have z_HO174:=fun (h0_:b 4=true)=>(show Kd.R Kd.string 9 w15 w.heap.size (fun _=>True) a6 a3 from by first|exact (Kd.R_mono (Kd.R_keep (IsS173.apart (show IsS173 w0 _ g s0_0 ac from iq173 a2.out) (by (with_reducible repeat (first|apply Kd.R_alloc|apply Kd.R_drewN|apply Kd.R_drew));exact (Q_HO174 h0_)) (by decide)) hk (fun _ h=>h.2)) (fun _ h=>h.1))|exact Kd.R_mono (Kd.R_mono (Kd.R_keep (IsS173.apart (show IsS173 w0 _ g s0_0 ac from iq173 a2.out) (by (with_reducible repeat (first|apply Kd.R_alloc|apply Kd.R_drewN|apply Kd.R_drew));exact (Q_HO174 h0_)) (by decide)) hk (fun _ h=>h.2)) (fun _ h=>h.1)) (fun _ h_=>by first|trivial|exact h_|exact h_.1))
          clear HK;clear HB;clear a2;have HK:=ad;have HB:=ak;have a2:=ae;clear ad ak ae;(try clear hb);(try clear hb2);(try clear hk);(try clear hi);refine hK.out _ _ ⟨a6,adz_v173,m7_,(by rw [ha.out];exact putSel_upk 4 hb_ rfl rfl rfl),fun h0_=>absurd ((hon 1 (by kernel_rfl)).symm.trans h0_) (by decide),(kb HK.out),(bq173 HB.out a2.out),fun _ h1_=>absurd ((up_self b 6).symm.trans h1_) (by decide),z_HO174,Q_HA_HO174,fun _=>(iq173 a2.out),fun h0_=>absurd ((hoff 7 (by kernel_rfl)).symm.trans h0_) (by decide)⟩
         refine steps_cons ?_ ?_
         ·rintro b a w' ⟨a6,adz_v173,m7_,ha,Q_HI0,Q_HK,Q_HB,Q_HI0_e1,Q_HO174,Q_HA_HO174,Q_HI0_e6,Q_X7_⟩ hb_ hon hoff;refine ⟨_,rfl,fun K hK => ?_⟩
          have e9:a.tmps[9]? = some (a6):=by rw [ha];exact putSel_on (e:=(4,9,a6)) 3 rfl rfl (hon 4 (by kernel_rfl)) rfl
          have e11:a.tmps[11]? = some (.int .i64 a5):=by rw [ha];exact putSel_on (e:=(6,11,.int .i64 a5)) 4 rfl rfl (hon 6 (by kernel_rfl)) rfl
          replace ha:=Aside0.mk ha;have HK:=Aside0.mk Q_HK;have HB:=Aside0.mk Q_HB;have aa:=Aside0.mk (Q_HO174 (hon 4 (by kernel_rfl)));have HA_HO174:=Aside0.mk (Q_HA_HO174 (hon 4 (by kernel_rfl)));have a2:=Aside0.mk (Q_HI0_e6 (hon 6 (by kernel_rfl)));obtain ⟨c_,hv_⟩:=HA_HO174.out
          rw [hv_] at e9
          refine value_ (w1:=w') (v:=.pointer (some (adz_v173.add (a5).toNat))) (by rfl) rfl ?_ ?_
          ·go_simp;(try simp only [i64_w])
           try rfl
          refine hK.out _ _ ⟨a6,adz_v173,(.pointer (some (adz_v173.add (a5).toNat))),(by rw [ha.out];exact putSel_upk 5 hb_ rfl rfl rfl),fun h0_=>absurd ((hon 1 (by kernel_rfl)).symm.trans h0_) (by decide),Q_HK,Q_HB,fun _ h1_=>absurd ((hon 6 (by kernel_rfl)).symm.trans h1_) (by decide),Q_HO174,Q_HA_HO174,Q_HI0_e6,fun _=>rfl⟩
         refine steps_cons ?_ ?_
         ·rintro b a w' ⟨a6,adz_v173,m7_,ha,Q_HI0,Q_HK,Q_HB,Q_HI0_e1,Q_HO174,Q_HA_HO174,Q_HI0_e6,Q_X7_⟩ hb_ hon hoff;refine ⟨_,rfl,fun K hK => ?_⟩
          have e12:a.tmps[12]? = some (m7_):=by rw [ha];exact putSel_on (e:=(7,12,m7_)) 5 rfl rfl (hon 7 (by kernel_rfl)) rfl
          rw [Q_X7_ (hon 7 (by kernel_rfl))] at e12
          replace ha:=Aside0.mk ha;have HK:=Aside0.mk Q_HK;have HB:=Aside0.mk Q_HB;have aa:=Aside0.mk (Q_HO174 (hon 4 (by kernel_rfl)));have HA_HO174:=Aside0.mk (Q_HA_HO174 (hon 4 (by kernel_rfl)));have a2:=Aside0.mk (Q_HI0_e6 (hon 6 (by kernel_rfl)));obtain ⟨c_,hv_⟩:=HA_HO174.out;have hF_:=aa.out
          rw [hv_] at hF_
          obtain ⟨ad_,ea_,hx_⟩:=Kd.at_string (Kd.R_reads' hF_).2.2 a5 (of_eq_true pi177) (of_eq_true qi177)
          cases ea_
          refine value_ (w1:=w') (v:=.string (rdOf ByteArray.empty a3 a5)) (by rfl) rfl ?_ ?_
          ·go_simp;(try simp only [i64_w])
           try rfl
          refine hK.out _ _ ⟨a6,adz_v173,m7_,(by rw [ha.out];exact putSel_upk 6 hb_ rfl rfl rfl),fun h0_=>absurd ((hon 1 (by kernel_rfl)).symm.trans h0_) (by decide),Q_HK,Q_HB,fun _ h1_=>absurd ((hon 6 (by kernel_rfl)).symm.trans h1_) (by decide),Q_HO174,Q_HA_HO174,Q_HI0_e6,Q_X7_⟩
         refine steps_cons ?_ ?_
         ·rintro b a w' ⟨a6,adz_v173,m7_,ha,Q_HI0,Q_HK,Q_HB,Q_HI0_e1,Q_HO174,Q_HA_HO174,Q_HI0_e6,Q_X7_⟩ hb_ hon hoff;refine ⟨_,rfl,fun K hK => ?_⟩
          have e8:a.tmps[8]? = some (.string (((⟨#[97,98,99]⟩:ByteArray).extract (a4:Int).toNat (⟨#[97,98,99]⟩:ByteArray).size).extract 0 1)):=by rw [ha];exact putSel_on (e:=(3,8,.string (((⟨#[97,98,99]⟩:ByteArray).extract (a4:Int).toNat (⟨#[97,98,99]⟩:ByteArray).size).extract 0 1))) 2 rfl rfl (hon 3 (by kernel_rfl)) rfl
          have e13:a.tmps[13]? = some (.string (rdOf ByteArray.empty a3 a5)):=by rw [ha];exact putSel_on (e:=(8,13,.string (rdOf ByteArray.empty a3 a5))) 6 rfl rfl (hon 8 (by kernel_rfl)) rfl
          replace ha:=Aside0.mk ha;have HK:=Aside0.mk Q_HK;have HB:=Aside0.mk Q_HB;have aa:=Aside0.mk (Q_HO174 (hon 4 (by kernel_rfl)));have HA_HO174:=Aside0.mk (Q_HA_HO174 (hon 4 (by kernel_rfl)));have a2:=Aside0.mk (Q_HI0_e6 (hon 6 (by kernel_rfl)));refine value_ (w1:=w') (v:=.string ((((⟨#[97,98,99]⟩:ByteArray).extract (a4:Int).toNat (⟨#[97,98,99]⟩:ByteArray).size).extract 0 1)++(rdOf ByteArray.empty a3 a5))) (by rfl) rfl ?_ ?_
          ·go_simp;(try simp only [i64_w])
           try rfl
          refine hK.out _ _ ⟨a6,adz_v173,m7_,(by rw [ha.out];exact putSel_upk 7 hb_ rfl rfl rfl),fun h0_=>absurd ((hon 1 (by kernel_rfl)).symm.trans h0_) (by decide),Q_HK,Q_HB,fun _ h1_=>absurd ((hon 6 (by kernel_rfl)).symm.trans h1_) (by decide),Q_HO174,Q_HA_HO174,Q_HI0_e6,Q_X7_⟩
         refine steps_cons ?_ ?_
         ·rintro b a w' ⟨a6,adz_v173,m7_,ha,Q_HI0,Q_HK,Q_HB,Q_HI0_e1,Q_HO174,Q_HA_HO174,Q_HI0_e6,Q_X7_⟩ hb_ hon hoff;refine ⟨_,rfl,fun K hK => ?_⟩
          have e14:a.tmps[14]? = some (.string ((((⟨#[97,98,99]⟩:ByteArray).extract (a4:Int).toNat (⟨#[97,98,99]⟩:ByteArray).size).extract 0 1)++(rdOf ByteArray.empty a3 a5))):=by rw [ha];exact putSel_on (e:=(9,14,.string ((((⟨#[97,98,99]⟩:ByteArray).extract (a4:Int).toNat (⟨#[97,98,99]⟩:ByteArray).size).extract 0 1)++(rdOf ByteArray.empty a3 a5)))) 7 rfl rfl (hon 9 (by kernel_rfl)) rfl
          replace ha:=Aside0.mk ha;have HK:=Aside0.mk Q_HK;have HB:=Aside0.mk Q_HB;have aa:=Aside0.mk (Q_HO174 (hon 4 (by kernel_rfl)));have HA_HO174:=Aside0.mk (Q_HA_HO174 (hon 4 (by kernel_rfl)));have a2:=Aside0.mk (Q_HI0_e6 (hon 6 (by kernel_rfl)));refine value_ (w1:=w') (v:=.string ((((⟨#[97,98,99]⟩:ByteArray).extract (a4:Int).toNat (⟨#[97,98,99]⟩:ByteArray).size).extract 0 1)++(rdOf ByteArray.empty a3 a5))) (by rfl) rfl ?_ ?_
          ·go_simp;(try simp only [i64_w])
           try rfl
          refine hK.out _ _ ⟨a6,adz_v173,m7_,(by rw [ha.out];exact putSel_upk 8 hb_ rfl rfl rfl),fun h0_=>absurd ((hon 1 (by kernel_rfl)).symm.trans h0_) (by decide),Q_HK,Q_HB,fun _ h1_=>absurd ((hon 6 (by kernel_rfl)).symm.trans h1_) (by decide),Q_HO174,Q_HA_HO174,Q_HI0_e6,Q_X7_⟩
         exact steps_nil
        rintro b a w18 hall ⟨a6,adz_v173,m7_,ha,Q_HI0,Q_HK,Q_HB,Q_HI0_e1,Q_HO174,Q_HA_HO174,Q_HI0_e6,Q_X7_⟩;clear HB a2 HK;have hb1_:=hall 1 (by kernel_rfl);have hb2_:=hall 2 (by kernel_rfl);have hb3_:=hall 3 (by kernel_rfl);have hb4_:=hall 4 (by kernel_rfl);have hb6_:=hall 6 (by kernel_rfl);have hb7_:=hall 7 (by kernel_rfl);have hb8_:=hall 8 (by kernel_rfl);have hb9_:=hall 9 (by kernel_rfl);have hb10_:=hall 10 (by kernel_rfl);subst ha;obtain rfl:=Q_X7_ hb7_;simp only [putSel,hb1_,hb2_,hb3_,hb4_,hb6_,hb7_,hb8_,hb9_,hb10_,if_true,Act.put,List.setIfInBounds_toArray,List.set_cons_zero,List.set_cons_succ];clear Q_HI0;have HK:=Aside0.mk Q_HK;clear Q_HK;have HB:=Aside0.mk Q_HB;clear Q_HB;clear Q_HI0_e1;have aa:=Aside0.mk (Q_HO174 hb4_);clear Q_HO174;have HA_HO174:=Aside0.mk (Q_HA_HO174 hb4_);clear Q_HA_HO174;have a2:=Aside0.mk (Q_HI0_e6 hb6_);clear Q_HI0_e6;clear hall hb1_ hb2_ hb3_ hb4_ hb6_ hb7_ hb8_ hb9_ hb10_;obtain ⟨co19,aT⟩:=HA_HO174.out;clear HA_HO174;subst aT
        try go_wp2_with (first|((with_reducible refine gc 66 rfl ?_);refine gl (some 16) _ (#[.pointer (some ⟨g,0,none⟩),.int .i64 4]) Tryd.func66 ?_;(with_reducible refine (spec_l1Rd_pick.calls k g s0_0 ai 4 au av w0 _ ?side1 ?side2 A11.out).mono ?_);(case side1=>exact iq173 a2.out);(case side2=>exact bq173 HB.out a2.out);rintro e w20 ⟨rfl,hi,hb,hk⟩;refine ⟨_,rfl,?_⟩;refine Ya4 (ra173 (iq173 a2.out) (kr aa.out) hk) (KeepBut.trans (kb HK.out) hk (.inl rfl)) (hb) (hi) ?_;clear aa HK HB a2;intro aa HK HB a2;(try clear hb);(try clear hb2);(try clear hk);(try clear hi)))
        go_loopg [3,4] k (fun kq v3 v4 w' => ∃ (a9:ByteArray) (ab:Int) (al:Int),v3 = .string a9∧v4 = .int .i64 ab∧Aside0 (spec_l4Path.l0 kq a9 ab s0_0 al=some (r1,r2))∧Aside0 (kq≤k)∧Aside0 (IsS173 w0 w' g s0_0 al)∧Aside0 (KeepBut w w' g none)∧Aside0 (Below w0.heap.size w0 w'))
        case atStart=>exact ⟨((((⟨#[97,98,99]⟩:ByteArray).extract (a4:Int).toNat (⟨#[97,98,99]⟩:ByteArray).size).extract 0 1)++(rdOf ByteArray.empty a3 a5)),(au),(av),Ye1,Ye1,H',⟨Nat.le_refl _⟩,⟨iq173 a2.out⟩,⟨kb HK.out⟩,⟨bq173 HB.out a2.out⟩⟩
        case round =>
         clear H';(try clear c1);(try clear qi1);(try clear p2);(try clear c3);(try clear aE);(try clear aF);(try clear c4);(try clear aG);(try clear aH);(try clear c5);(try clear aI);(try clear aJ);(try clear c6);(try clear aK);(try clear aL);(try clear c7);(try clear c8);(try clear aM);(try clear c9);(try clear aN);(try clear c10);(try clear aO);(try clear aP);(try clear aQ);(try clear qi17);obtain ⟨a9,ab,al,rfl,rfl,HA,HK1,a2,HK,HB⟩:=hrel
         cases gk with
         | zero=>exact absurd HA.out (by simp [spec_l4Path.l0])
         | succ k1 =>
          have H:=HA.out;clear HA;simp only [spec_l4Path.l0] at H
          by_cases af:ab>0
          ·rw [if_pos af] at H
           have aU:decide (0<ab)=true:=decide_eq_true af;clear af
           by_cases am:a9.size+1≤9223372036854775807
           ·rw [if_pos am] at H
            have c22b0:=eq_true am;have c22b1:decide (a9.size+1≤9223372036854775807)=true:=decide_eq_true am
            try have c22b2:(9223372036854775807<a9.size+1)=False:=eq_false (Nat.not_lt.2 am)
            obtain ⟨a7,an⟩:∃ y_:List ByteArray,y_=(([(⟨#[120]⟩:ByteArray),(⟨#[121]⟩:ByteArray),(⟨#[120,120]⟩:ByteArray),(⟨#[109,97,105,110,46,107]⟩:ByteArray),(⟨#[97]⟩:ByteArray),(⟨#[120,33]⟩:ByteArray)]:List ByteArray)):=⟨_,rfl⟩
            replace H:((spec_l1Rd_pick.f k1 s0_0 al 6).bind fun bt183=>(if 0≤bt183.1 then (if bt183.1<(a7.length:Int) then (if (a9++(⟨#[47]⟩:ByteArray)).size+(rdOf ByteArray.empty a7 bt183.1).size≤9223372036854775807 then (spec_l4Path.l0 k1 ((a9++(⟨#[47]⟩:ByteArray))++(rdOf ByteArray.empty a7 bt183.1)) (wrap64 (ab - 1)) s0_0 bt183.2) else (none)) else (none)) else (none)))=some (r1,r2):=by first|(rw [an];with_reducible exact H)|(have H2_:=(Option.bind_some _ _).symm.trans H;rw [an];with_reducible exact H2_)|(have H2_:=(Option.bind_some _ _).symm.trans H;with_reducible exact H2_)|with_reducible exact H|(rw [an];exact H)|exact H
            have aC:=Aside0.mk an;clear an;replace H:=Option.bind_eq_some_iff.mp H;obtain ⟨⟨a8,aw⟩,aD,H⟩:=H;replace H:(if 0≤a8 then (if a8<(a7.length:Int) then (if (a9++(⟨#[47]⟩:ByteArray)).size+(rdOf ByteArray.empty a7 a8).size≤9223372036854775807 then (spec_l4Path.l0 k1 ((a9++(⟨#[47]⟩:ByteArray))++(rdOf ByteArray.empty a7 a8)) (wrap64 (ab - 1)) s0_0 aw) else (none)) else (none)) else (none))=some (r1,r2):=H;have A23:=Aside0.mk aD;clear aD
            by_cases ap:0≤a8
            ·rw [if_pos ap] at H
             have c24b0:decide (0≤a8)=true:=decide_eq_true ap;clear ap
             by_cases aq:a8<(a7.length:Int)
             ·rw [if_pos aq] at H
              have c25b0:decide (a8<(a7.length:Int))=true:=decide_eq_true aq;clear aq
              by_cases ag:(a9++(⟨#[47]⟩:ByteArray)).size+(rdOf ByteArray.empty a7 a8).size≤9223372036854775807
              ·rw [if_pos ag] at H
               try have c26n:a9.size+1+(rdOf ByteArray.empty a7 a8).size≤9223372036854775807:=(by have h_:=ag;(try simp only [ByteArray.size_append] at h_);(try simp only [ByteArray.size_extract] at h_);(try simp only [show (⟨#[47]⟩:ByteArray).size=1 from rfl] at h_);(try omega);(try simpa using h_))
               try have c26m:=eq_true c26n
               try have c26d:=decide_eq_true c26n
               try have c26l:=eq_false (Nat.not_lt.2 c26n)
               (try clear c26n);have c26b0:=eq_true ag;have c26b1:decide ((a9++(⟨#[47]⟩:ByteArray)).size+(rdOf ByteArray.empty a7 a8).size≤9223372036854775807)=true:=decide_eq_true ag
               try have c26b2:(9223372036854775807<(a9++(⟨#[47]⟩:ByteArray)).size+(rdOf ByteArray.empty a7 a8).size)=False:=eq_false (Nat.not_lt.2 ag)
               have H':=Aside0.mk H;clear H
               go_wp2_with (first|((with_reducible refine gd 23 rfl ?_);refine Kd.R_lit Kd.string _ 9 ?hg (N:=23) ?hd (xs:=([(⟨#[120]⟩:ByteArray),(⟨#[121]⟩:ByteArray),(⟨#[120,120]⟩:ByteArray),(⟨#[109,97,105,110,46,107]⟩:ByteArray),(⟨#[97]⟩:ByteArray),(⟨#[120,33]⟩:ByteArray)]:List ByteArray)) (inner:=[.string (⟨#[120]⟩:ByteArray),.string (⟨#[121]⟩:ByteArray),.string (⟨#[120,120]⟩:ByteArray),.string (⟨#[109,97,105,110,46,107]⟩:ByteArray),.string (⟨#[97]⟩:ByteArray),.string (⟨#[120,33]⟩:ByteArray)]) (ok:=fun _=>True) (okp:=fun _=>True) ?hr ?hp (fun _ hk=>hk) trivial (Below.refl _ _) (Nat.le_refl _) (by simp) ?_;(case hd=>rfl);(case hg=>rfl);(case hr=>first|(go_simp;done)|(go_simp;rfl));(case hp=>exact (Reps.one (show Kd.M Kd.string _ _ _ (⟨#[120]⟩:ByteArray) [.string (⟨#[120]⟩:ByteArray)] from rfl) (Reps.one (show Kd.M Kd.string _ _ _ (⟨#[121]⟩:ByteArray) [.string (⟨#[121]⟩:ByteArray)] from rfl) (Reps.one (show Kd.M Kd.string _ _ _ (⟨#[120,120]⟩:ByteArray) [.string (⟨#[120,120]⟩:ByteArray)] from rfl) (Reps.one (show Kd.M Kd.string _ _ _ (⟨#[109,97,105,110,46,107]⟩:ByteArray) [.string (⟨#[109,97,105,110,46,107]⟩:ByteArray)] from rfl) (Reps.one (show Kd.M Kd.string _ _ _ (⟨#[97]⟩:ByteArray) [.string (⟨#[97]⟩:ByteArray)] from rfl) (Reps.one (show Kd.M Kd.string _ _ _ (⟨#[120,33]⟩:ByteArray) [.string (⟨#[120,33]⟩:ByteArray)] from rfl) (Reps.none _ _))))))));intro v181 w27 ho28 hb hg_ hnew_;clear hg_ hnew_;(first|rw [←aC.out] at ho28|(simp only [Int.reduceToNat] at ho28;rw [←aC.out] at ho28));refine Ya4 (Kd.R_lower ho28 (keep_size (w:=w) (g:=g) (row:=none) (kb HK.out))) (IsS173.below (iq173 a2.out) hb) (KeepBut.trans (kb HK.out) (KeepBut.of_below hb g none) (.inl rfl)) (below_step (bq173 HB.out a2.out) hb) ?_;clear a2 HK HB;intro ao a2 HK HB;clear hb ho28)|((with_reducible refine gc 66 rfl ?_);refine gl (some 25) _ (#[.pointer (some ⟨g,0,none⟩),.int .i64 6]) Tryd.func66 ?_;(with_reducible refine (spec_l1Rd_pick.calls k1 g s0_0 al 6 a8 aw w0 _ ?side1 ?side2 A23.out).mono ?_);(case side1=>exact iq173 a2.out);(case side2=>exact bq173 HB.out a2.out);rintro e w29 ⟨rfl,hi,hb,hk⟩;refine ⟨_,rfl,?_⟩;refine Ya4 (ra173 (iq173 a2.out) (kr ao.out) hk) (KeepBut.trans (kb HK.out) hk (.inl rfl)) (hb) (hi) ?_;clear ao HK HB a2;intro ao HK HB a2;(try clear hb);(try clear hb2);(try clear hk);(try clear hi);obtain ⟨Ao30,co30,aV⟩:=Kd.R_slice ao.out;subst aV;have ax:0≤(a8:Int):=oda;have ay:a8<(a7.length:Int):=oda;obtain ⟨ad185,aW,aX⟩:=Kd.at_string (Kd.R_reads' ao.out).2.2 a8 ax ay;cases aW;replace ax:=eq_true ax;replace ay:=eq_true ay))
               go_roundg k1
               case measure=>have:=HK1.out;omega
               case rel=>exact ⟨((a9++(⟨#[47]⟩:ByteArray))++(rdOf ByteArray.empty a7 a8)),(wrap64 (ab - 1)),(aw),Ye1,Ye1,H',⟨by have:=HK1.out;omega⟩,⟨iq173 a2.out⟩,⟨kb HK.out⟩,⟨bq173 HB.out a2.out⟩⟩
              ·rw [if_neg ag] at H
               exact absurd H (by simp)
             ·rw [if_neg aq] at H
              exact absurd H (by simp)
            ·rw [if_neg ap] at H
             exact absurd H (by simp)
           ·rw [if_neg am] at H
            exact absurd H (by simp)
          ·rw [if_neg af] at H
           have aU:decide (0<ab)=false:=decide_eq_false af;clear af;simp only [Option.some.injEq,Prod.mk.injEq] at H;obtain ⟨rfl,rfl⟩:=H
           go_wp2
           go_ret
           exact ⟨Ye2,iq173 a2.out,bq173 HB.out a2.out,kb HK.out⟩
       ·rw [if_neg c10] at H
        exact absurd H (by simp)
      ·rw [if_neg c9] at H
       exact absurd H (by simp)
     ·rw [if_neg c8] at H
      exact absurd H (by simp)
    ·rw [if_neg c6] at H
     exact absurd H (by simp)
   ·rw [if_neg c5] at H
    exact absurd H (by simp)
  ·rw [if_neg c4] at H
   exact absurd H (by simp)
 ·rw [if_neg c3] at H
  exact absurd H (by simp)

end Go.Proofs.YtknagppkeodggaaDoor.P


namespace Go.Proofs.YtknagppkeodggaaDoor.P
open Go.RowKit Go.Proofs.YtknagppkeodggaaDoorW.PrintWords Go.Proofs.YtknagppkeodggaaDoorW.PrintLast Go.Proofs.YtknagppkeodggaaDoorW.PrintMore
attribute [local go_sem] max2_int min2_int max_two min_two max_three min_three max_four min_four
set_option linter.unusedVariables false
set_option linter.unusedSimpArgs false

def spec_l4Spoil.f (k:Nat) (s0_0:List Int) (s0_1:Int) (a1:ByteArray):Option (ByteArray×Int):=(spec_l1Rd_pick.f k s0_0 s0_1 9).bind fun bt211=>(if bt211.1=0 then (some ((⟨#[]⟩:ByteArray),bt211.2)) else (if bt211.1=1 then (if a1.size+1≤9223372036854775807 then (some (a1++(⟨#[47]⟩:ByteArray),bt211.2)) else (none)) else (if bt211.1=2 then (if 1+a1.size≤9223372036854775807 then (some ((⟨#[47]⟩:ByteArray)++a1,bt211.2)) else (none)) else (if bt211.1=3 then (if a1.size+3≤9223372036854775807 then (some (a1++(⟨#[47,46,46]⟩:ByteArray),bt211.2)) else (none)) else (if bt211.1=4 then (if 2+a1.size≤9223372036854775807 then (some ((⟨#[46,47]⟩:ByteArray)++a1,bt211.2)) else (none)) else (if bt211.1=5 then (if a1.size+1≤9223372036854775807 then ((spec_l1Rd_pick.f k s0_0 bt211.2 2).bind fun bt213=>((spec_l1Many.f k (⟨#[110]⟩:ByteArray) (wrap64 (20+bt213.1))).bind fun a7=>(if (a1++(⟨#[47]⟩:ByteArray)).size+a7.size≤9223372036854775807 then (some ((a1++(⟨#[47]⟩:ByteArray))++a7,bt213.2)) else (none)))) else (none)) else (if bt211.1=6 then ((spec_l1Rd_pick.f k s0_0 bt211.2 2).bind fun bt216=>((spec_l1Many.f k (⟨#[112,47]⟩:ByteArray) (wrap64 (5+bt216.1))).bind fun a8=>(if a8.size+1≤9223372036854775807 then (some (a8++(⟨#[113]⟩:ByteArray),bt216.2)) else (none)))) else (if bt211.1=7 then ((some (([(⟨#[32]⟩:ByteArray),(⟨#[34]⟩:ByteArray),(⟨#[127]⟩:ByteArray),(⟨#[42]⟩:ByteArray),(⟨#[63]⟩:ByteArray)]:List ByteArray):List ByteArray)).bind fun a5=>((spec_l1Rd_pick.f k s0_0 bt211.2 5).bind fun bt222=>(if 0≤bt222.1 then (if bt222.1<(a5.length:Int) then (if a1.size+(rdOf ByteArray.empty a5 bt222.1).size≤9223372036854775807 then (some (a1++(rdOf ByteArray.empty a5 bt222.1),bt222.2)) else (none)) else (none)) else (none)))) else ((spec_l1Many.f k (⟨#[42,97]⟩:ByteArray) 9).bind fun a9=>(if a9.size+1≤9223372036854775807 then (some (a9++(⟨#[63]⟩:ByteArray),bt211.2)) else (none)))))))))))
theorem spec_l4Spoil.mono:∀ a0 a1 a2 k,LeO (spec_l4Spoil.f k a0 a1 a2) (spec_l4Spoil.f (k+1) a0 a1 a2):=by
 intro a0 a1 a2 k
 unfold spec_l4Spoil.f
 repeat' first
   | (with_reducible exact spec_l1Many.mono _ _ _)
   | (with_reducible exact spec_l1Rd_pick.mono _ _ _ _)
   | (with_reducible exact LeO.refl _)
   | (with_reducible exact LeO.none _)
   | (with_reducible refine LeO.ite ?_ ?_)
   | (with_reducible refine LeO.bind ?_ (fun _ => ?_))
   | exact spec_l1Many.mono _ _ _
   | exact spec_l1Rd_pick.mono _ _ _ _
   | exact LeO.none _
   | refine LeO.ite ?_ ?_
   | refine LeO.bind ?_ (fun _ => ?_)
set_option maxHeartbeats 8000000 in
set_option maxRecDepth 100000 in
theorem spec_l4Spoil.calls (k : Nat) (g : Nat) (s0_0 : List Int) (s0_1 : Int) (a1 : ByteArray) (r1 : ByteArray) (r2 : Int) (w0 w : World) (hI : IsS173 w0 w g s0_0 s0_1) (hB : Below w0.heap.size w0 w) (h : spec_l4Spoil.f k s0_0 s0_1 a1 = some (r1, r2)) :
  Calls Tryd.prog 67 #[.pointer (some ⟨g,0,none⟩),.string a1] w fun e w'=>e = .returned (.string r1)∧IsS173 w0 w' g s0_0 r2∧Below w0.heap.size w0 w'∧KeepBut w w' g none:=by
 have a3:=Aside0.mk hI;have HK:=Aside0.mk (KeepBut.refl w g none);have HL:=Aside0.mk hB.size;clear hI;have HW0:=Aside0.mk hB.size;have HB:=Aside0.mk hB;clear hB;have H:((spec_l1Rd_pick.f k s0_0 s0_1 9).bind fun bt211=>(if bt211.1=0 then (some ((⟨#[]⟩:ByteArray),bt211.2)) else (if bt211.1=1 then (if a1.size+1≤9223372036854775807 then (some (a1++(⟨#[47]⟩:ByteArray),bt211.2)) else (none)) else (if bt211.1=2 then (if 1+a1.size≤9223372036854775807 then (some ((⟨#[47]⟩:ByteArray)++a1,bt211.2)) else (none)) else (if bt211.1=3 then (if a1.size+3≤9223372036854775807 then (some (a1++(⟨#[47,46,46]⟩:ByteArray),bt211.2)) else (none)) else (if bt211.1=4 then (if 2+a1.size≤9223372036854775807 then (some ((⟨#[46,47]⟩:ByteArray)++a1,bt211.2)) else (none)) else (if bt211.1=5 then (if a1.size+1≤9223372036854775807 then ((spec_l1Rd_pick.f k s0_0 bt211.2 2).bind fun bt213=>((spec_l1Many.f k (⟨#[110]⟩:ByteArray) (wrap64 (20+bt213.1))).bind fun a7=>(if (a1++(⟨#[47]⟩:ByteArray)).size+a7.size≤9223372036854775807 then (some ((a1++(⟨#[47]⟩:ByteArray))++a7,bt213.2)) else (none)))) else (none)) else (if bt211.1=6 then ((spec_l1Rd_pick.f k s0_0 bt211.2 2).bind fun bt216=>((spec_l1Many.f k (⟨#[112,47]⟩:ByteArray) (wrap64 (5+bt216.1))).bind fun a8=>(if a8.size+1≤9223372036854775807 then (some (a8++(⟨#[113]⟩:ByteArray),bt216.2)) else (none)))) else (if bt211.1=7 then ((some (([(⟨#[32]⟩:ByteArray),(⟨#[34]⟩:ByteArray),(⟨#[127]⟩:ByteArray),(⟨#[42]⟩:ByteArray),(⟨#[63]⟩:ByteArray)]:List ByteArray):List ByteArray)).bind fun a5=>((spec_l1Rd_pick.f k s0_0 bt211.2 5).bind fun bt222=>(if 0≤bt222.1 then (if bt222.1<(a5.length:Int) then (if a1.size+(rdOf ByteArray.empty a5 bt222.1).size≤9223372036854775807 then (some (a1++(rdOf ByteArray.empty a5 bt222.1),bt222.2)) else (none)) else (none)) else (none)))) else ((spec_l1Many.f k (⟨#[42,97]⟩:ByteArray) 9).bind fun a9=>(if a9.size+1≤9223372036854775807 then (some (a9++(⟨#[63]⟩:ByteArray),bt211.2)) else (none))))))))))))=some (r1,r2):=h;clear h;replace H:=Option.bind_eq_some_iff.mp H;obtain ⟨⟨a4,a6⟩,A30,H⟩:=H;replace H:(if a4=0 then (some ((⟨#[]⟩:ByteArray),a6)) else (if a4=1 then (if a1.size+1≤9223372036854775807 then (some (a1++(⟨#[47]⟩:ByteArray),a6)) else (none)) else (if a4=2 then (if 1+a1.size≤9223372036854775807 then (some ((⟨#[47]⟩:ByteArray)++a1,a6)) else (none)) else (if a4=3 then (if a1.size+3≤9223372036854775807 then (some (a1++(⟨#[47,46,46]⟩:ByteArray),a6)) else (none)) else (if a4=4 then (if 2+a1.size≤9223372036854775807 then (some ((⟨#[46,47]⟩:ByteArray)++a1,a6)) else (none)) else (if a4=5 then (if a1.size+1≤9223372036854775807 then ((spec_l1Rd_pick.f k s0_0 a6 2).bind fun bt213=>((spec_l1Many.f k (⟨#[110]⟩:ByteArray) (wrap64 (20+bt213.1))).bind fun a7=>(if (a1++(⟨#[47]⟩:ByteArray)).size+a7.size≤9223372036854775807 then (some ((a1++(⟨#[47]⟩:ByteArray))++a7,bt213.2)) else (none)))) else (none)) else (if a4=6 then ((spec_l1Rd_pick.f k s0_0 a6 2).bind fun bt216=>((spec_l1Many.f k (⟨#[112,47]⟩:ByteArray) (wrap64 (5+bt216.1))).bind fun a8=>(if a8.size+1≤9223372036854775807 then (some (a8++(⟨#[113]⟩:ByteArray),bt216.2)) else (none)))) else (if a4=7 then ((some (([(⟨#[32]⟩:ByteArray),(⟨#[34]⟩:ByteArray),(⟨#[127]⟩:ByteArray),(⟨#[42]⟩:ByteArray),(⟨#[63]⟩:ByteArray)]:List ByteArray):List ByteArray)).bind fun a5=>((spec_l1Rd_pick.f k s0_0 a6 5).bind fun bt222=>(if 0≤bt222.1 then (if bt222.1<(a5.length:Int) then (if a1.size+(rdOf ByteArray.empty a5 bt222.1).size≤9223372036854775807 then (some (a1++(rdOf ByteArray.empty a5 bt222.1),bt222.2)) else (none)) else (none)) else (none)))) else ((spec_l1Many.f k (⟨#[42,97]⟩:ByteArray) 9).bind fun a9=>(if a9.size+1≤9223372036854775807 then (some (a9++(⟨#[63]⟩:ByteArray),a6)) else (none)))))))))))=some (r1,r2):=H;have A3:=Aside0.mk A30;clear A30
 by_cases c4:a4=0
 ·rw [if_pos c4] at H
  have aH:(a4==0)=true:=beq_iff_eq.mpr c4;have aI:(a4 != 0)=false:=bne_eq_false_iff_eq.mpr c4;clear c4;simp only [Option.some.injEq,Prod.mk.injEq] at H;obtain ⟨rfl,rfl⟩:=H
  go_enter Tryd.func67,Tryd.ntmps67
  go_wp2_with (first|((with_reducible refine gc 66 rfl ?_);refine gl (some 6) _ (#[.pointer (some ⟨g,0,none⟩),.int .i64 9]) Tryd.func66 ?_;(with_reducible refine (spec_l1Rd_pick.calls k g s0_0 s0_1 9 a4 a6 w0 _ ?side1 ?side2 A3.out).mono ?_);(case side1=>exact iq173 a3.out);(case side2=>exact bq173 HB.out a3.out);rintro e w5 ⟨rfl,hi,hb,hk⟩;refine ⟨_,rfl,?_⟩;refine Ya3 (KeepBut.trans (kb HK.out) hk (.inl rfl)) (hb) (hi) ?_;clear HK HB a3;intro HK HB a3;(try clear hb);(try clear hb2);(try clear hk);(try clear hi)))
  go_ret
  exact ⟨Ye2,iq173 a3.out,bq173 HB.out a3.out,kb HK.out⟩
 ·rw [if_neg c4] at H
  have aH:(a4==0)=false:=beq_eq_false_iff_ne.mpr c4;have aI:(a4 != 0)=true:=bne_iff_ne.mpr c4
  by_cases c6:a4=1
  ·rw [if_pos c6] at H
   have aJ:(a4==1)=true:=beq_iff_eq.mpr c6;have aK:(a4 != 1)=false:=bne_eq_false_iff_eq.mpr c6;clear c6
   by_cases c7:a1.size+1≤9223372036854775807
   ·rw [if_pos c7] at H
    have c7b0:=eq_true c7;have c7b1:decide (a1.size+1≤9223372036854775807)=true:=decide_eq_true c7
    try have c7b2:(9223372036854775807<a1.size+1)=False:=eq_false (Nat.not_lt.2 c7)
    simp only [Option.some.injEq,Prod.mk.injEq] at H;obtain ⟨rfl,rfl⟩:=H
    go_enter Tryd.func67,Tryd.ntmps67
    go_wp2_with (first|((with_reducible refine gc 66 rfl ?_);refine gl (some 6) _ (#[.pointer (some ⟨g,0,none⟩),.int .i64 9]) Tryd.func66 ?_;(with_reducible refine (spec_l1Rd_pick.calls k g s0_0 s0_1 9 a4 a6 w0 _ ?side1 ?side2 A3.out).mono ?_);(case side1=>exact iq173 a3.out);(case side2=>exact bq173 HB.out a3.out);rintro e w8 ⟨rfl,hi,hb,hk⟩;refine ⟨_,rfl,?_⟩;refine Ya3 (KeepBut.trans (kb HK.out) hk (.inl rfl)) (hb) (hi) ?_;clear HK HB a3;intro HK HB a3;(try clear hb);(try clear hb2);(try clear hk);(try clear hi)))
    go_ret
    exact ⟨Ye2,iq173 a3.out,bq173 HB.out a3.out,kb HK.out⟩
   ·rw [if_neg c7] at H
    exact absurd H (by simp)
  ·rw [if_neg c6] at H
   have aJ:(a4==1)=false:=beq_eq_false_iff_ne.mpr c6;have aK:(a4 != 1)=true:=bne_iff_ne.mpr c6
   by_cases c9:a4=2
   ·rw [if_pos c9] at H
    have aL:(a4==2)=true:=beq_iff_eq.mpr c9;have aM:(a4 != 2)=false:=bne_eq_false_iff_eq.mpr c9;clear c9
    by_cases c10:1+a1.size≤9223372036854775807
    ·rw [if_pos c10] at H
     have c10b0:=eq_true c10;have c10b1:decide (1+a1.size≤9223372036854775807)=true:=decide_eq_true c10
     try have c10b2:(9223372036854775807<1+a1.size)=False:=eq_false (Nat.not_lt.2 c10)
     simp only [Option.some.injEq,Prod.mk.injEq] at H;obtain ⟨rfl,rfl⟩:=H
     go_enter Tryd.func67,Tryd.ntmps67
     go_wp2_with (first|((with_reducible refine gc 66 rfl ?_);refine gl (some 6) _ (#[.pointer (some ⟨g,0,none⟩),.int .i64 9]) Tryd.func66 ?_;(with_reducible refine (spec_l1Rd_pick.calls k g s0_0 s0_1 9 a4 a6 w0 _ ?side1 ?side2 A3.out).mono ?_);(case side1=>exact iq173 a3.out);(case side2=>exact bq173 HB.out a3.out);rintro e w11 ⟨rfl,hi,hb,hk⟩;refine ⟨_,rfl,?_⟩;refine Ya3 (KeepBut.trans (kb HK.out) hk (.inl rfl)) (hb) (hi) ?_;clear HK HB a3;intro HK HB a3;(try clear hb);(try clear hb2);(try clear hk);(try clear hi)))
     go_ret
     exact ⟨Ye2,iq173 a3.out,bq173 HB.out a3.out,kb HK.out⟩
    ·rw [if_neg c10] at H
     exact absurd H (by simp)
   ·rw [if_neg c9] at H
    have aL:(a4==2)=false:=beq_eq_false_iff_ne.mpr c9;have aM:(a4 != 2)=true:=bne_iff_ne.mpr c9
    by_cases ab:a4=3
    ·rw [if_pos ab] at H
     have aN:(a4==3)=true:=beq_iff_eq.mpr ab;have aO:(a4 != 3)=false:=bne_eq_false_iff_eq.mpr ab;clear ab
     by_cases ah:a1.size+3≤9223372036854775807
     ·rw [if_pos ah] at H
      have c13b0:=eq_true ah;have c13b1:decide (a1.size+3≤9223372036854775807)=true:=decide_eq_true ah
      try have c13b2:(9223372036854775807<a1.size+3)=False:=eq_false (Nat.not_lt.2 ah)
      simp only [Option.some.injEq,Prod.mk.injEq] at H;obtain ⟨rfl,rfl⟩:=H
      go_enter Tryd.func67,Tryd.ntmps67
      go_wp2_with (first|((with_reducible refine gc 66 rfl ?_);refine gl (some 6) _ (#[.pointer (some ⟨g,0,none⟩),.int .i64 9]) Tryd.func66 ?_;(with_reducible refine (spec_l1Rd_pick.calls k g s0_0 s0_1 9 a4 a6 w0 _ ?side1 ?side2 A3.out).mono ?_);(case side1=>exact iq173 a3.out);(case side2=>exact bq173 HB.out a3.out);rintro e w14 ⟨rfl,hi,hb,hk⟩;refine ⟨_,rfl,?_⟩;refine Ya3 (KeepBut.trans (kb HK.out) hk (.inl rfl)) (hb) (hi) ?_;clear HK HB a3;intro HK HB a3;(try clear hb);(try clear hb2);(try clear hk);(try clear hi)))
      go_ret
      exact ⟨Ye2,iq173 a3.out,bq173 HB.out a3.out,kb HK.out⟩
     ·rw [if_neg ah] at H
      exact absurd H (by simp)
    ·rw [if_neg ab] at H
     have aN:(a4==3)=false:=beq_eq_false_iff_ne.mpr ab;have aO:(a4 != 3)=true:=bne_iff_ne.mpr ab
     by_cases ac:a4=4
     ·rw [if_pos ac] at H
      have aP:(a4==4)=true:=beq_iff_eq.mpr ac;have aQ:(a4 != 4)=false:=bne_eq_false_iff_eq.mpr ac;clear ac
      by_cases ai:2+a1.size≤9223372036854775807
      ·rw [if_pos ai] at H
       have c16b0:=eq_true ai;have c16b1:decide (2+a1.size≤9223372036854775807)=true:=decide_eq_true ai
       try have c16b2:(9223372036854775807<2+a1.size)=False:=eq_false (Nat.not_lt.2 ai)
       simp only [Option.some.injEq,Prod.mk.injEq] at H;obtain ⟨rfl,rfl⟩:=H
       go_enter Tryd.func67,Tryd.ntmps67
       go_wp2_with (first|((with_reducible refine gc 66 rfl ?_);refine gl (some 6) _ (#[.pointer (some ⟨g,0,none⟩),.int .i64 9]) Tryd.func66 ?_;(with_reducible refine (spec_l1Rd_pick.calls k g s0_0 s0_1 9 a4 a6 w0 _ ?side1 ?side2 A3.out).mono ?_);(case side1=>exact iq173 a3.out);(case side2=>exact bq173 HB.out a3.out);rintro e w17 ⟨rfl,hi,hb,hk⟩;refine ⟨_,rfl,?_⟩;refine Ya3 (KeepBut.trans (kb HK.out) hk (.inl rfl)) (hb) (hi) ?_;clear HK HB a3;intro HK HB a3;(try clear hb);(try clear hb2);(try clear hk);(try clear hi)))
       go_ret
       exact ⟨Ye2,iq173 a3.out,bq173 HB.out a3.out,kb HK.out⟩
      ·rw [if_neg ai] at H
       exact absurd H (by simp)
     ·rw [if_neg ac] at H
      have aP:(a4==4)=false:=beq_eq_false_iff_ne.mpr ac;have aQ:(a4 != 4)=true:=bne_iff_ne.mpr ac
      by_cases ad:a4=5
      ·rw [if_pos ad] at H
       have aR:(a4==5)=true:=beq_iff_eq.mpr ad;have aS:(a4 != 5)=false:=bne_eq_false_iff_eq.mpr ad;clear ad
       by_cases aj:a1.size+1≤9223372036854775807
       ·rw [if_pos aj] at H
        have c19b0:=eq_true aj;have c19b1:decide (a1.size+1≤9223372036854775807)=true:=decide_eq_true aj
        try have c19b2:(9223372036854775807<a1.size+1)=False:=eq_false (Nat.not_lt.2 aj)
        replace H:=Option.bind_eq_some_iff.mp H;obtain ⟨⟨ap,av⟩,az,H⟩:=H;replace H:((spec_l1Many.f k (⟨#[110]⟩:ByteArray) (wrap64 (20+ap))).bind fun a7=>(if (a1++(⟨#[47]⟩:ByteArray)).size+a7.size≤9223372036854775807 then (some ((a1++(⟨#[47]⟩:ByteArray))++a7,av)) else (none)))=some (r1,r2):=H;have A20:=Aside0.mk az;clear az;replace H:=Option.bind_eq_some_iff.mp H;obtain ⟨a7,aA,H⟩:=H;replace H:(if (a1++(⟨#[47]⟩:ByteArray)).size+a7.size≤9223372036854775807 then (some ((a1++(⟨#[47]⟩:ByteArray))++a7,av)) else (none))=some (r1,r2):=H;have A21:=Aside0.mk aA;clear aA
        by_cases ag:(a1++(⟨#[47]⟩:ByteArray)).size+a7.size≤9223372036854775807
        ·rw [if_pos ag] at H
         try have c22n:a1.size+1+a7.size≤9223372036854775807:=(by have h_:=ag;(try simp only [ByteArray.size_append] at h_);(try simp only [ByteArray.size_extract] at h_);(try simp only [show (⟨#[47]⟩:ByteArray).size=1 from rfl] at h_);(try omega);(try simpa using h_))
         try have c22m:=eq_true c22n
         try have c22d:=decide_eq_true c22n
         try have c22l:=eq_false (Nat.not_lt.2 c22n)
         (try clear c22n);have c22b0:=eq_true ag;have c22b1:decide ((a1++(⟨#[47]⟩:ByteArray)).size+a7.size≤9223372036854775807)=true:=decide_eq_true ag
         try have c22b2:(9223372036854775807<(a1++(⟨#[47]⟩:ByteArray)).size+a7.size)=False:=eq_false (Nat.not_lt.2 ag)
         simp only [Option.some.injEq,Prod.mk.injEq] at H;obtain ⟨rfl,rfl⟩:=H
         go_enter Tryd.func67,Tryd.ntmps67
         go_wp2_with (first|((with_reducible refine gc 66 rfl ?_);refine gl (some 6) _ (#[.pointer (some ⟨g,0,none⟩),.int .i64 9]) Tryd.func66 ?_;(with_reducible refine (spec_l1Rd_pick.calls k g s0_0 s0_1 9 a4 a6 w0 _ ?side1 ?side2 A3.out).mono ?_);(case side1=>exact iq173 a3.out);(case side2=>exact bq173 HB.out a3.out);rintro e w23 ⟨rfl,hi,hb,hk⟩;refine ⟨_,rfl,?_⟩;refine Ya3 (KeepBut.trans (kb HK.out) hk (.inl rfl)) (hb) (hi) ?_;clear HK HB a3;intro HK HB a3;(try clear hb);(try clear hb2);(try clear hk);(try clear hi))|((with_reducible refine gc 66 rfl ?_);refine gl (some 30) _ (#[.pointer (some ⟨g,0,none⟩),.int .i64 2]) Tryd.func66 ?_;(with_reducible refine (spec_l1Rd_pick.calls k g s0_0 a6 2 ap av w0 _ ?side1 ?side2 A20.out).mono ?_);(case side1=>exact iq173 a3.out);(case side2=>exact bq173 HB.out a3.out);rintro e w24 ⟨rfl,hi,hb,hk⟩;refine ⟨_,rfl,?_⟩;refine Ya3 (KeepBut.trans (kb HK.out) hk (.inl rfl)) (hb) (hi) ?_;clear HK HB a3;intro HK HB a3;(try clear hb);(try clear hb2);(try clear hk);(try clear hi))|((with_reducible refine gc 68 rfl ?_);refine gl (some 32) _ (#[.string (⟨#[110]⟩:ByteArray),.int .i64 (wrap64 (20+ap))]) Tryd.func68 ?_;(with_reducible refine (spec_l1Many.calls k (⟨#[110]⟩:ByteArray) (wrap64 (20+ap)) a7 _ A21.out).mono ?_);rintro e w' ⟨rfl,⟨nd,rfl⟩⟩;refine ⟨_,rfl,?_⟩))
         go_ret
         exact ⟨Ye2,iq173 a3.out,bq173 HB.out a3.out,kb HK.out⟩
        ·rw [if_neg ag] at H
         exact absurd H (by simp)
       ·rw [if_neg aj] at H
        exact absurd H (by simp)
      ·rw [if_neg ad] at H
       have aR:(a4==5)=false:=beq_eq_false_iff_ne.mpr ad;have aS:(a4 != 5)=true:=bne_iff_ne.mpr ad
       by_cases ae:a4=6
       ·rw [if_pos ae] at H
        have aT:(a4==6)=true:=beq_iff_eq.mpr ae;have aU:(a4 != 6)=false:=bne_eq_false_iff_eq.mpr ae;clear ae;replace H:=Option.bind_eq_some_iff.mp H;obtain ⟨⟨aq,aw⟩,aB,H⟩:=H;replace H:((spec_l1Many.f k (⟨#[112,47]⟩:ByteArray) (wrap64 (5+aq))).bind fun a8=>(if a8.size+1≤9223372036854775807 then (some (a8++(⟨#[113]⟩:ByteArray),aw)) else (none)))=some (r1,r2):=H;have A26:=Aside0.mk aB;clear aB;replace H:=Option.bind_eq_some_iff.mp H;obtain ⟨a8,aC,H⟩:=H;replace H:(if a8.size+1≤9223372036854775807 then (some (a8++(⟨#[113]⟩:ByteArray),aw)) else (none))=some (r1,r2):=H;have A27:=Aside0.mk aC;clear aC
        by_cases ak:a8.size+1≤9223372036854775807
        ·rw [if_pos ak] at H
         have c28b0:=eq_true ak;have c28b1:decide (a8.size+1≤9223372036854775807)=true:=decide_eq_true ak
         try have c28b2:(9223372036854775807<a8.size+1)=False:=eq_false (Nat.not_lt.2 ak)
         simp only [Option.some.injEq,Prod.mk.injEq] at H;obtain ⟨rfl,rfl⟩:=H
         go_enter Tryd.func67,Tryd.ntmps67
         go_wp2_with (first|((with_reducible refine gc 66 rfl ?_);refine gl (some 6) _ (#[.pointer (some ⟨g,0,none⟩),.int .i64 9]) Tryd.func66 ?_;(with_reducible refine (spec_l1Rd_pick.calls k g s0_0 s0_1 9 a4 a6 w0 _ ?side1 ?side2 A3.out).mono ?_);(case side1=>exact iq173 a3.out);(case side2=>exact bq173 HB.out a3.out);rintro e w29 ⟨rfl,hi,hb,hk⟩;refine ⟨_,rfl,?_⟩;refine Ya3 (KeepBut.trans (kb HK.out) hk (.inl rfl)) (hb) (hi) ?_;clear HK HB a3;intro HK HB a3;(try clear hb);(try clear hb2);(try clear hk);(try clear hi))|((with_reducible refine gc 66 rfl ?_);refine gl (some 37) _ (#[.pointer (some ⟨g,0,none⟩),.int .i64 2]) Tryd.func66 ?_;(with_reducible refine (spec_l1Rd_pick.calls k g s0_0 a6 2 aq aw w0 _ ?side1 ?side2 A26.out).mono ?_);(case side1=>exact iq173 a3.out);(case side2=>exact bq173 HB.out a3.out);rintro e w30 ⟨rfl,hi,hb,hk⟩;refine ⟨_,rfl,?_⟩;refine Ya3 (KeepBut.trans (kb HK.out) hk (.inl rfl)) (hb) (hi) ?_;clear HK HB a3;intro HK HB a3;(try clear hb);(try clear hb2);(try clear hk);(try clear hi))|((with_reducible refine gc 68 rfl ?_);refine gl (some 39) _ (#[.string (⟨#[112,47]⟩:ByteArray),.int .i64 (wrap64 (5+aq))]) Tryd.func68 ?_;(with_reducible refine (spec_l1Many.calls k (⟨#[112,47]⟩:ByteArray) (wrap64 (5+aq)) a8 _ A27.out).mono ?_);rintro e w' ⟨rfl,⟨nd,rfl⟩⟩;refine ⟨_,rfl,?_⟩))
         go_ret
         exact ⟨Ye2,iq173 a3.out,bq173 HB.out a3.out,kb HK.out⟩
        ·rw [if_neg ak] at H
         exact absurd H (by simp)
       ·rw [if_neg ae] at H
        have aT:(a4==6)=false:=beq_eq_false_iff_ne.mpr ae;have aU:(a4 != 6)=true:=bne_iff_ne.mpr ae
        by_cases af:a4=7
        ·rw [if_pos af] at H
         have aV:(a4==7)=true:=beq_iff_eq.mpr af;have aW:(a4 != 7)=false:=bne_eq_false_iff_eq.mpr af;clear af
         obtain ⟨a5,al⟩:∃ y_:List ByteArray,y_=(([(⟨#[32]⟩:ByteArray),(⟨#[34]⟩:ByteArray),(⟨#[127]⟩:ByteArray),(⟨#[42]⟩:ByteArray),(⟨#[63]⟩:ByteArray)]:List ByteArray)):=⟨_,rfl⟩
         replace H:((spec_l1Rd_pick.f k s0_0 a6 5).bind fun bt222=>(if 0≤bt222.1 then (if bt222.1<(a5.length:Int) then (if a1.size+(rdOf ByteArray.empty a5 bt222.1).size≤9223372036854775807 then (some (a1++(rdOf ByteArray.empty a5 bt222.1),bt222.2)) else (none)) else (none)) else (none)))=some (r1,r2):=by first|(rw [al];with_reducible exact H)|(have H2_:=(Option.bind_some _ _).symm.trans H;rw [al];with_reducible exact H2_)|(have H2_:=(Option.bind_some _ _).symm.trans H;with_reducible exact H2_)|with_reducible exact H|(rw [al];exact H)|exact H
         have aD:=Aside0.mk al;clear al;replace H:=Option.bind_eq_some_iff.mp H;obtain ⟨⟨aa,aE⟩,aF,H⟩:=H;replace H:(if 0≤aa then (if aa<(a5.length:Int) then (if a1.size+(rdOf ByteArray.empty a5 aa).size≤9223372036854775807 then (some (a1++(rdOf ByteArray.empty a5 aa),aE)) else (none)) else (none)) else (none))=some (r1,r2):=H;have A32:=Aside0.mk aF;clear aF
         by_cases ar:0≤aa
         ·rw [if_pos ar] at H
          have c33b0:decide (0≤aa)=true:=decide_eq_true ar;clear ar
          by_cases au:aa<(a5.length:Int)
          ·rw [if_pos au] at H
           have c34b0:decide (aa<(a5.length:Int))=true:=decide_eq_true au;clear au
           by_cases am:a1.size+(rdOf ByteArray.empty a5 aa).size≤9223372036854775807
           ·rw [if_pos am] at H
            have c35b0:=eq_true am;have c35b1:decide (a1.size+(rdOf ByteArray.empty a5 aa).size≤9223372036854775807)=true:=decide_eq_true am
            try have c35b2:(9223372036854775807<a1.size+(rdOf ByteArray.empty a5 aa).size)=False:=eq_false (Nat.not_lt.2 am)
            simp only [Option.some.injEq,Prod.mk.injEq] at H;obtain ⟨rfl,rfl⟩:=H
            go_enter Tryd.func67,Tryd.ntmps67
            go_wp2_with (first|((with_reducible refine gc 66 rfl ?_);refine gl (some 6) _ (#[.pointer (some ⟨g,0,none⟩),.int .i64 9]) Tryd.func66 ?_;(with_reducible refine (spec_l1Rd_pick.calls k g s0_0 s0_1 9 a4 a6 w0 _ ?side1 ?side2 A3.out).mono ?_);(case side1=>exact iq173 a3.out);(case side2=>exact bq173 HB.out a3.out);rintro e w36 ⟨rfl,hi,hb,hk⟩;refine ⟨_,rfl,?_⟩;refine Ya3 (KeepBut.trans (kb HK.out) hk (.inl rfl)) (hb) (hi) ?_;clear HK HB a3;intro HK HB a3;(try clear hb);(try clear hb2);(try clear hk);(try clear hi))|((with_reducible refine gd 44 rfl ?_);refine Kd.R_lit Kd.string _ 9 ?hg (N:=44) ?hd (xs:=([(⟨#[32]⟩:ByteArray),(⟨#[34]⟩:ByteArray),(⟨#[127]⟩:ByteArray),(⟨#[42]⟩:ByteArray),(⟨#[63]⟩:ByteArray)]:List ByteArray)) (inner:=[.string (⟨#[32]⟩:ByteArray),.string (⟨#[34]⟩:ByteArray),.string (⟨#[127]⟩:ByteArray),.string (⟨#[42]⟩:ByteArray),.string (⟨#[63]⟩:ByteArray)]) (ok:=fun _=>True) (okp:=fun _=>True) ?hr ?hp (fun _ hk=>hk) trivial (Below.refl _ _) (Nat.le_refl _) (by simp) ?_;(case hd=>rfl);(case hg=>rfl);(case hr=>first|(go_simp;done)|(go_simp;rfl));(case hp=>exact (Reps.one (show Kd.M Kd.string _ _ _ (⟨#[32]⟩:ByteArray) [.string (⟨#[32]⟩:ByteArray)] from rfl) (Reps.one (show Kd.M Kd.string _ _ _ (⟨#[34]⟩:ByteArray) [.string (⟨#[34]⟩:ByteArray)] from rfl) (Reps.one (show Kd.M Kd.string _ _ _ (⟨#[127]⟩:ByteArray) [.string (⟨#[127]⟩:ByteArray)] from rfl) (Reps.one (show Kd.M Kd.string _ _ _ (⟨#[42]⟩:ByteArray) [.string (⟨#[42]⟩:ByteArray)] from rfl) (Reps.one (show Kd.M Kd.string _ _ _ (⟨#[63]⟩:ByteArray) [.string (⟨#[63]⟩:ByteArray)] from rfl) (Reps.none _ _)))))));intro v220 w37 ho38 hb hg_ hnew_;clear hg_ hnew_;(first|rw [←aD.out] at ho38|(simp only [Int.reduceToNat] at ho38;rw [←aD.out] at ho38));refine Ya4 (Kd.R_lower ho38 (keep_size (w:=w) (g:=g) (row:=none) (kb HK.out))) (IsS173.below (iq173 a3.out) hb) (KeepBut.trans (kb HK.out) (KeepBut.of_below hb g none) (.inl rfl)) (below_step (bq173 HB.out a3.out) hb) ?_;clear a3 HK HB;intro an a3 HK HB;clear hb ho38)|((with_reducible refine gc 66 rfl ?_);refine gl (some 46) _ (#[.pointer (some ⟨g,0,none⟩),.int .i64 5]) Tryd.func66 ?_;(with_reducible refine (spec_l1Rd_pick.calls k g s0_0 a6 5 aa aE w0 _ ?side1 ?side2 A32.out).mono ?_);(case side1=>exact iq173 a3.out);(case side2=>exact bq173 HB.out a3.out);rintro e w39 ⟨rfl,hi,hb,hk⟩;refine ⟨_,rfl,?_⟩;refine Ya4 (ra173 (iq173 a3.out) (kr an.out) hk) (KeepBut.trans (kb HK.out) hk (.inl rfl)) (hb) (hi) ?_;clear an HK HB a3;intro an HK HB a3;(try clear hb);(try clear hb2);(try clear hk);(try clear hi);obtain ⟨Ao40,co40,aX⟩:=Kd.R_slice an.out;subst aX;have ax:0≤(aa:Int):=oda;have ay:aa<(a5.length:Int):=oda;obtain ⟨ad224,aY,aZ⟩:=Kd.at_string (Kd.R_reads' an.out).2.2 aa ax ay;cases aY;replace ax:=eq_true ax;replace ay:=eq_true ay))
            go_ret
            exact ⟨Ye2,iq173 a3.out,bq173 HB.out a3.out,kb HK.out⟩
           ·rw [if_neg am] at H
            exact absurd H (by simp)
          ·rw [if_neg au] at H
           exact absurd H (by simp)
         ·rw [if_neg ar] at H
          exact absurd H (by simp)
        ·rw [if_neg af] at H
         have aV:(a4==7)=false:=beq_eq_false_iff_ne.mpr af;have aW:(a4 != 7)=true:=bne_iff_ne.mpr af;replace H:=Option.bind_eq_some_iff.mp H;obtain ⟨a9,aG,H⟩:=H;replace H:(if a9.size+1≤9223372036854775807 then (some (a9++(⟨#[63]⟩:ByteArray),a6)) else (none))=some (r1,r2):=H;have A41:=Aside0.mk aG;clear aG
         by_cases ao:a9.size+1≤9223372036854775807
         ·rw [if_pos ao] at H
          have c42b0:=eq_true ao;have c42b1:decide (a9.size+1≤9223372036854775807)=true:=decide_eq_true ao
          try have c42b2:(9223372036854775807<a9.size+1)=False:=eq_false (Nat.not_lt.2 ao)
          simp only [Option.some.injEq,Prod.mk.injEq] at H;obtain ⟨rfl,rfl⟩:=H
          go_enter Tryd.func67,Tryd.ntmps67
          go_wp2_with (first|((with_reducible refine gc 66 rfl ?_);refine gl (some 6) _ (#[.pointer (some ⟨g,0,none⟩),.int .i64 9]) Tryd.func66 ?_;(with_reducible refine (spec_l1Rd_pick.calls k g s0_0 s0_1 9 a4 a6 w0 _ ?side1 ?side2 A3.out).mono ?_);(case side1=>exact iq173 a3.out);(case side2=>exact bq173 HB.out a3.out);rintro e w43 ⟨rfl,hi,hb,hk⟩;refine ⟨_,rfl,?_⟩;refine Ya3 (KeepBut.trans (kb HK.out) hk (.inl rfl)) (hb) (hi) ?_;clear HK HB a3;intro HK HB a3;(try clear hb);(try clear hb2);(try clear hk);(try clear hi))|((with_reducible refine gc 68 rfl ?_);refine gl (some 50) _ (#[.string (⟨#[42,97]⟩:ByteArray),.int .i64 9]) Tryd.func68 ?_;(with_reducible refine (spec_l1Many.calls k (⟨#[42,97]⟩:ByteArray) 9 a9 _ A41.out).mono ?_);rintro e w' ⟨rfl,⟨nd,rfl⟩⟩;refine ⟨_,rfl,?_⟩))
          go_ret
          exact ⟨Ye2,iq173 a3.out,bq173 HB.out a3.out,kb HK.out⟩
         ·rw [if_neg ao] at H
          exact absurd H (by simp)

end Go.Proofs.YtknagppkeodggaaDoor.P


namespace Go.Proofs.YtknagppkeodggaaDoor.P
open Go.RowKit Go.Proofs.YtknagppkeodggaaDoorW.PrintWords Go.Proofs.YtknagppkeodggaaDoorW.PrintLast Go.Proofs.YtknagppkeodggaaDoorW.PrintMore
attribute [local go_sem] max2_int min2_int max_two min_two max_three min_three max_four min_four
set_option linter.unusedVariables false
set_option linter.unusedSimpArgs false

mutual
def spec_DrawMatch.j1:Nat→ByteArray→ByteArray→List Int→Int→Option (ByteArray×ByteArray)
 | 0,_,_,_,_=>none
 | k+1,x5,x6,al,bv=>(spec_l1Rd_pick.f k al bv 16).bind fun bt487=>(if bt487.1=0 then ((spec_l4Spoil.f k al bt487.2 x6).bind fun bt489=>(some (bt489.1,x5))) else (if bt487.1=1 then ((spec_l4Spoil.f k al bt487.2 x5).bind fun bt491=>(some (x6,bt491.1))) else (if bt487.1=2 then ((spec_l1Many.f k (⟨#[42,97]⟩:ByteArray) 9).bind fun aE=>((spec_l1Many.f k (⟨#[97]⟩:ByteArray) 18).bind fun af=>((some (([(⟨#[]⟩:ByteArray),(⟨#[98]⟩:ByteArray)]:List ByteArray):List ByteArray)).bind fun ad=>((spec_l1Rd_pick.f k al bt487.2 2).bind fun bt498=>(if 0≤bt498.1 then (if bt498.1<(ad.length:Int) then (if af.size+(rdOf ByteArray.empty ad bt498.1).size≤9223372036854775807 then (some (aE,af++(rdOf ByteArray.empty ad bt498.1))) else (none)) else (none)) else (none)))))) else (some (x6,x5)))))
def spec_DrawMatch.l0:Nat→ByteArray→ByteArray→List ByteArray→Int→List Int→Int→Option (ByteArray×ByteArray)
 | 0,_,_,_,_,_,_=>none
 | k+1,x5,x6,x7,x8,al,bv=>if x8<(x7.length:Int) then (if 0≤x8 then (if 0≤1 then (if 1≤((rdOf ByteArray.empty x7 x8).size:Int) then (if ((rdOf ByteArray.empty x7 x8).extract 0 1).size+1≤9223372036854775807 then (if 1+((rdOf ByteArray.empty x7 x8).extract 1 (rdOf ByteArray.empty x7 x8).size).size≤9223372036854775807 then (if 0≤(wrap64 (((rdOf ByteArray.empty x7 x8).size:Int) - 1)) then (if (wrap64 (((rdOf ByteArray.empty x7 x8).size:Int) - 1))≤((rdOf ByteArray.empty x7 x8).size:Int) then (if 1+((rdOf ByteArray.empty x7 x8).extract ((wrap64 (((rdOf ByteArray.empty x7 x8).size:Int) - 1)):Int).toNat (rdOf ByteArray.empty x7 x8).size).size≤9223372036854775807 then ((some (([rdOf ByteArray.empty x7 x8,(⟨#[42]⟩:ByteArray),((rdOf ByteArray.empty x7 x8).extract 0 1)++(⟨#[42]⟩:ByteArray),(⟨#[42,42]⟩:ByteArray),(⟨#[63]⟩:ByteArray)++((rdOf ByteArray.empty x7 x8).extract 1 (rdOf ByteArray.empty x7 x8).size),(⟨#[42]⟩:ByteArray)++((rdOf ByteArray.empty x7 x8).extract ((wrap64 (((rdOf ByteArray.empty x7 x8).size:Int) - 1)):Int).toNat (rdOf ByteArray.empty x7 x8).size)]:List ByteArray):List ByteArray)).bind fun a8=>((spec_l1Rd_pick.f k al bv 6).bind fun bt476=>(if 0≤bt476.1 then (if bt476.1<(a8.length:Int) then (if x8>0 then (if x6.size+1≤9223372036854775807 then (if (x6++(⟨#[47]⟩:ByteArray)).size+(rdOf ByteArray.empty a8 bt476.1).size≤9223372036854775807 then (spec_DrawMatch.l0 k x5 ((x6++(⟨#[47]⟩:ByteArray))++(rdOf ByteArray.empty a8 bt476.1)) x7 (wrap64 (x8+1)) al bt476.2) else (none)) else (none)) else (if x6.size+(rdOf ByteArray.empty a8 bt476.1).size≤9223372036854775807 then (spec_DrawMatch.l0 k x5 (x6++(rdOf ByteArray.empty a8 bt476.1)) x7 (wrap64 (x8+1)) al bt476.2) else (none))) else (none)) else (none)))) else (none)) else (none)) else (none)) else (none)) else (none)) else (none)) else (none)) else (none)) else ((spec_l1Rd_pick.f k al bv 6).bind fun bt479=>(if bt479.1=0 then (if (x7.length:Int)<6 then (if 3+x6.size≤9223372036854775807 then (if x6.size+3≤9223372036854775807 then ((some (([(⟨#[42,42,47]⟩:ByteArray)++x6,x6++(⟨#[47,42,42]⟩:ByteArray)]:List ByteArray):List ByteArray)).bind fun ak=>((spec_l1Rd_pick.f k al bt479.2 2).bind fun bt484=>(if 0≤bt484.1 then (if bt484.1<(ak.length:Int) then (spec_DrawMatch.j1 k x5 (rdOf ByteArray.empty ak bt484.1) al bt484.2) else (none)) else (none)))) else (none)) else (none)) else (spec_DrawMatch.j1 k x5 x6 al bt479.2)) else (spec_DrawMatch.j1 k x5 x6 al bt479.2)))
end
def spec_DrawMatch.f (k:Nat) (l0:List Int):Option (ByteArray×ByteArray):=(spec_l1Open.f l0).bind fun bt456=>((spec_l4Path.f k bt456.1 bt456.2).bind fun bt459=>((spec_l4Glob.f k bt456.1 bt459.2).bind fun bt461=>((spec_l1Rd_pick.f k bt456.1 bt461.2 2).bind fun bt463=>(if bt463.1=0 then ((spec_l4Parts.f k bt459.1).bind fun a2=>(spec_DrawMatch.l0 k bt459.1 (⟨#[]⟩:ByteArray) a2 0 bt456.1 bt463.2)) else (spec_DrawMatch.j1 k bt459.1 bt461.1 bt456.1 bt463.2)))))
theorem spec_DrawMatch.mono_l:∀ k,(∀ y0 y1 y2 y3,LeO (spec_DrawMatch.j1 k y0 y1 y2 y3) (spec_DrawMatch.j1 (k+1) y0 y1 y2 y3))∧(∀ y0 y1 y2 y3 y4 y5,LeO (spec_DrawMatch.l0 k y0 y1 y2 y3 y4 y5) (spec_DrawMatch.l0 (k+1) y0 y1 y2 y3 y4 y5))
 | 0=>⟨fun _ _ _ _ r h=>by simp [spec_DrawMatch.j1] at h,fun _ _ _ _ _ _ r h=>by simp [spec_DrawMatch.l0] at h⟩
 | k + 1 => by
  obtain ⟨ih0,ih1⟩:=spec_DrawMatch.mono_l k;refine ⟨?_,?_⟩
  ·intro y0 y1 y2 y3
   unfold spec_DrawMatch.j1
   repeat' first
   | (with_reducible exact ih0 _ _ _ _)
   | (with_reducible exact ih1 _ _ _ _ _ _)
   | (with_reducible exact spec_l1Many.mono _ _ _)
   | (with_reducible exact spec_l1Rd_pick.mono _ _ _ _)
   | (with_reducible exact spec_l4Glob.mono _ _ _)
   | (with_reducible exact spec_l4Parts.mono _ _)
   | (with_reducible exact spec_l4Path.mono _ _ _)
   | (with_reducible exact spec_l4Spoil.mono _ _ _ _)
   | (with_reducible exact LeO.refl _)
   | (with_reducible exact LeO.none _)
   | (with_reducible refine LeO.ite ?_ ?_)
   | (with_reducible refine LeO.bind ?_ (fun _ => ?_))
   | exact ih0 _ _ _ _
   | exact ih1 _ _ _ _ _ _
   | exact spec_l1Many.mono _ _ _
   | exact spec_l1Rd_pick.mono _ _ _ _
   | exact spec_l4Glob.mono _ _ _
   | exact spec_l4Parts.mono _ _
   | exact spec_l4Path.mono _ _ _
   | exact spec_l4Spoil.mono _ _ _ _
   | exact LeO.none _
   | refine LeO.ite ?_ ?_
   | refine LeO.bind ?_ (fun _ => ?_)
  ·intro y0 y1 y2 y3 y4 y5
   unfold spec_DrawMatch.l0
   repeat' first
   | (with_reducible exact ih0 _ _ _ _)
   | (with_reducible exact ih1 _ _ _ _ _ _)
   | (with_reducible exact spec_l1Many.mono _ _ _)
   | (with_reducible exact spec_l1Rd_pick.mono _ _ _ _)
   | (with_reducible exact spec_l4Glob.mono _ _ _)
   | (with_reducible exact spec_l4Parts.mono _ _)
   | (with_reducible exact spec_l4Path.mono _ _ _)
   | (with_reducible exact spec_l4Spoil.mono _ _ _ _)
   | (with_reducible exact LeO.refl _)
   | (with_reducible exact LeO.none _)
   | (with_reducible refine LeO.ite ?_ ?_)
   | (with_reducible refine LeO.bind ?_ (fun _ => ?_))
   | exact ih0 _ _ _ _
   | exact ih1 _ _ _ _ _ _
   | exact spec_l1Many.mono _ _ _
   | exact spec_l1Rd_pick.mono _ _ _ _
   | exact spec_l4Glob.mono _ _ _
   | exact spec_l4Parts.mono _ _
   | exact spec_l4Path.mono _ _ _
   | exact spec_l4Spoil.mono _ _ _ _
   | exact LeO.none _
   | refine LeO.ite ?_ ?_
   | refine LeO.bind ?_ (fun _ => ?_)
theorem spec_DrawMatch.mono:∀ a0 k,LeO (spec_DrawMatch.f k a0) (spec_DrawMatch.f (k+1) a0):=by
 intro a0 k;obtain ⟨ih0,ih1⟩:=spec_DrawMatch.mono_l k
 unfold spec_DrawMatch.f
 repeat' first
   | (with_reducible exact ih0 _ _ _ _)
   | (with_reducible exact ih1 _ _ _ _ _ _)
   | (with_reducible exact spec_l1Many.mono _ _ _)
   | (with_reducible exact spec_l1Rd_pick.mono _ _ _ _)
   | (with_reducible exact spec_l4Glob.mono _ _ _)
   | (with_reducible exact spec_l4Parts.mono _ _)
   | (with_reducible exact spec_l4Path.mono _ _ _)
   | (with_reducible exact spec_l4Spoil.mono _ _ _ _)
   | (with_reducible exact LeO.refl _)
   | (with_reducible exact LeO.none _)
   | (with_reducible refine LeO.ite ?_ ?_)
   | (with_reducible refine LeO.bind ?_ (fun _ => ?_))
   | exact ih0 _ _ _ _
   | exact ih1 _ _ _ _ _ _
   | exact spec_l1Many.mono _ _ _
   | exact spec_l1Rd_pick.mono _ _ _ _
   | exact spec_l4Glob.mono _ _ _
   | exact spec_l4Parts.mono _ _
   | exact spec_l4Path.mono _ _ _
   | exact spec_l4Spoil.mono _ _ _ _
   | exact LeO.none _
   | refine LeO.ite ?_ ?_
   | refine LeO.bind ?_ (fun _ => ?_)
def spec_DrawMatch.T10:Bool×List (List Nat×List Nat):=(true,[([],[]),([],[]),([0,1],[0,1]),([2],[2]),([],[]),([],[]),([4,5],[4,5]),([6],[6]),([7],[7]),([8],[8]),([],[]),([],[]),([10,11],[10,11]),([12],[12]),([13],[13]),([14],[14]),([],[]),([],[]),([16,17],[16,17]),([18],[18]),([],[]),([],[]),([20,21],[20,21]),([22],[22]),([23],[23]),([24],[24]),([19,25],[19,25]),([26],[26]),([3,9,15,27],[3,9,15,27]),([],[]),([29],[29]),([28,30],[28,30]),([31],[31]),([32,30,0,1,2,3,4,5,6,7,8,9,10,11,12,13,14,15,16,17,18,19,20,21,22,23,24,25,26,27,28,29,30,31,32],[32])])
def spec_DrawMatch.B10:List Nat:=[0,0,3,7,0,0,48,112,240,496,0,0,3072,7168,15360,31744,0,0,196608,458752,0,0,3145728,7340032,15728640,32505856,67043328,134152192,268435455,0,536870912,2147483647,4294967295,8589934591]
theorem spec_DrawMatch.tab10:rtab .any (opsOf Tryd.f20 10)=spec_DrawMatch.T10:=by kernel_rfl
theorem spec_DrawMatch.bits10:waitsOk spec_DrawMatch.T10.2 spec_DrawMatch.B10=true:=by kernel_rfl
set_option maxHeartbeats 8000000 in
set_option maxRecDepth 100000 in
theorem spec_DrawMatch.calls (k : Nat) (A0 : Option Addr) (c0 : Nat) (l0 : List Int) (r1 : ByteArray) (r2 : ByteArray) (w : World) (hr0 : Kd.C (Kd.int .u8) w A0 l0.length l0) (hc0 : l0.length ≤ c0) (h : spec_DrawMatch.f k l0 = some (r1, r2)) :
  Calls Tryd.prog 20 #[.slice A0 l0.length c0] w fun e w'=>e = .returned (.tuple #[.string r1,.string r2])∧Below w.heap.size w w':=by
 have HR0:=Aside0.mk hr0;have HC0:=Aside0.mk hc0;clear hr0 hc0;have HB:=Aside0.mk (Below.refl w.heap.size w);have H:((spec_l1Open.f l0).bind fun bt456=>((spec_l4Path.f k bt456.1 bt456.2).bind fun bt459=>((spec_l4Glob.f k bt456.1 bt459.2).bind fun bt461=>((spec_l1Rd_pick.f k bt456.1 bt461.2 2).bind fun bt463=>(if bt463.1=0 then ((spec_l4Parts.f k bt459.1).bind fun a2=>(spec_DrawMatch.l0 k bt459.1 (⟨#[]⟩:ByteArray) a2 0 bt456.1 bt463.2)) else (spec_DrawMatch.j1 k bt459.1 bt461.1 bt456.1 bt463.2))))))=some (r1,r2):=h;clear h;replace H:=Option.bind_eq_some_iff.mp H;obtain ⟨⟨a7,bG⟩,A20,H⟩:=H;replace H:((spec_l4Path.f k a7 bG).bind fun bt459=>((spec_l4Glob.f k a7 bt459.2).bind fun bt461=>((spec_l1Rd_pick.f k a7 bt461.2 2).bind fun bt463=>(if bt463.1=0 then ((spec_l4Parts.f k bt459.1).bind fun a2=>(spec_DrawMatch.l0 k bt459.1 (⟨#[]⟩:ByteArray) a2 0 a7 bt463.2)) else (spec_DrawMatch.j1 k bt459.1 bt461.1 a7 bt463.2)))))=some (r1,r2):=H;have A2:=Aside0.mk A20;clear A20;replace H:=Option.bind_eq_some_iff.mp H;obtain ⟨⟨ac,bH⟩,A30,H⟩:=H;replace H:((spec_l4Glob.f k a7 bH).bind fun bt461=>((spec_l1Rd_pick.f k a7 bt461.2 2).bind fun bt463=>(if bt463.1=0 then ((spec_l4Parts.f k ac).bind fun a2=>(spec_DrawMatch.l0 k ac (⟨#[]⟩:ByteArray) a2 0 a7 bt463.2)) else (spec_DrawMatch.j1 k ac bt461.1 a7 bt463.2))))=some (r1,r2):=H;have A3:=Aside0.mk A30;clear A30;replace H:=Option.bind_eq_some_iff.mp H;obtain ⟨⟨bw,bI⟩,A40,H⟩:=H;replace H:((spec_l1Rd_pick.f k a7 bI 2).bind fun bt463=>(if bt463.1=0 then ((spec_l4Parts.f k ac).bind fun a2=>(spec_DrawMatch.l0 k ac (⟨#[]⟩:ByteArray) a2 0 a7 bt463.2)) else (spec_DrawMatch.j1 k ac bw a7 bt463.2)))=some (r1,r2):=H;have A4:=Aside0.mk A40;clear A40;replace H:=Option.bind_eq_some_iff.mp H;obtain ⟨⟨aL,aV⟩,A50,H⟩:=H;replace H:(if aL=0 then ((spec_l4Parts.f k ac).bind fun a2=>(spec_DrawMatch.l0 k ac (⟨#[]⟩:ByteArray) a2 0 a7 aV)) else (spec_DrawMatch.j1 k ac bw a7 aV))=some (r1,r2):=H;have A5:=Aside0.mk A50;clear A50;have bJ:=Aside0.mk H;clear H
 go_enter Tryd.func20,Tryd.ntmps20
 go_upto_if 18 with (first|((with_reducible refine gc 62 rfl ?_);refine gl (some 11) _ (#[.slice A0 l0.length c0]) Tryd.func62 ?_;(with_reducible refine (spec_l1Open.calls _ _ l0 a7 bG w _ ?side1 ?side2 ?side3 A2.out).mono ?_);(case side1=>exact bf HB.out);(case side2=>exact HR0.out);(case side3=>exact HC0.out);rintro e w7 ⟨g458,rfl,hi,hb,hb2⟩;refine ⟨_,rfl,?_⟩;refine Ya2 (hb) (hi) ?_;clear HB;intro HB a3;(try clear hb);(try clear hb2);(try clear hk);(try clear hi))|((with_reducible refine gc 77 rfl ?_);refine gl (some 13) _ (#[.pointer (some ⟨g458,0,none⟩)]) Tryd.func77 ?_;(with_reducible refine (spec_l4Path.calls k g458 a7 bG ac bH w _ ?side1 ?side2 A3.out).mono ?_);(case side1=>exact iq173 a3.out);(case side2=>exact bq173 HB.out a3.out);rintro e w8 ⟨rfl,hi,hb,hk⟩;refine ⟨_,rfl,?_⟩;refine Ya2 (hb) (hi) ?_;clear HB a3;intro HB a3;(try clear hb);(try clear hb2);(try clear hk);(try clear hi))|((with_reducible refine gc 78 rfl ?_);refine gl (some 15) _ (#[.pointer (some ⟨g458,0,none⟩)]) Tryd.func78 ?_;(with_reducible refine (spec_l4Glob.calls k g458 a7 bH bw bI w _ ?side1 ?side2 A4.out).mono ?_);(case side1=>exact iq173 a3.out);(case side2=>exact bq173 HB.out a3.out);rintro e w9 ⟨rfl,hi,hb,hk⟩;refine ⟨_,rfl,?_⟩;refine Ya2 (hb) (hi) ?_;clear HB a3;intro HB a3;(try clear hb);(try clear hb2);(try clear hk);(try clear hi))|((with_reducible refine gc 66 rfl ?_);refine gl (some 17) _ (#[.pointer (some ⟨g458,0,none⟩),.int .i64 2]) Tryd.func66 ?_;(with_reducible refine (spec_l1Rd_pick.calls k g458 a7 bI 2 aL aV w _ ?side1 ?side2 A5.out).mono ?_);(case side1=>exact iq173 a3.out);(case side2=>exact bq173 HB.out a3.out);rintro e w10 ⟨rfl,hi,hb,hk⟩;refine ⟨_,rfl,?_⟩;refine Ya2 (hb) (hi) ?_;clear HB a3;intro HB a3;(try clear hb);(try clear hb2);(try clear hk);(try clear hi)))
 (try simp only [Act.put,List.setIfInBounds_toArray,List.set_cons_zero,List.set_cons_succ])
 go_cut [6] (fun v6 wc => ∃ (kq:Nat) (aF:ByteArray) (aM:Int),v6 = .string aF∧Aside0 (spec_DrawMatch.j1 kq ac aF a7 aM=some (r1,r2))∧Aside0 (kq≤k)∧Aside0 (IsS173 w wc g458 a7 aM)∧Aside0 (Below w.heap.size w wc))
 case first =>
  have H:=bJ.out;clear bJ
  by_cases aG:aL=0
  ·rw [if_pos aG] at H
   have aN:(aL==0)=true:=beq_iff_eq.mpr aG;have bK:(aL != 0)=false:=bne_eq_false_iff_eq.mpr aG;clear aG;(first|rw [aN]|(simp only [i64_w,i32_w];rw [aN])|skip);replace H:=Option.bind_eq_some_iff.mp H;obtain ⟨a2,cf,H⟩:=H;replace H:(spec_DrawMatch.l0 k ac (⟨#[]⟩:ByteArray) a2 0 a7 aV)=some (r1,r2):=H;have A12:=Aside0.mk cf;clear cf;have H':=Aside0.mk H;clear H
   go_wp2_with (first|((with_reducible refine gc 79 rfl ?_);refine gl (some 20) _ (#[.string ac]) Tryd.func79 ?_;(with_reducible refine (spec_l4Parts.calls k ac a2 _ A12.out).mono ?_);rintro e w13 ⟨cy,rfl,ho0,hb⟩;refine ⟨_,rfl,?_⟩;refine Ya3 (Kd.R_lower ho0 (below_size (bq173 HB.out a3.out))) (IsS173.below (iq173 a3.out) hb) (below_step (bq173 HB.out a3.out) hb) ?_;clear a3 HB;intro cz a3 HB;(try clear hb);(try clear hb2);(try clear hk);(try clear hi);(try clear ho0)))
   go_loopg [6,8] k (fun kq v6 v8 w' => ∃ (a9:ByteArray) (a1:Int) (ag:Int),v6 = .string a9∧v8 = .int .i64 a1∧Aside0 (spec_DrawMatch.l0 kq ac a9 a2 a1 a7 ag=some (r1,r2))∧Aside0 (kq≤k)∧Aside0 (Kd.R Kd.string 9 w' w.heap.size (fun _=>True) cy a2)∧Aside0 (IsS173 w w' g458 a7 ag)∧Aside0 (Below w.heap.size w w'))
   case atStart=>exact ⟨((⟨#[]⟩:ByteArray)),(0),(aV),Ye1,Ye1,H',⟨Nat.le_refl _⟩,⟨kr cz.out⟩,⟨iq173 a3.out⟩,⟨bq173 HB.out a3.out⟩⟩
   case round =>
    clear H';(try clear c1);(try clear c2);(try clear p2);(try clear c6);(try clear c7);(try clear aG);(try clear aN);(try clear bK);obtain ⟨a9,a1,ag,rfl,rfl,HA,HK1,a4,a3,HB⟩:=hrel
    cases gk with
    | zero=>exact absurd HA.out (by simp [spec_DrawMatch.l0])
    | succ k1 =>
     have H:=HA.out;clear HA;simp only [spec_DrawMatch.l0] at H
     by_cases aO:a1<(a2.length:Int)
     ·rw [if_pos aO] at H
      have cg:decide (a1<(a2.length:Int))=true:=decide_eq_true aO;clear aO
      by_cases b7:0≤a1
      ·rw [if_pos b7] at H
       have c15b0:decide (0≤a1)=true:=decide_eq_true b7;clear b7
       by_cases aW:0≤1
       ·rw [if_pos aW] at H
        have c16b0:=eq_true aW;have c16b1:decide (0≤1)=true:=decide_eq_true aW;clear aW
        by_cases aX:1≤((rdOf ByteArray.empty a2 a1).size:Int)
        ·rw [if_pos aX] at H
         have c17b0:=eq_true aX;have c17b1:decide (1≤((rdOf ByteArray.empty a2 a1).size:Int))=true:=decide_eq_true aX;clear aX
         by_cases aY:((rdOf ByteArray.empty a2 a1).extract 0 1).size+1≤9223372036854775807
         ·rw [if_pos aY] at H
          try have c18t_:min 1 (rdOf ByteArray.empty a2 a1).size≤9223372036854775806:=(by omega)
          try have c18p:=eq_true c18t_
          try have c18q:=decide_eq_true c18t_
          try have c18r:=eq_false (Nat.not_lt.2 c18t_)
          (try clear c18t_);have c18b0:=eq_true aY;have c18b1:decide (((rdOf ByteArray.empty a2 a1).extract 0 1).size+1≤9223372036854775807)=true:=decide_eq_true aY
          try have c18b2:(9223372036854775807<((rdOf ByteArray.empty a2 a1).extract 0 1).size+1)=False:=eq_false (Nat.not_lt.2 aY)
          have c19b0:=eq_true (oda:1≤((rdOf ByteArray.empty a2 a1).size:Int))
          by_cases aP:1+((rdOf ByteArray.empty a2 a1).extract 1 (rdOf ByteArray.empty a2 a1).size).size≤9223372036854775807
          ·rw [if_pos aP] at H
           try have c20n:1+((rdOf ByteArray.empty a2 a1).size - 1)≤9223372036854775807:=(by have h_:=aP;(try simp only [ByteArray.size_append] at h_);(try simp only [ByteArray.size_extract] at h_);omega)
           try have c20p:=eq_true c20n
           try have c20q:=decide_eq_true c20n
           try have c20r:=eq_false (Nat.not_lt.2 c20n)
           (try clear c20n);have c20b0:=eq_true aP;have c20b1:decide (1+((rdOf ByteArray.empty a2 a1).extract 1 (rdOf ByteArray.empty a2 a1).size).size≤9223372036854775807)=true:=decide_eq_true aP
           try have c20b2:(9223372036854775807<1+((rdOf ByteArray.empty a2 a1).extract 1 (rdOf ByteArray.empty a2 a1).size).size)=False:=eq_false (Nat.not_lt.2 aP)
           obtain ⟨ab,bL⟩:∃ j_:Int,(wrap64 (((rdOf ByteArray.empty a2 a1).size:Int) - 1))=j_:=⟨_,rfl⟩
           replace H:(if 0≤(ab) then (if (ab)≤((rdOf ByteArray.empty a2 a1).size:Int) then (if 1+((rdOf ByteArray.empty a2 a1).extract ((ab):Int).toNat (rdOf ByteArray.empty a2 a1).size).size≤9223372036854775807 then ((some (([rdOf ByteArray.empty a2 a1,(⟨#[42]⟩:ByteArray),((rdOf ByteArray.empty a2 a1).extract 0 1)++(⟨#[42]⟩:ByteArray),(⟨#[42,42]⟩:ByteArray),(⟨#[63]⟩:ByteArray)++((rdOf ByteArray.empty a2 a1).extract 1 (rdOf ByteArray.empty a2 a1).size),(⟨#[42]⟩:ByteArray)++((rdOf ByteArray.empty a2 a1).extract ((ab):Int).toNat (rdOf ByteArray.empty a2 a1).size)]:List ByteArray):List ByteArray)).bind fun a8=>((spec_l1Rd_pick.f k1 a7 ag 6).bind fun bt476=>(if 0≤bt476.1 then (if bt476.1<(a8.length:Int) then (if a1>0 then (if a9.size+1≤9223372036854775807 then (if (a9++(⟨#[47]⟩:ByteArray)).size+(rdOf ByteArray.empty a8 bt476.1).size≤9223372036854775807 then (spec_DrawMatch.l0 k1 ac ((a9++(⟨#[47]⟩:ByteArray))++(rdOf ByteArray.empty a8 bt476.1)) a2 (wrap64 (a1+1)) a7 bt476.2) else (none)) else (none)) else (if a9.size+(rdOf ByteArray.empty a8 bt476.1).size≤9223372036854775807 then (spec_DrawMatch.l0 k1 ac (a9++(rdOf ByteArray.empty a8 bt476.1)) a2 (wrap64 (a1+1)) a7 bt476.2) else (none))) else (none)) else (none)))) else (none)) else (none)) else (none))=some (r1,r2):=by first|(rw [bL] at H;exact H)|(simp only [bL] at H ⊢; exact H)
           have hji21w:(IntKind.i64.wrap (((rdOf ByteArray.empty a2 a1).size:Int) - 1))=ab:=(i64_w _).trans bL
           by_cases aZ:0≤(ab)
           ·rw [if_pos aZ] at H
            have c22b0:=eq_true aZ;have c22b1:decide (0≤(ab))=true:=decide_eq_true aZ;clear aZ
            by_cases b0:(ab)≤((rdOf ByteArray.empty a2 a1).size:Int)
            ·rw [if_pos b0] at H
             have c23b0:=eq_true b0;have c23b1:decide ((ab)≤((rdOf ByteArray.empty a2 a1).size:Int))=true:=decide_eq_true b0;clear b0
             by_cases aQ:1+((rdOf ByteArray.empty a2 a1).extract ((ab):Int).toNat (rdOf ByteArray.empty a2 a1).size).size≤9223372036854775807
             ·rw [if_pos aQ] at H
              try have c24n:1+((rdOf ByteArray.empty a2 a1).size - ((ab):Int).toNat)≤9223372036854775807:=(by have h_:=aQ;have g0_:(ab)≤((rdOf ByteArray.empty a2 a1).size:Int):=(by first|assumption|exact of_eq_true (by assumption)|exact of_decide_eq_true (by assumption));(try simp only [ByteArray.size_append] at h_);(try simp only [ByteArray.size_extract] at h_);omega)
              try have c24p:=eq_true c24n
              try have c24q:=decide_eq_true c24n
              try have c24r:=eq_false (Nat.not_lt.2 c24n)
              (try clear c24n);have c24b0:=eq_true aQ;have c24b1:decide (1+((rdOf ByteArray.empty a2 a1).extract ((ab):Int).toNat (rdOf ByteArray.empty a2 a1).size).size≤9223372036854775807)=true:=decide_eq_true aQ
              try have c24b2:(9223372036854775807<1+((rdOf ByteArray.empty a2 a1).extract ((ab):Int).toNat (rdOf ByteArray.empty a2 a1).size).size)=False:=eq_false (Nat.not_lt.2 aQ)
              obtain ⟨a8,b8⟩:∃ y_:List ByteArray,y_=(([rdOf ByteArray.empty a2 a1,(⟨#[42]⟩:ByteArray),((rdOf ByteArray.empty a2 a1).extract 0 1)++(⟨#[42]⟩:ByteArray),(⟨#[42,42]⟩:ByteArray),(⟨#[63]⟩:ByteArray)++((rdOf ByteArray.empty a2 a1).extract 1 (rdOf ByteArray.empty a2 a1).size),(⟨#[42]⟩:ByteArray)++((rdOf ByteArray.empty a2 a1).extract ((ab):Int).toNat (rdOf ByteArray.empty a2 a1).size)]:List ByteArray)):=⟨_,rfl⟩
              replace H:((spec_l1Rd_pick.f k1 a7 ag 6).bind fun bt476=>(if 0≤bt476.1 then (if bt476.1<(a8.length:Int) then (if a1>0 then (if a9.size+1≤9223372036854775807 then (if (a9++(⟨#[47]⟩:ByteArray)).size+(rdOf ByteArray.empty a8 bt476.1).size≤9223372036854775807 then (spec_DrawMatch.l0 k1 ac ((a9++(⟨#[47]⟩:ByteArray))++(rdOf ByteArray.empty a8 bt476.1)) a2 (wrap64 (a1+1)) a7 bt476.2) else (none)) else (none)) else (if a9.size+(rdOf ByteArray.empty a8 bt476.1).size≤9223372036854775807 then (spec_DrawMatch.l0 k1 ac (a9++(rdOf ByteArray.empty a8 bt476.1)) a2 (wrap64 (a1+1)) a7 bt476.2) else (none))) else (none)) else (none)))=some (r1,r2):=by first|(rw [b8];with_reducible exact H)|(have H2_:=(Option.bind_some _ _).symm.trans H;rw [b8];with_reducible exact H2_)|(have H2_:=(Option.bind_some _ _).symm.trans H;with_reducible exact H2_)|with_reducible exact H|(rw [b8];exact H)|exact H
              have b1:=Aside0.mk b8;clear b8;replace H:=Option.bind_eq_some_iff.mp H;obtain ⟨⟨aa,aq⟩,ch,H⟩:=H;replace H:(if 0≤aa then (if aa<(a8.length:Int) then (if a1>0 then (if a9.size+1≤9223372036854775807 then (if (a9++(⟨#[47]⟩:ByteArray)).size+(rdOf ByteArray.empty a8 aa).size≤9223372036854775807 then (spec_DrawMatch.l0 k1 ac ((a9++(⟨#[47]⟩:ByteArray))++(rdOf ByteArray.empty a8 aa)) a2 (wrap64 (a1+1)) a7 aq) else (none)) else (none)) else (if a9.size+(rdOf ByteArray.empty a8 aa).size≤9223372036854775807 then (spec_DrawMatch.l0 k1 ac (a9++(rdOf ByteArray.empty a8 aa)) a2 (wrap64 (a1+1)) a7 aq) else (none))) else (none)) else (none))=some (r1,r2):=H;have A25:=Aside0.mk ch;clear ch
              by_cases b9:0≤aa
              ·rw [if_pos b9] at H
               have c26b0:decide (0≤aa)=true:=decide_eq_true b9;clear b9
               by_cases ba:aa<(a8.length:Int)
               ·rw [if_pos ba] at H
                have c27b0:decide (aa<(a8.length:Int))=true:=decide_eq_true ba;clear ba
                by_cases b2:a1>0
                ·rw [if_pos b2] at H
                 have cA:decide (0<a1)=true:=decide_eq_true b2;clear b2
                 by_cases bd:a9.size+1≤9223372036854775807
                 ·rw [if_pos bd] at H
                  have c29b0:=eq_true bd;have c29b1:decide (a9.size+1≤9223372036854775807)=true:=decide_eq_true bd
                  try have c29b2:(9223372036854775807<a9.size+1)=False:=eq_false (Nat.not_lt.2 bd)
                  by_cases b3:(a9++(⟨#[47]⟩:ByteArray)).size+(rdOf ByteArray.empty a8 aa).size≤9223372036854775807
                  ·rw [if_pos b3] at H
                   try have c30n:a9.size+1+(rdOf ByteArray.empty a8 aa).size≤9223372036854775807:=(by have h_:=b3;(try simp only [ByteArray.size_append] at h_);(try simp only [ByteArray.size_extract] at h_);(try simp only [show (⟨#[47]⟩:ByteArray).size=1 from rfl] at h_);(try omega);(try simpa using h_))
                   try have c30m:=eq_true c30n
                   try have c30d:=decide_eq_true c30n
                   try have c30l:=eq_false (Nat.not_lt.2 c30n)
                   (try clear c30n);have c30b0:=eq_true b3;have c30b1:decide ((a9++(⟨#[47]⟩:ByteArray)).size+(rdOf ByteArray.empty a8 aa).size≤9223372036854775807)=true:=decide_eq_true b3
                   try have c30b2:(9223372036854775807<(a9++(⟨#[47]⟩:ByteArray)).size+(rdOf ByteArray.empty a8 aa).size)=False:=eq_false (Nat.not_lt.2 b3)
                   have H':=Aside0.mk H;clear H;obtain ⟨Ao31,aI,cB⟩:=Kd.R_slice a4.out;subst cB
                   try go_wp2
                   have pi478:(0≤(aa:Int))=True:=eq_true (oda);have qi478:(aa<(a8.length:Int))=True:=eq_true (oda);refine Ya3 (Kd.R_drew a4.out) (IsS173.drew a3.out) (below_drew1 HB.out) ?_;clear a4 a3 HB;intro a4 a3 HB;have ar:0≤(a1:Int):=oda;have au:a1<(a2.length:Int):=oda;obtain ⟨a6,bM,bN⟩:=Kd.at_string (Kd.R_reads' a4.out).2.2 a1 ar au
                   cases bM
                   replace ar:=eq_true ar;replace au:=eq_true au;have av:0≤(a1:Int):=oda;have aw:a1<(a2.length:Int):=oda;obtain ⟨bO,bP,bQ⟩:=Kd.at_string (Kd.R_reads' a4.out).2.2 a1 av aw
                   obtain rfl:a6=bO:=(by injection bP)
                   replace av:=eq_true av;replace aw:=eq_true aw;have ax:0≤(a1:Int):=oda;have ay:a1<(a2.length:Int):=oda;obtain ⟨bR,bS,bT⟩:=Kd.at_string (Kd.R_reads' a4.out).2.2 a1 ax ay
                   obtain rfl:a6=bR:=(by injection bS)
                   replace ax:=eq_true ax;replace ay:=eq_true ay;have az:0≤(a1:Int):=oda;have aA:a1<(a2.length:Int):=oda;obtain ⟨bU,bV,bW⟩:=Kd.at_string (Kd.R_reads' a4.out).2.2 a1 az aA
                   obtain rfl:a6=bU:=(by injection bV)
                   replace az:=eq_true az;replace aA:=eq_true aA;have aB:0≤(a1:Int):=oda;have aC:a1<(a2.length:Int):=oda;obtain ⟨bX,bY,bZ⟩:=Kd.at_string (Kd.R_reads' a4.out).2.2 a1 aB aC
                   obtain rfl:a6=bX:=(by injection bY)
                   replace aB:=eq_true aB;replace aC:=eq_true aC;refine start_ (n:=34) (S:=fun w'=>True) (ds:=[]) (fb 34 0) (by kernel_rfl) rfl rfl trivial (fun hHeld => ?_);refine with_tabW spec_DrawMatch.tab10 spec_DrawMatch.bits10 (fun HT_ HW_ => ?_);generalize wr.drew=w32 at a4 a3 HB bN bQ bT bW bZ hHeld ⊢; refine pu 0 27 (fb 34 1) HT_ ?_;refine pu 1 28 (fb 34 3) HT_ ?_;refine pu 4 31 (fb 34 19) HT_ ?_;refine pu 5 32 (fb 34 51) HT_ ?_;refine pu 10 37 (fb 34 1075) HT_ ?_;refine pu 11 38 (fb 34 3123) HT_ ?_;refine pu 16 43 (fb 34 68659) HT_ ?_;refine pu 17 44 (fb 34 199731) HT_ ?_;refine pu 20 47 (fb 34 1248307) HT_ ?_;refine pu 21 48 (fb 34 3345459) HT_ ?_;refine pu 29 56 (fb 34 540216371) HT_ ?_;refine inv_at [2,3,6,7,8,9,12,13,14,15,18,19,22,23,24,25,26,27,28,30,31,32,33] (fun a0_ b a w' => ∃ (a5:Value) (adz_v474:Addr) (m31_:Value),a=putSel a0_ b [(2,29,.pointer (some (a6.add (a1).toNat))),(3,30,.string (rdOf ByteArray.empty a2 a1)),(6,33,.pointer (some (a6.add (a1).toNat))),(7,34,.string (rdOf ByteArray.empty a2 a1)),(8,35,.string ((rdOf ByteArray.empty a2 a1).extract 0 1)),(9,36,.string (((rdOf ByteArray.empty a2 a1).extract 0 1)++(⟨#[42]⟩:ByteArray))),(12,39,.pointer (some (a6.add (a1).toNat))),(13,40,.string (rdOf ByteArray.empty a2 a1)),(14,41,.string ((rdOf ByteArray.empty a2 a1).extract 1 (rdOf ByteArray.empty a2 a1).size)),(15,42,.string ((⟨#[63]⟩:ByteArray)++((rdOf ByteArray.empty a2 a1).extract 1 (rdOf ByteArray.empty a2 a1).size))),(18,45,.pointer (some (a6.add (a1).toNat))),(19,46,.string (rdOf ByteArray.empty a2 a1)),(22,49,.pointer (some (a6.add (a1).toNat))),(23,50,.string (rdOf ByteArray.empty a2 a1)),(24,51,.int .i64 ((rdOf ByteArray.empty a2 a1).size:Int)),(25,52,.int .i64 ab),(26,53,.string ((rdOf ByteArray.empty a2 a1).extract ((ab):Int).toNat (rdOf ByteArray.empty a2 a1).size)),(27,54,.string ((⟨#[42]⟩:ByteArray)++((rdOf ByteArray.empty a2 a1).extract ((ab):Int).toNat (rdOf ByteArray.empty a2 a1).size))),(28,55,a5),(30,57,.int .i64 aa),(31,58,m31_),(32,59,.string (rdOf ByteArray.empty a8 aa)),(33,9,.string (rdOf ByteArray.empty a8 aa))]∧(Kd.R Kd.string 9 w' w.heap.size (fun _=>True) (.slice (some a6) a2.length aI) a2)∧(b 30=false→IsS173 w w' g458 a7 ag)∧(Below w.heap.size w w')∧(b 28=true→Kd.R Kd.string 9 w' w.heap.size (fun k_=>some k_≠(.slice (some a6) a2.length aI:Value).ownBlock) a5 a8)∧(b 28=true → ∃ c_,(a5:Value) = .slice (some adz_v474) a8.length c_)∧(b 30=true→IsS173 w w' g458 a7 aq)∧(b 31=true→(m31_:Value) = .pointer (some (adz_v474.add (aa).toNat)))) HT_.out HW_.out (by kernel_rfl) (by kernel_rfl) ?_ ?_ ?_
                   ·exact ⟨.bool false,⟨0,0,none⟩,.bool false,by simp only [putSel,Bool.false_eq_true,if_false],a4.out,fun _=>a3.out,HB.out,fun h_=>absurd h_ (by decide),fun h_=>absurd h_ (by decide),fun h_=>absurd h_ (by decide),fun h_=>absurd h_ (by decide)⟩
                   ·skip
                    clear HB a3 a4;refine steps_cons ?_ ?_
                    ·rintro b a w' ⟨a5,adz_v474,m31_,ha,Q_HO_7,Q_HI458,Q_HB,Q_HO475,Q_HA_HO475,Q_HI458_e30,Q_X31_⟩ hb_ hon hoff;refine ⟨_,rfl,fun K hK => ?_⟩
                     have e27:a.tmps[27]? = some (.slice (some a6) a2.length aI):=by rw [ha];exact (putSel_off rfl).trans rfl
                     have e28:a.tmps[28]? = some (.int .i64 a1):=by rw [ha];exact (putSel_off rfl).trans rfl
                     replace ha:=Aside0.mk ha;have a4:=Aside0.mk Q_HO_7;have HB:=Aside0.mk Q_HB;refine value_ (w1:=w') (v:=.pointer (some (a6.add (a1).toNat))) (by rfl) rfl ?_ ?_
                     ·go_simp;(try simp only [i64_w])
                      try rfl
                     refine hK.out _ _ ⟨a5,adz_v474,m31_,(by rw [ha.out];exact putSel_upk 0 hb_ rfl rfl rfl),Q_HO_7,Q_HI458,Q_HB,fun h0_=>absurd ((hoff 28 (by kernel_rfl)).symm.trans h0_) (by decide),fun h0_=>absurd ((hoff 28 (by kernel_rfl)).symm.trans h0_) (by decide),Q_HI458_e30,fun h0_=>absurd ((hoff 31 (by kernel_rfl)).symm.trans h0_) (by decide)⟩
                    refine steps_cons ?_ ?_
                    ·rintro b a w' ⟨a5,adz_v474,m31_,ha,Q_HO_7,Q_HI458,Q_HB,Q_HO475,Q_HA_HO475,Q_HI458_e30,Q_X31_⟩ hb_ hon hoff;refine ⟨_,rfl,fun K hK => ?_⟩
                     have e29:a.tmps[29]? = some (.pointer (some (a6.add (a1).toNat))):=by rw [ha];exact putSel_on (e:=(2,29,.pointer (some (a6.add (a1).toNat)))) 0 rfl rfl (hon 2 (by kernel_rfl)) rfl
                     replace ha:=Aside0.mk ha;have a4:=Aside0.mk Q_HO_7;have HB:=Aside0.mk Q_HB;obtain ⟨ad468_z,e468_z,hx468_0_z⟩:=Kd.at_string (Kd.R_reads' a4.out).2.2 a1 (of_eq_true ar) (of_eq_true au)
                     cases e468_z
                     have hs0_:w'.cell? (a6.add (a1).toNat)=some (.string (rdOf ByteArray.empty a2 a1)):=(by first|exact hx468_0_z|(have h_:=hx468_0_z;(try simp only [Int.reduceToNat,Nat.zero_mul,Nat.reduceMul,Nat.reduceEqDiff,Go.Addr.add,↓reduceIte,Addr.add_zero'] at h_);exact h_))
                     refine value_ (w1:=w') (v:=.string (rdOf ByteArray.empty a2 a1)) (by rfl) rfl ?_ ?_
                     ·go_simp;(try simp only [i64_w])
                      try rfl
                     refine hK.out _ _ ⟨a5,adz_v474,m31_,(by rw [ha.out];exact putSel_upk 1 hb_ rfl rfl rfl),Q_HO_7,Q_HI458,Q_HB,fun h0_=>absurd ((hoff 28 (by kernel_rfl)).symm.trans h0_) (by decide),fun h0_=>absurd ((hoff 28 (by kernel_rfl)).symm.trans h0_) (by decide),Q_HI458_e30,fun h0_=>absurd ((hoff 31 (by kernel_rfl)).symm.trans h0_) (by decide)⟩
                    refine steps_cons ?_ ?_
                    ·rintro b a w' ⟨a5,adz_v474,m31_,ha,Q_HO_7,Q_HI458,Q_HB,Q_HO475,Q_HA_HO475,Q_HI458_e30,Q_X31_⟩ hb_ hon hoff;refine ⟨_,rfl,fun K hK => ?_⟩
                     have e31:a.tmps[31]? = some (.slice (some a6) a2.length aI):=by rw [ha];exact (putSel_off rfl).trans rfl
                     have e32:a.tmps[32]? = some (.int .i64 a1):=by rw [ha];exact (putSel_off rfl).trans rfl
                     replace ha:=Aside0.mk ha;have a4:=Aside0.mk Q_HO_7;have HB:=Aside0.mk Q_HB;refine value_ (w1:=w') (v:=.pointer (some (a6.add (a1).toNat))) (by rfl) rfl ?_ ?_
                     ·go_simp;(try simp only [i64_w])
                      try rfl
                     refine hK.out _ _ ⟨a5,adz_v474,m31_,(by rw [ha.out];exact putSel_upk 2 hb_ rfl rfl rfl),Q_HO_7,Q_HI458,Q_HB,fun h0_=>absurd ((hoff 28 (by kernel_rfl)).symm.trans h0_) (by decide),fun h0_=>absurd ((hoff 28 (by kernel_rfl)).symm.trans h0_) (by decide),Q_HI458_e30,fun h0_=>absurd ((hoff 31 (by kernel_rfl)).symm.trans h0_) (by decide)⟩
                    refine steps_cons ?_ ?_
                    ·rintro b a w' ⟨a5,adz_v474,m31_,ha,Q_HO_7,Q_HI458,Q_HB,Q_HO475,Q_HA_HO475,Q_HI458_e30,Q_X31_⟩ hb_ hon hoff;refine ⟨_,rfl,fun K hK => ?_⟩
                     have e33:a.tmps[33]? = some (.pointer (some (a6.add (a1).toNat))):=by rw [ha];exact putSel_on (e:=(6,33,.pointer (some (a6.add (a1).toNat)))) 2 rfl rfl (hon 6 (by kernel_rfl)) rfl
                     replace ha:=Aside0.mk ha;have a4:=Aside0.mk Q_HO_7;have HB:=Aside0.mk Q_HB;obtain ⟨ad469_z,e469_z,hx469_0_z⟩:=Kd.at_string (Kd.R_reads' a4.out).2.2 a1 (of_eq_true av) (of_eq_true aw)
                     cases e469_z
                     have hs1_:w'.cell? (a6.add (a1).toNat)=some (.string (rdOf ByteArray.empty a2 a1)):=(by first|exact hx469_0_z|(have h_:=hx469_0_z;(try simp only [Int.reduceToNat,Nat.zero_mul,Nat.reduceMul,Nat.reduceEqDiff,Go.Addr.add,↓reduceIte,Addr.add_zero'] at h_);exact h_))
                     refine value_ (w1:=w') (v:=.string (rdOf ByteArray.empty a2 a1)) (by rfl) rfl ?_ ?_
                     ·go_simp;(try simp only [i64_w])
                      try rfl
                     refine hK.out _ _ ⟨a5,adz_v474,m31_,(by rw [ha.out];exact putSel_upk 3 hb_ rfl rfl rfl),Q_HO_7,Q_HI458,Q_HB,fun h0_=>absurd ((hoff 28 (by kernel_rfl)).symm.trans h0_) (by decide),fun h0_=>absurd ((hoff 28 (by kernel_rfl)).symm.trans h0_) (by decide),Q_HI458_e30,fun h0_=>absurd ((hoff 31 (by kernel_rfl)).symm.trans h0_) (by decide)⟩
                    refine steps_cons ?_ ?_
                    ·rintro b a w' ⟨a5,adz_v474,m31_,ha,Q_HO_7,Q_HI458,Q_HB,Q_HO475,Q_HA_HO475,Q_HI458_e30,Q_X31_⟩ hb_ hon hoff;refine ⟨_,rfl,fun K hK => ?_⟩
                     have e34:a.tmps[34]? = some (.string (rdOf ByteArray.empty a2 a1)):=by rw [ha];exact putSel_on (e:=(7,34,.string (rdOf ByteArray.empty a2 a1))) 3 rfl rfl (hon 7 (by kernel_rfl)) rfl
                     replace ha:=Aside0.mk ha;have a4:=Aside0.mk Q_HO_7;have HB:=Aside0.mk Q_HB;refine value_ (w1:=w') (v:=.string ((rdOf ByteArray.empty a2 a1).extract 0 1)) (by rfl) rfl ?_ ?_
                     ·go_simp;(try simp only [i64_w])
                      try rfl
                     refine hK.out _ _ ⟨a5,adz_v474,m31_,(by rw [ha.out];exact putSel_upk 4 hb_ rfl rfl rfl),Q_HO_7,Q_HI458,Q_HB,fun h0_=>absurd ((hoff 28 (by kernel_rfl)).symm.trans h0_) (by decide),fun h0_=>absurd ((hoff 28 (by kernel_rfl)).symm.trans h0_) (by decide),Q_HI458_e30,fun h0_=>absurd ((hoff 31 (by kernel_rfl)).symm.trans h0_) (by decide)⟩
                    refine steps_cons ?_ ?_
                    ·rintro b a w' ⟨a5,adz_v474,m31_,ha,Q_HO_7,Q_HI458,Q_HB,Q_HO475,Q_HA_HO475,Q_HI458_e30,Q_X31_⟩ hb_ hon hoff;refine ⟨_,rfl,fun K hK => ?_⟩
                     have e35:a.tmps[35]? = some (.string ((rdOf ByteArray.empty a2 a1).extract 0 1)):=by rw [ha];exact putSel_on (e:=(8,35,.string ((rdOf ByteArray.empty a2 a1).extract 0 1))) 4 rfl rfl (hon 8 (by kernel_rfl)) rfl
                     replace ha:=Aside0.mk ha;have a4:=Aside0.mk Q_HO_7;have HB:=Aside0.mk Q_HB;refine value_ (w1:=w') (v:=.string (((rdOf ByteArray.empty a2 a1).extract 0 1)++(⟨#[42]⟩:ByteArray))) (by rfl) rfl ?_ ?_
                     ·go_simp;(try simp only [i64_w])
                      try rfl
                     refine hK.out _ _ ⟨a5,adz_v474,m31_,(by rw [ha.out];exact putSel_upk 5 hb_ rfl rfl rfl),Q_HO_7,Q_HI458,Q_HB,fun h0_=>absurd ((hoff 28 (by kernel_rfl)).symm.trans h0_) (by decide),fun h0_=>absurd ((hoff 28 (by kernel_rfl)).symm.trans h0_) (by decide),Q_HI458_e30,fun h0_=>absurd ((hoff 31 (by kernel_rfl)).symm.trans h0_) (by decide)⟩
                    refine steps_cons ?_ ?_
                    ·rintro b a w' ⟨a5,adz_v474,m31_,ha,Q_HO_7,Q_HI458,Q_HB,Q_HO475,Q_HA_HO475,Q_HI458_e30,Q_X31_⟩ hb_ hon hoff;refine ⟨_,rfl,fun K hK => ?_⟩
                     have e37:a.tmps[37]? = some (.slice (some a6) a2.length aI):=by rw [ha];exact (putSel_off rfl).trans rfl
                     have e38:a.tmps[38]? = some (.int .i64 a1):=by rw [ha];exact (putSel_off rfl).trans rfl
                     replace ha:=Aside0.mk ha;have a4:=Aside0.mk Q_HO_7;have HB:=Aside0.mk Q_HB;refine value_ (w1:=w') (v:=.pointer (some (a6.add (a1).toNat))) (by rfl) rfl ?_ ?_
                     ·go_simp;(try simp only [i64_w])
                      try rfl
                     refine hK.out _ _ ⟨a5,adz_v474,m31_,(by rw [ha.out];exact putSel_upk 6 hb_ rfl rfl rfl),Q_HO_7,Q_HI458,Q_HB,fun h0_=>absurd ((hoff 28 (by kernel_rfl)).symm.trans h0_) (by decide),fun h0_=>absurd ((hoff 28 (by kernel_rfl)).symm.trans h0_) (by decide),Q_HI458_e30,fun h0_=>absurd ((hoff 31 (by kernel_rfl)).symm.trans h0_) (by decide)⟩
                    refine steps_cons ?_ ?_
                    ·rintro b a w' ⟨a5,adz_v474,m31_,ha,Q_HO_7,Q_HI458,Q_HB,Q_HO475,Q_HA_HO475,Q_HI458_e30,Q_X31_⟩ hb_ hon hoff;refine ⟨_,rfl,fun K hK => ?_⟩
                     have e39:a.tmps[39]? = some (.pointer (some (a6.add (a1).toNat))):=by rw [ha];exact putSel_on (e:=(12,39,.pointer (some (a6.add (a1).toNat)))) 6 rfl rfl (hon 12 (by kernel_rfl)) rfl
                     replace ha:=Aside0.mk ha;have a4:=Aside0.mk Q_HO_7;have HB:=Aside0.mk Q_HB;obtain ⟨ad470_z,e470_z,hx470_0_z⟩:=Kd.at_string (Kd.R_reads' a4.out).2.2 a1 (of_eq_true ax) (of_eq_true ay)
                     cases e470_z
                     have hs2_:w'.cell? (a6.add (a1).toNat)=some (.string (rdOf ByteArray.empty a2 a1)):=(by first|exact hx470_0_z|(have h_:=hx470_0_z;(try simp only [Int.reduceToNat,Nat.zero_mul,Nat.reduceMul,Nat.reduceEqDiff,Go.Addr.add,↓reduceIte,Addr.add_zero'] at h_);exact h_))
                     refine value_ (w1:=w') (v:=.string (rdOf ByteArray.empty a2 a1)) (by rfl) rfl ?_ ?_
                     ·go_simp;(try simp only [i64_w])
                      try rfl
                     refine hK.out _ _ ⟨a5,adz_v474,m31_,(by rw [ha.out];exact putSel_upk 7 hb_ rfl rfl rfl),Q_HO_7,Q_HI458,Q_HB,fun h0_=>absurd ((hoff 28 (by kernel_rfl)).symm.trans h0_) (by decide),fun h0_=>absurd ((hoff 28 (by kernel_rfl)).symm.trans h0_) (by decide),Q_HI458_e30,fun h0_=>absurd ((hoff 31 (by kernel_rfl)).symm.trans h0_) (by decide)⟩
                    refine steps_cons ?_ ?_
                    ·rintro b a w' ⟨a5,adz_v474,m31_,ha,Q_HO_7,Q_HI458,Q_HB,Q_HO475,Q_HA_HO475,Q_HI458_e30,Q_X31_⟩ hb_ hon hoff;refine ⟨_,rfl,fun K hK => ?_⟩
                     have e40:a.tmps[40]? = some (.string (rdOf ByteArray.empty a2 a1)):=by rw [ha];exact putSel_on (e:=(13,40,.string (rdOf ByteArray.empty a2 a1))) 7 rfl rfl (hon 13 (by kernel_rfl)) rfl
                     replace ha:=Aside0.mk ha;have a4:=Aside0.mk Q_HO_7;have HB:=Aside0.mk Q_HB;refine value_ (w1:=w') (v:=.string ((rdOf ByteArray.empty a2 a1).extract 1 (rdOf ByteArray.empty a2 a1).size)) (by rfl) rfl ?_ ?_
                     ·go_simp;(try simp only [i64_w])
                      try rfl
                     refine hK.out _ _ ⟨a5,adz_v474,m31_,(by rw [ha.out];exact putSel_upk 8 hb_ rfl rfl rfl),Q_HO_7,Q_HI458,Q_HB,fun h0_=>absurd ((hoff 28 (by kernel_rfl)).symm.trans h0_) (by decide),fun h0_=>absurd ((hoff 28 (by kernel_rfl)).symm.trans h0_) (by decide),Q_HI458_e30,fun h0_=>absurd ((hoff 31 (by kernel_rfl)).symm.trans h0_) (by decide)⟩
                    refine steps_cons ?_ ?_
                    ·rintro b a w' ⟨a5,adz_v474,m31_,ha,Q_HO_7,Q_HI458,Q_HB,Q_HO475,Q_HA_HO475,Q_HI458_e30,Q_X31_⟩ hb_ hon hoff;refine ⟨_,rfl,fun K hK => ?_⟩
                     have e41:a.tmps[41]? = some (.string ((rdOf ByteArray.empty a2 a1).extract 1 (rdOf ByteArray.empty a2 a1).size)):=by rw [ha];exact putSel_on (e:=(14,41,.string ((rdOf ByteArray.empty a2 a1).extract 1 (rdOf ByteArray.empty a2 a1).size))) 8 rfl rfl (hon 14 (by kernel_rfl)) rfl
                     replace ha:=Aside0.mk ha;have a4:=Aside0.mk Q_HO_7;have HB:=Aside0.mk Q_HB;refine value_ (w1:=w') (v:=.string ((⟨#[63]⟩:ByteArray)++((rdOf ByteArray.empty a2 a1).extract 1 (rdOf ByteArray.empty a2 a1).size))) (by rfl) rfl ?_ ?_
                     ·go_simp;(try simp only [i64_w])
                      try rfl
                     refine hK.out _ _ ⟨a5,adz_v474,m31_,(by rw [ha.out];exact putSel_upk 9 hb_ rfl rfl rfl),Q_HO_7,Q_HI458,Q_HB,fun h0_=>absurd ((hoff 28 (by kernel_rfl)).symm.trans h0_) (by decide),fun h0_=>absurd ((hoff 28 (by kernel_rfl)).symm.trans h0_) (by decide),Q_HI458_e30,fun h0_=>absurd ((hoff 31 (by kernel_rfl)).symm.trans h0_) (by decide)⟩
                    refine steps_cons ?_ ?_
                    ·rintro b a w' ⟨a5,adz_v474,m31_,ha,Q_HO_7,Q_HI458,Q_HB,Q_HO475,Q_HA_HO475,Q_HI458_e30,Q_X31_⟩ hb_ hon hoff;refine ⟨_,rfl,fun K hK => ?_⟩
                     have e43:a.tmps[43]? = some (.slice (some a6) a2.length aI):=by rw [ha];exact (putSel_off rfl).trans rfl
                     have e44:a.tmps[44]? = some (.int .i64 a1):=by rw [ha];exact (putSel_off rfl).trans rfl
                     replace ha:=Aside0.mk ha;have a4:=Aside0.mk Q_HO_7;have HB:=Aside0.mk Q_HB;refine value_ (w1:=w') (v:=.pointer (some (a6.add (a1).toNat))) (by rfl) rfl ?_ ?_
                     ·go_simp;(try simp only [i64_w])
                      try rfl
                     refine hK.out _ _ ⟨a5,adz_v474,m31_,(by rw [ha.out];exact putSel_upk 10 hb_ rfl rfl rfl),Q_HO_7,Q_HI458,Q_HB,fun h0_=>absurd ((hoff 28 (by kernel_rfl)).symm.trans h0_) (by decide),fun h0_=>absurd ((hoff 28 (by kernel_rfl)).symm.trans h0_) (by decide),Q_HI458_e30,fun h0_=>absurd ((hoff 31 (by kernel_rfl)).symm.trans h0_) (by decide)⟩
                    refine steps_cons ?_ ?_
                    ·rintro b a w' ⟨a5,adz_v474,m31_,ha,Q_HO_7,Q_HI458,Q_HB,Q_HO475,Q_HA_HO475,Q_HI458_e30,Q_X31_⟩ hb_ hon hoff;refine ⟨_,rfl,fun K hK => ?_⟩
                     have e45:a.tmps[45]? = some (.pointer (some (a6.add (a1).toNat))):=by rw [ha];exact putSel_on (e:=(18,45,.pointer (some (a6.add (a1).toNat)))) 10 rfl rfl (hon 18 (by kernel_rfl)) rfl
                     replace ha:=Aside0.mk ha;have a4:=Aside0.mk Q_HO_7;have HB:=Aside0.mk Q_HB;obtain ⟨ad471_z,e471_z,hx471_0_z⟩:=Kd.at_string (Kd.R_reads' a4.out).2.2 a1 (of_eq_true az) (of_eq_true aA)
                     cases e471_z
                     have hs3_:w'.cell? (a6.add (a1).toNat)=some (.string (rdOf ByteArray.empty a2 a1)):=(by first|exact hx471_0_z|(have h_:=hx471_0_z;(try simp only [Int.reduceToNat,Nat.zero_mul,Nat.reduceMul,Nat.reduceEqDiff,Go.Addr.add,↓reduceIte,Addr.add_zero'] at h_);exact h_))
                     refine value_ (w1:=w') (v:=.string (rdOf ByteArray.empty a2 a1)) (by rfl) rfl ?_ ?_
                     ·go_simp;(try simp only [i64_w])
                      try rfl
                     refine hK.out _ _ ⟨a5,adz_v474,m31_,(by rw [ha.out];exact putSel_upk 11 hb_ rfl rfl rfl),Q_HO_7,Q_HI458,Q_HB,fun h0_=>absurd ((hoff 28 (by kernel_rfl)).symm.trans h0_) (by decide),fun h0_=>absurd ((hoff 28 (by kernel_rfl)).symm.trans h0_) (by decide),Q_HI458_e30,fun h0_=>absurd ((hoff 31 (by kernel_rfl)).symm.trans h0_) (by decide)⟩
                    refine steps_cons ?_ ?_
                    ·rintro b a w' ⟨a5,adz_v474,m31_,ha,Q_HO_7,Q_HI458,Q_HB,Q_HO475,Q_HA_HO475,Q_HI458_e30,Q_X31_⟩ hb_ hon hoff;refine ⟨_,rfl,fun K hK => ?_⟩
                     have e47:a.tmps[47]? = some (.slice (some a6) a2.length aI):=by rw [ha];exact (putSel_off rfl).trans rfl
                     have e48:a.tmps[48]? = some (.int .i64 a1):=by rw [ha];exact (putSel_off rfl).trans rfl
                     replace ha:=Aside0.mk ha;have a4:=Aside0.mk Q_HO_7;have HB:=Aside0.mk Q_HB;refine value_ (w1:=w') (v:=.pointer (some (a6.add (a1).toNat))) (by rfl) rfl ?_ ?_
                     ·go_simp;(try simp only [i64_w])
                      try rfl
                     refine hK.out _ _ ⟨a5,adz_v474,m31_,(by rw [ha.out];exact putSel_upk 12 hb_ rfl rfl rfl),Q_HO_7,Q_HI458,Q_HB,fun h0_=>absurd ((hoff 28 (by kernel_rfl)).symm.trans h0_) (by decide),fun h0_=>absurd ((hoff 28 (by kernel_rfl)).symm.trans h0_) (by decide),Q_HI458_e30,fun h0_=>absurd ((hoff 31 (by kernel_rfl)).symm.trans h0_) (by decide)⟩
                    refine steps_cons ?_ ?_
                    ·rintro b a w' ⟨a5,adz_v474,m31_,ha,Q_HO_7,Q_HI458,Q_HB,Q_HO475,Q_HA_HO475,Q_HI458_e30,Q_X31_⟩ hb_ hon hoff;refine ⟨_,rfl,fun K hK => ?_⟩
                     have e49:a.tmps[49]? = some (.pointer (some (a6.add (a1).toNat))):=by rw [ha];exact putSel_on (e:=(22,49,.pointer (some (a6.add (a1).toNat)))) 12 rfl rfl (hon 22 (by kernel_rfl)) rfl
                     replace ha:=Aside0.mk ha;have a4:=Aside0.mk Q_HO_7;have HB:=Aside0.mk Q_HB;obtain ⟨ad472_z,e472_z,hx472_0_z⟩:=Kd.at_string (Kd.R_reads' a4.out).2.2 a1 (of_eq_true aB) (of_eq_true aC)
                     cases e472_z
                     have hs4_:w'.cell? (a6.add (a1).toNat)=some (.string (rdOf ByteArray.empty a2 a1)):=(by first|exact hx472_0_z|(have h_:=hx472_0_z;(try simp only [Int.reduceToNat,Nat.zero_mul,Nat.reduceMul,Nat.reduceEqDiff,Go.Addr.add,↓reduceIte,Addr.add_zero'] at h_);exact h_))
                     refine value_ (w1:=w') (v:=.string (rdOf ByteArray.empty a2 a1)) (by rfl) rfl ?_ ?_
                     ·go_simp;(try simp only [i64_w])
                      try rfl
                     refine hK.out _ _ ⟨a5,adz_v474,m31_,(by rw [ha.out];exact putSel_upk 13 hb_ rfl rfl rfl),Q_HO_7,Q_HI458,Q_HB,fun h0_=>absurd ((hoff 28 (by kernel_rfl)).symm.trans h0_) (by decide),fun h0_=>absurd ((hoff 28 (by kernel_rfl)).symm.trans h0_) (by decide),Q_HI458_e30,fun h0_=>absurd ((hoff 31 (by kernel_rfl)).symm.trans h0_) (by decide)⟩
                    refine steps_cons ?_ ?_
                    ·rintro b a w' ⟨a5,adz_v474,m31_,ha,Q_HO_7,Q_HI458,Q_HB,Q_HO475,Q_HA_HO475,Q_HI458_e30,Q_X31_⟩ hb_ hon hoff;refine ⟨_,rfl,fun K hK => ?_⟩
                     have e50:a.tmps[50]? = some (.string (rdOf ByteArray.empty a2 a1)):=by rw [ha];exact putSel_on (e:=(23,50,.string (rdOf ByteArray.empty a2 a1))) 13 rfl rfl (hon 23 (by kernel_rfl)) rfl
                     replace ha:=Aside0.mk ha;have a4:=Aside0.mk Q_HO_7;have HB:=Aside0.mk Q_HB;refine value_ (w1:=w') (v:=.int .i64 ((rdOf ByteArray.empty a2 a1).size:Int)) (by rfl) rfl ?_ ?_
                     ·go_simp;(try simp only [i64_w])
                      try rfl
                     refine hK.out _ _ ⟨a5,adz_v474,m31_,(by rw [ha.out];exact putSel_upk 14 hb_ rfl rfl rfl),Q_HO_7,Q_HI458,Q_HB,fun h0_=>absurd ((hoff 28 (by kernel_rfl)).symm.trans h0_) (by decide),fun h0_=>absurd ((hoff 28 (by kernel_rfl)).symm.trans h0_) (by decide),Q_HI458_e30,fun h0_=>absurd ((hoff 31 (by kernel_rfl)).symm.trans h0_) (by decide)⟩
                    refine steps_cons ?_ ?_
                    ·rintro b a w' ⟨a5,adz_v474,m31_,ha,Q_HO_7,Q_HI458,Q_HB,Q_HO475,Q_HA_HO475,Q_HI458_e30,Q_X31_⟩ hb_ hon hoff;refine ⟨_,rfl,fun K hK => ?_⟩
                     have e51:a.tmps[51]? = some (.int .i64 ((rdOf ByteArray.empty a2 a1).size:Int)):=by rw [ha];exact putSel_on (e:=(24,51,.int .i64 ((rdOf ByteArray.empty a2 a1).size:Int))) 14 rfl rfl (hon 24 (by kernel_rfl)) rfl
                     replace ha:=Aside0.mk ha;have a4:=Aside0.mk Q_HO_7;have HB:=Aside0.mk Q_HB;refine value_ (w1:=w') (v:=.int .i64 ab) (by rfl) rfl ?_ ?_
                     ·go_simp;(try simp only [i64_w])
                      try rfl
                     refine hK.out _ _ ⟨a5,adz_v474,m31_,(by rw [ha.out];exact putSel_upk 15 hb_ rfl rfl rfl),Q_HO_7,Q_HI458,Q_HB,fun h0_=>absurd ((hoff 28 (by kernel_rfl)).symm.trans h0_) (by decide),fun h0_=>absurd ((hoff 28 (by kernel_rfl)).symm.trans h0_) (by decide),Q_HI458_e30,fun h0_=>absurd ((hoff 31 (by kernel_rfl)).symm.trans h0_) (by decide)⟩
                    refine steps_cons ?_ ?_
                    ·rintro b a w' ⟨a5,adz_v474,m31_,ha,Q_HO_7,Q_HI458,Q_HB,Q_HO475,Q_HA_HO475,Q_HI458_e30,Q_X31_⟩ hb_ hon hoff;refine ⟨_,rfl,fun K hK => ?_⟩
                     have e46:a.tmps[46]? = some (.string (rdOf ByteArray.empty a2 a1)):=by rw [ha];exact putSel_on (e:=(19,46,.string (rdOf ByteArray.empty a2 a1))) 11 rfl rfl (hon 19 (by kernel_rfl)) rfl
                     have e52:a.tmps[52]? = some (.int .i64 ab):=by rw [ha];exact putSel_on (e:=(25,52,.int .i64 ab)) 15 rfl rfl (hon 25 (by kernel_rfl)) rfl
                     replace ha:=Aside0.mk ha;have a4:=Aside0.mk Q_HO_7;have HB:=Aside0.mk Q_HB;refine value_ (w1:=w') (v:=.string ((rdOf ByteArray.empty a2 a1).extract ((ab):Int).toNat (rdOf ByteArray.empty a2 a1).size)) (by rfl) rfl ?_ ?_
                     ·go_simp;(try simp only [i64_w])
                      try rfl
                     refine hK.out _ _ ⟨a5,adz_v474,m31_,(by rw [ha.out];exact putSel_upk 16 hb_ rfl rfl rfl),Q_HO_7,Q_HI458,Q_HB,fun h0_=>absurd ((hoff 28 (by kernel_rfl)).symm.trans h0_) (by decide),fun h0_=>absurd ((hoff 28 (by kernel_rfl)).symm.trans h0_) (by decide),Q_HI458_e30,fun h0_=>absurd ((hoff 31 (by kernel_rfl)).symm.trans h0_) (by decide)⟩
                    refine steps_cons ?_ ?_
                    ·rintro b a w' ⟨a5,adz_v474,m31_,ha,Q_HO_7,Q_HI458,Q_HB,Q_HO475,Q_HA_HO475,Q_HI458_e30,Q_X31_⟩ hb_ hon hoff;refine ⟨_,rfl,fun K hK => ?_⟩
                     have e53:a.tmps[53]? = some (.string ((rdOf ByteArray.empty a2 a1).extract ((ab):Int).toNat (rdOf ByteArray.empty a2 a1).size)):=by rw [ha];exact putSel_on (e:=(26,53,.string ((rdOf ByteArray.empty a2 a1).extract ((ab):Int).toNat (rdOf ByteArray.empty a2 a1).size))) 16 rfl rfl (hon 26 (by kernel_rfl)) rfl
                     replace ha:=Aside0.mk ha;have a4:=Aside0.mk Q_HO_7;have HB:=Aside0.mk Q_HB;refine value_ (w1:=w') (v:=.string ((⟨#[42]⟩:ByteArray)++((rdOf ByteArray.empty a2 a1).extract ((ab):Int).toNat (rdOf ByteArray.empty a2 a1).size))) (by rfl) rfl ?_ ?_
                     ·go_simp;(try simp only [i64_w])
                      try rfl
                     refine hK.out _ _ ⟨a5,adz_v474,m31_,(by rw [ha.out];exact putSel_upk 17 hb_ rfl rfl rfl),Q_HO_7,Q_HI458,Q_HB,fun h0_=>absurd ((hoff 28 (by kernel_rfl)).symm.trans h0_) (by decide),fun h0_=>absurd ((hoff 28 (by kernel_rfl)).symm.trans h0_) (by decide),Q_HI458_e30,fun h0_=>absurd ((hoff 31 (by kernel_rfl)).symm.trans h0_) (by decide)⟩
                    refine steps_cons ?_ ?_
                    ·rintro b a w' ⟨a5,adz_v474,m31_,ha,Q_HO_7,Q_HI458,Q_HB,Q_HO475,Q_HA_HO475,Q_HI458_e30,Q_X31_⟩ hb_ hon hoff;refine ⟨_,rfl,fun K hK => ?_⟩
                     have e30:a.tmps[30]? = some (.string (rdOf ByteArray.empty a2 a1)):=by rw [ha];exact putSel_on (e:=(3,30,.string (rdOf ByteArray.empty a2 a1))) 1 rfl rfl (hon 3 (by kernel_rfl)) rfl
                     have e36:a.tmps[36]? = some (.string (((rdOf ByteArray.empty a2 a1).extract 0 1)++(⟨#[42]⟩:ByteArray))):=by rw [ha];exact putSel_on (e:=(9,36,.string (((rdOf ByteArray.empty a2 a1).extract 0 1)++(⟨#[42]⟩:ByteArray)))) 5 rfl rfl (hon 9 (by kernel_rfl)) rfl
                     have e42:a.tmps[42]? = some (.string ((⟨#[63]⟩:ByteArray)++((rdOf ByteArray.empty a2 a1).extract 1 (rdOf ByteArray.empty a2 a1).size))):=by rw [ha];exact putSel_on (e:=(15,42,.string ((⟨#[63]⟩:ByteArray)++((rdOf ByteArray.empty a2 a1).extract 1 (rdOf ByteArray.empty a2 a1).size)))) 9 rfl rfl (hon 15 (by kernel_rfl)) rfl
                     have e54:a.tmps[54]? = some (.string ((⟨#[42]⟩:ByteArray)++((rdOf ByteArray.empty a2 a1).extract ((ab):Int).toNat (rdOf ByteArray.empty a2 a1).size))):=by rw [ha];exact putSel_on (e:=(27,54,.string ((⟨#[42]⟩:ByteArray)++((rdOf ByteArray.empty a2 a1).extract ((ab):Int).toNat (rdOf ByteArray.empty a2 a1).size)))) 17 rfl rfl (hon 27 (by kernel_rfl)) rfl
                     replace ha:=Aside0.mk ha;have a4:=Aside0.mk Q_HO_7;have HB:=Aside0.mk Q_HB;refine Kd.R_lit_step Kd.string _ 9 ?hg (N:=55) ?hd (xs:=([rdOf ByteArray.empty a2 a1,(⟨#[42]⟩:ByteArray),((rdOf ByteArray.empty a2 a1).extract 0 1)++(⟨#[42]⟩:ByteArray),(⟨#[42,42]⟩:ByteArray),(⟨#[63]⟩:ByteArray)++((rdOf ByteArray.empty a2 a1).extract 1 (rdOf ByteArray.empty a2 a1).size),(⟨#[42]⟩:ByteArray)++((rdOf ByteArray.empty a2 a1).extract ((ab):Int).toNat (rdOf ByteArray.empty a2 a1).size)]:List ByteArray)) (inner:=[.string (rdOf ByteArray.empty a2 a1),.string (⟨#[42]⟩:ByteArray),.string (((rdOf ByteArray.empty a2 a1).extract 0 1)++(⟨#[42]⟩:ByteArray)),.string (⟨#[42,42]⟩:ByteArray),.string ((⟨#[63]⟩:ByteArray)++((rdOf ByteArray.empty a2 a1).extract 1 (rdOf ByteArray.empty a2 a1).size)),.string ((⟨#[42]⟩:ByteArray)++((rdOf ByteArray.empty a2 a1).extract ((ab):Int).toNat (rdOf ByteArray.empty a2 a1).size))]) (ok:=fun _=>True) (okp:=fun _=>True) ?hr ?hp (fun _ hk=>hk) trivial (Below.refl _ _) (Nat.le_refl _) (by simp) ?_;(case hd=>rfl);(case hg=>rfl);(case hr=>first|(go_simp;done)|(go_simp;rfl));(case hp=>exact (Reps.one (show Kd.M Kd.string _ _ _ (rdOf ByteArray.empty a2 a1) [.string (rdOf ByteArray.empty a2 a1)] from rfl) (Reps.one (show Kd.M Kd.string _ _ _ (⟨#[42]⟩:ByteArray) [.string (⟨#[42]⟩:ByteArray)] from rfl) (Reps.one (show Kd.M Kd.string _ _ _ (((rdOf ByteArray.empty a2 a1).extract 0 1)++(⟨#[42]⟩:ByteArray)) [.string (((rdOf ByteArray.empty a2 a1).extract 0 1)++(⟨#[42]⟩:ByteArray))] from rfl) (Reps.one (show Kd.M Kd.string _ _ _ (⟨#[42,42]⟩:ByteArray) [.string (⟨#[42,42]⟩:ByteArray)] from rfl) (Reps.one (show Kd.M Kd.string _ _ _ ((⟨#[63]⟩:ByteArray)++((rdOf ByteArray.empty a2 a1).extract 1 (rdOf ByteArray.empty a2 a1).size)) [.string ((⟨#[63]⟩:ByteArray)++((rdOf ByteArray.empty a2 a1).extract 1 (rdOf ByteArray.empty a2 a1).size))] from rfl) (Reps.one (show Kd.M Kd.string _ _ _ ((⟨#[42]⟩:ByteArray)++((rdOf ByteArray.empty a2 a1).extract ((ab):Int).toNat (rdOf ByteArray.empty a2 a1).size)) [.string ((⟨#[42]⟩:ByteArray)++((rdOf ByteArray.empty a2 a1).extract ((ab):Int).toNat (rdOf ByteArray.empty a2 a1).size))] from rfl) (Reps.none _ _))))))));intro a5 bz ho34 hb hg_ hnew_;clear hg_ hnew_;(first|rw [←b1.out] at ho34|(simp only [Int.reduceToNat] at ho34;rw [←b1.out] at ho34));have ao:=Aside0.mk (Kd.R_elder' (kr a4.out) (Kd.R_base ho34) hb);have ap:=Aside0.mk (Kd.R_lower (Kd.R_new' ho34 (Kd.R_lt (kr a4.out))) (below_size (be HB.out)));have bg:=Aside0.mk (below_step (be HB.out) hb)
                     have z_HI458:=fun (h0_:b 30=false)=>(show IsS173 w bz g458 a7 ag from by first|exact (IsS173.below (by repeat (first|(with_reducible first|exact (Q_HI458 h0_)|apply IsS173.alloc|apply IsS173.drewN|apply IsS173.drew|apply IsS173.set_1)|exact (Q_HI458 h0_))) hb))
                     have z_HI458_e30:=fun (h0_:b 30=true)=>(show IsS173 w bz g458 a7 aq from by first|exact (IsS173.below (by repeat (first|(with_reducible first|exact (Q_HI458_e30 h0_)|apply IsS173.alloc|apply IsS173.drewN|apply IsS173.drew|apply IsS173.set_1)|exact (Q_HI458_e30 h0_))) hb))
                     clear a4;clear HB;have a4:=ao;have ai:=ap;have HB:=bg;clear ao ap bg;clear hb ho34;obtain ⟨Ao35,cC,cD⟩:=Kd.R_slice ai.out;subst cD;obtain ⟨ado35,fo35,_⟩:=Kd.at_string (Kd.R_reads' ai.out).2.2 0 (by decide) (by rw [b1.out];simp)
                     cases fo35
                     refine hK.out _ _ ⟨.slice (some ado35) a8.length cC,ado35,m31_,(by rw [ha.out];exact putSel_upk 18 hb_ rfl rfl rfl),(by (with_reducible repeat (first|apply Kd.R_alloc|apply Kd.R_drewN|apply Kd.R_drew));exact Kd.R_mono a4.out (fun _ hk=>by first|exact hk.2|trivial)),z_HI458,(be HB.out),fun _=>(by (with_reducible repeat (first|apply Kd.R_alloc|apply Kd.R_drewN|apply Kd.R_drew));exact Kd.R_mono ai.out (fun _ hk=>by first|exact hk.2|trivial)),fun _=>⟨_,rfl⟩,z_HI458_e30,fun h0_=>absurd ((hoff 31 (by kernel_rfl)).symm.trans h0_) (by decide)⟩
                    refine steps_cons ?_ ?_
                    ·rintro b a w' ⟨a5,adz_v474,m31_,ha,Q_HO_7,Q_HI458,Q_HB,Q_HO475,Q_HA_HO475,Q_HI458_e30,Q_X31_⟩ hb_ hon hoff;refine ⟨_,rfl,fun K hK => ?_⟩
                     have e56:a.tmps[56]? = some (.pointer (some ⟨g458,0,none⟩)):=by rw [ha];exact (putSel_off rfl).trans rfl
                     replace ha:=Aside0.mk ha;have a4:=Aside0.mk Q_HO_7;have a3:=Aside0.mk (Q_HI458 hb_);have HB:=Aside0.mk Q_HB;refine goes_ Tryd.func66 (by kernel_rfl) rfl #[.pointer (some ⟨g458,0,none⟩),.int .i64 6] (by rfl) rfl rfl (by first|(simp only [List.map_toArray,List.map_cons,List.map_nil,Act.eval,Array.getD_eq_getD_getElem?,Option.getD_some,e56];done)|(simp only [List.map_toArray,List.map_cons,List.map_nil,Act.eval,Array.getD_eq_getD_getElem?,Option.getD_some,e56];rfl)) ?_;(with_reducible refine (spec_l1Rd_pick.calls k1 g458 a7 ag 6 aa aq w _ ?side1 ?side2 A25.out).mono ?_);(case side1=>exact iq173 a3.out);(case side2=>exact bq173 HB.out a3.out);rintro e bz ⟨rfl,hi,hb,hk⟩;refine ⟨_,rfl,?_⟩;have ao:=Aside0.mk (ra173 (iq173 a3.out) (kr a4.out) hk);have ap:=Aside0.mk (hb);have bh:=Aside0.mk (hi)
                     have z_HO475:=fun (h0_:b 28=true)=>(show Kd.R Kd.string 9 bz w.heap.size (fun k_=>some k_≠(.slice (some a6) a2.length aI:Value).ownBlock) a5 a8 from by first|exact (Kd.R_mono (Kd.R_keep (IsS173.apart (show IsS173 w _ g458 a7 ag from iq173 a3.out) (by (with_reducible repeat (first|apply Kd.R_alloc|apply Kd.R_drewN|apply Kd.R_drew));exact (Q_HO475 h0_)) (by decide)) hk (fun _ h=>h.2)) (fun _ h=>h.1))|exact Kd.R_mono (Kd.R_mono (Kd.R_keep (IsS173.apart (show IsS173 w _ g458 a7 ag from iq173 a3.out) (by (with_reducible repeat (first|apply Kd.R_alloc|apply Kd.R_drewN|apply Kd.R_drew));exact (Q_HO475 h0_)) (by decide)) hk (fun _ h=>h.2)) (fun _ h=>h.1)) (fun _ h_=>by first|trivial|exact h_|exact h_.1))
                     clear a4;clear HB;clear a3;have a4:=ao;have HB:=ap;have a3:=bh;clear ao ap bh;(try clear hb);(try clear hb2);(try clear hk);(try clear hi);refine hK.out _ _ ⟨a5,adz_v474,m31_,(by rw [ha.out];exact putSel_upk 19 hb_ rfl rfl rfl),(kr a4.out),fun h0_=>absurd ((up_self b 30).symm.trans h0_) (by decide),(bq173 HB.out a3.out),z_HO475,Q_HA_HO475,fun _=>(iq173 a3.out),fun h0_=>absurd ((hoff 31 (by kernel_rfl)).symm.trans h0_) (by decide)⟩
                    refine steps_cons ?_ ?_
                    ·rintro b a w' ⟨a5,adz_v474,m31_,ha,Q_HO_7,Q_HI458,Q_HB,Q_HO475,Q_HA_HO475,Q_HI458_e30,Q_X31_⟩ hb_ hon hoff;refine ⟨_,rfl,fun K hK => ?_⟩
                     have e55:a.tmps[55]? = some (a5):=by rw [ha];exact putSel_on (e:=(28,55,a5)) 18 rfl rfl (hon 28 (by kernel_rfl)) rfl
                     have e57:a.tmps[57]? = some (.int .i64 aa):=by rw [ha];exact putSel_on (e:=(30,57,.int .i64 aa)) 19 rfl rfl (hon 30 (by kernel_rfl)) rfl
                     replace ha:=Aside0.mk ha;have a4:=Aside0.mk Q_HO_7;have HB:=Aside0.mk Q_HB;have ai:=Aside0.mk (Q_HO475 (hon 28 (by kernel_rfl)));have HA_HO475:=Aside0.mk (Q_HA_HO475 (hon 28 (by kernel_rfl)));have a3:=Aside0.mk (Q_HI458_e30 (hon 30 (by kernel_rfl)));obtain ⟨c_,hv_⟩:=HA_HO475.out
                     rw [hv_] at e55
                     refine value_ (w1:=w') (v:=.pointer (some (adz_v474.add (aa).toNat))) (by rfl) rfl ?_ ?_
                     ·go_simp;(try simp only [i64_w])
                      try rfl
                     refine hK.out _ _ ⟨a5,adz_v474,(.pointer (some (adz_v474.add (aa).toNat))),(by rw [ha.out];exact putSel_upk 20 hb_ rfl rfl rfl),Q_HO_7,fun h0_=>absurd ((hon 30 (by kernel_rfl)).symm.trans h0_) (by decide),Q_HB,Q_HO475,Q_HA_HO475,Q_HI458_e30,fun _=>rfl⟩
                    refine steps_cons ?_ ?_
                    ·rintro b a w' ⟨a5,adz_v474,m31_,ha,Q_HO_7,Q_HI458,Q_HB,Q_HO475,Q_HA_HO475,Q_HI458_e30,Q_X31_⟩ hb_ hon hoff;refine ⟨_,rfl,fun K hK => ?_⟩
                     have e58:a.tmps[58]? = some (m31_):=by rw [ha];exact putSel_on (e:=(31,58,m31_)) 20 rfl rfl (hon 31 (by kernel_rfl)) rfl
                     rw [Q_X31_ (hon 31 (by kernel_rfl))] at e58
                     replace ha:=Aside0.mk ha;have a4:=Aside0.mk Q_HO_7;have HB:=Aside0.mk Q_HB;have ai:=Aside0.mk (Q_HO475 (hon 28 (by kernel_rfl)));have HA_HO475:=Aside0.mk (Q_HA_HO475 (hon 28 (by kernel_rfl)));have a3:=Aside0.mk (Q_HI458_e30 (hon 30 (by kernel_rfl)));obtain ⟨c_,hv_⟩:=HA_HO475.out;have hF_:=ai.out
                     rw [hv_] at hF_
                     obtain ⟨ad_,ea_,hx_⟩:=Kd.at_string (Kd.R_reads' hF_).2.2 aa (of_eq_true pi478) (of_eq_true qi478)
                     cases ea_
                     refine value_ (w1:=w') (v:=.string (rdOf ByteArray.empty a8 aa)) (by rfl) rfl ?_ ?_
                     ·go_simp;(try simp only [i64_w])
                      try rfl
                     refine hK.out _ _ ⟨a5,adz_v474,m31_,(by rw [ha.out];exact putSel_upk 21 hb_ rfl rfl rfl),Q_HO_7,fun h0_=>absurd ((hon 30 (by kernel_rfl)).symm.trans h0_) (by decide),Q_HB,Q_HO475,Q_HA_HO475,Q_HI458_e30,Q_X31_⟩
                    refine steps_cons ?_ ?_
                    ·rintro b a w' ⟨a5,adz_v474,m31_,ha,Q_HO_7,Q_HI458,Q_HB,Q_HO475,Q_HA_HO475,Q_HI458_e30,Q_X31_⟩ hb_ hon hoff;refine ⟨_,rfl,fun K hK => ?_⟩
                     have e59:a.tmps[59]? = some (.string (rdOf ByteArray.empty a8 aa)):=by rw [ha];exact putSel_on (e:=(32,59,.string (rdOf ByteArray.empty a8 aa))) 21 rfl rfl (hon 32 (by kernel_rfl)) rfl
                     replace ha:=Aside0.mk ha;have a4:=Aside0.mk Q_HO_7;have HB:=Aside0.mk Q_HB;have ai:=Aside0.mk (Q_HO475 (hon 28 (by kernel_rfl)));have HA_HO475:=Aside0.mk (Q_HA_HO475 (hon 28 (by kernel_rfl)));have a3:=Aside0.mk (Q_HI458_e30 (hon 30 (by kernel_rfl)));refine value_ (w1:=w') (v:=.string (rdOf ByteArray.empty a8 aa)) (by rfl) rfl ?_ ?_
                     ·go_simp;(try simp only [i64_w])
                      try rfl
                     refine hK.out _ _ ⟨a5,adz_v474,m31_,(by rw [ha.out];exact putSel_upk 22 hb_ rfl rfl rfl),Q_HO_7,fun h0_=>absurd ((hon 30 (by kernel_rfl)).symm.trans h0_) (by decide),Q_HB,Q_HO475,Q_HA_HO475,Q_HI458_e30,Q_X31_⟩
                    exact steps_nil
                   rintro b a w37 hall ⟨a5,adz_v474,m31_,ha,Q_HO_7,Q_HI458,Q_HB,Q_HO475,Q_HA_HO475,Q_HI458_e30,Q_X31_⟩;clear HB a3 a4;have hb2_:=hall 2 (by kernel_rfl);have hb3_:=hall 3 (by kernel_rfl);have hb6_:=hall 6 (by kernel_rfl);have hb7_:=hall 7 (by kernel_rfl);have hb8_:=hall 8 (by kernel_rfl);have hb9_:=hall 9 (by kernel_rfl);have hb12_:=hall 12 (by kernel_rfl);have hb13_:=hall 13 (by kernel_rfl);have hb14_:=hall 14 (by kernel_rfl);have hb15_:=hall 15 (by kernel_rfl);have hb18_:=hall 18 (by kernel_rfl);have hb19_:=hall 19 (by kernel_rfl);have hb22_:=hall 22 (by kernel_rfl);have hb23_:=hall 23 (by kernel_rfl);have hb24_:=hall 24 (by kernel_rfl);have hb25_:=hall 25 (by kernel_rfl);have hb26_:=hall 26 (by kernel_rfl);have hb27_:=hall 27 (by kernel_rfl);have hb28_:=hall 28 (by kernel_rfl);have hb30_:=hall 30 (by kernel_rfl);have hb31_:=hall 31 (by kernel_rfl);have hb32_:=hall 32 (by kernel_rfl);have hb33_:=hall 33 (by kernel_rfl);subst ha;obtain rfl:=Q_X31_ hb31_;simp only [putSel,hb2_,hb3_,hb6_,hb7_,hb8_,hb9_,hb12_,hb13_,hb14_,hb15_,hb18_,hb19_,hb22_,hb23_,hb24_,hb25_,hb26_,hb27_,hb28_,hb30_,hb31_,hb32_,hb33_,if_true,Act.put,List.setIfInBounds_toArray,List.set_cons_zero,List.set_cons_succ];have a4:=Aside0.mk Q_HO_7;clear Q_HO_7;clear Q_HI458;have HB:=Aside0.mk Q_HB;clear Q_HB;have ai:=Aside0.mk (Q_HO475 hb28_);clear Q_HO475;have HA_HO475:=Aside0.mk (Q_HA_HO475 hb28_);clear Q_HA_HO475;have a3:=Aside0.mk (Q_HI458_e30 hb30_);clear Q_HI458_e30;clear hall hb2_ hb3_ hb6_ hb7_ hb8_ hb9_ hb12_ hb13_ hb14_ hb15_ hb18_ hb19_ hb22_ hb23_ hb24_ hb25_ hb26_ hb27_ hb28_ hb30_ hb31_ hb32_ hb33_;obtain ⟨co38,cE⟩:=HA_HO475.out;clear HA_HO475;subst cE
                   try go_wp2
                   go_roundg k1
                   case measure=>have:=HK1.out;omega
                   case rel=>exact ⟨((a9++(⟨#[47]⟩:ByteArray))++(rdOf ByteArray.empty a8 aa)),(wrap64 (a1+1)),(aq),Ye1,Ye1,H',⟨by have:=HK1.out;omega⟩,⟨by (with_reducible repeat (first|apply Kd.R_alloc|apply Kd.R_drewN|apply Kd.R_drew));exact Kd.R_mono a4.out (fun _ hk=>trivial)⟩,⟨iq173 a3.out⟩,⟨bq173 HB.out a3.out⟩⟩
                  ·rw [if_neg b3] at H
                   exact absurd H (by simp)
                 ·rw [if_neg bd] at H
                  exact absurd H (by simp)
                ·rw [if_neg b2] at H
                 have cA:decide (0<a1)=false:=decide_eq_false b2;clear b2
                 by_cases b4:a9.size+(rdOf ByteArray.empty a8 aa).size≤9223372036854775807
                 ·rw [if_pos b4] at H
                  have c39b0:=eq_true b4;have c39b1:decide (a9.size+(rdOf ByteArray.empty a8 aa).size≤9223372036854775807)=true:=decide_eq_true b4
                  try have c39b2:(9223372036854775807<a9.size+(rdOf ByteArray.empty a8 aa).size)=False:=eq_false (Nat.not_lt.2 b4)
                  have H':=Aside0.mk H;clear H;obtain ⟨Ao40,aJ,cF⟩:=Kd.R_slice a4.out;subst cF
                  try go_wp2
                  have pi478:(0≤(aa:Int))=True:=eq_true (oda);have qi478:(aa<(a8.length:Int))=True:=eq_true (oda);refine Ya3 (Kd.R_drew a4.out) (IsS173.drew a3.out) (below_drew1 HB.out) ?_;clear a4 a3 HB;intro a4 a3 HB;have ar:0≤(a1:Int):=oda;have au:a1<(a2.length:Int):=oda;obtain ⟨a6,bM,bN⟩:=Kd.at_string (Kd.R_reads' a4.out).2.2 a1 ar au
                  cases bM
                  replace ar:=eq_true ar;replace au:=eq_true au;have av:0≤(a1:Int):=oda;have aw:a1<(a2.length:Int):=oda;obtain ⟨bO,bP,bQ⟩:=Kd.at_string (Kd.R_reads' a4.out).2.2 a1 av aw
                  obtain rfl:a6=bO:=(by injection bP)
                  replace av:=eq_true av;replace aw:=eq_true aw;have ax:0≤(a1:Int):=oda;have ay:a1<(a2.length:Int):=oda;obtain ⟨bR,bS,bT⟩:=Kd.at_string (Kd.R_reads' a4.out).2.2 a1 ax ay
                  obtain rfl:a6=bR:=(by injection bS)
                  replace ax:=eq_true ax;replace ay:=eq_true ay;have az:0≤(a1:Int):=oda;have aA:a1<(a2.length:Int):=oda;obtain ⟨bU,bV,bW⟩:=Kd.at_string (Kd.R_reads' a4.out).2.2 a1 az aA
                  obtain rfl:a6=bU:=(by injection bV)
                  replace az:=eq_true az;replace aA:=eq_true aA;have aB:0≤(a1:Int):=oda;have aC:a1<(a2.length:Int):=oda;obtain ⟨bX,bY,bZ⟩:=Kd.at_string (Kd.R_reads' a4.out).2.2 a1 aB aC
                  obtain rfl:a6=bX:=(by injection bY)
                  replace aB:=eq_true aB;replace aC:=eq_true aC;refine start_ (n:=34) (S:=fun w'=>True) (ds:=[]) (fb 34 0) (by kernel_rfl) rfl rfl trivial (fun hHeld => ?_);refine with_tabW spec_DrawMatch.tab10 spec_DrawMatch.bits10 (fun HT_ HW_ => ?_);generalize wr.drew=w41 at a4 a3 HB bN bQ bT bW bZ hHeld ⊢; refine pu 0 27 (fb 34 1) HT_ ?_;refine pu 1 28 (fb 34 3) HT_ ?_;refine pu 4 31 (fb 34 19) HT_ ?_;refine pu 5 32 (fb 34 51) HT_ ?_;refine pu 10 37 (fb 34 1075) HT_ ?_;refine pu 11 38 (fb 34 3123) HT_ ?_;refine pu 16 43 (fb 34 68659) HT_ ?_;refine pu 17 44 (fb 34 199731) HT_ ?_;refine pu 20 47 (fb 34 1248307) HT_ ?_;refine pu 21 48 (fb 34 3345459) HT_ ?_;refine pu 29 56 (fb 34 540216371) HT_ ?_;refine inv_at [2,3,6,7,8,9,12,13,14,15,18,19,22,23,24,25,26,27,28,30,31,32,33] (fun a0_ b a w' => ∃ (a5:Value) (adz_v474:Addr) (m31_:Value),a=putSel a0_ b [(2,29,.pointer (some (a6.add (a1).toNat))),(3,30,.string (rdOf ByteArray.empty a2 a1)),(6,33,.pointer (some (a6.add (a1).toNat))),(7,34,.string (rdOf ByteArray.empty a2 a1)),(8,35,.string ((rdOf ByteArray.empty a2 a1).extract 0 1)),(9,36,.string (((rdOf ByteArray.empty a2 a1).extract 0 1)++(⟨#[42]⟩:ByteArray))),(12,39,.pointer (some (a6.add (a1).toNat))),(13,40,.string (rdOf ByteArray.empty a2 a1)),(14,41,.string ((rdOf ByteArray.empty a2 a1).extract 1 (rdOf ByteArray.empty a2 a1).size)),(15,42,.string ((⟨#[63]⟩:ByteArray)++((rdOf ByteArray.empty a2 a1).extract 1 (rdOf ByteArray.empty a2 a1).size))),(18,45,.pointer (some (a6.add (a1).toNat))),(19,46,.string (rdOf ByteArray.empty a2 a1)),(22,49,.pointer (some (a6.add (a1).toNat))),(23,50,.string (rdOf ByteArray.empty a2 a1)),(24,51,.int .i64 ((rdOf ByteArray.empty a2 a1).size:Int)),(25,52,.int .i64 ab),(26,53,.string ((rdOf ByteArray.empty a2 a1).extract ((ab):Int).toNat (rdOf ByteArray.empty a2 a1).size)),(27,54,.string ((⟨#[42]⟩:ByteArray)++((rdOf ByteArray.empty a2 a1).extract ((ab):Int).toNat (rdOf ByteArray.empty a2 a1).size))),(28,55,a5),(30,57,.int .i64 aa),(31,58,m31_),(32,59,.string (rdOf ByteArray.empty a8 aa)),(33,9,.string (rdOf ByteArray.empty a8 aa))]∧(Kd.R Kd.string 9 w' w.heap.size (fun _=>True) (.slice (some a6) a2.length aJ) a2)∧(b 30=false→IsS173 w w' g458 a7 ag)∧(Below w.heap.size w w')∧(b 28=true→Kd.R Kd.string 9 w' w.heap.size (fun k_=>some k_≠(.slice (some a6) a2.length aJ:Value).ownBlock) a5 a8)∧(b 28=true → ∃ c_,(a5:Value) = .slice (some adz_v474) a8.length c_)∧(b 30=true→IsS173 w w' g458 a7 aq)∧(b 31=true→(m31_:Value) = .pointer (some (adz_v474.add (aa).toNat)))) HT_.out HW_.out (by kernel_rfl) (by kernel_rfl) ?_ ?_ ?_
                  ·exact ⟨.bool false,⟨0,0,none⟩,.bool false,by simp only [putSel,Bool.false_eq_true,if_false],a4.out,fun _=>a3.out,HB.out,fun h_=>absurd h_ (by decide),fun h_=>absurd h_ (by decide),fun h_=>absurd h_ (by decide),fun h_=>absurd h_ (by decide)⟩
                  ·skip
                   clear HB a3 a4;refine steps_cons ?_ ?_
                   ·rintro b a w' ⟨a5,adz_v474,m31_,ha,Q_HO_7,Q_HI458,Q_HB,Q_HO475,Q_HA_HO475,Q_HI458_e30,Q_X31_⟩ hb_ hon hoff;refine ⟨_,rfl,fun K hK => ?_⟩
                    have e27:a.tmps[27]? = some (.slice (some a6) a2.length aJ):=by rw [ha];exact (putSel_off rfl).trans rfl
                    have e28:a.tmps[28]? = some (.int .i64 a1):=by rw [ha];exact (putSel_off rfl).trans rfl
                    replace ha:=Aside0.mk ha;have a4:=Aside0.mk Q_HO_7;have HB:=Aside0.mk Q_HB;refine value_ (w1:=w') (v:=.pointer (some (a6.add (a1).toNat))) (by rfl) rfl ?_ ?_
                    ·go_simp;(try simp only [i64_w])
                     try rfl
                    refine hK.out _ _ ⟨a5,adz_v474,m31_,(by rw [ha.out];exact putSel_upk 0 hb_ rfl rfl rfl),Q_HO_7,Q_HI458,Q_HB,fun h0_=>absurd ((hoff 28 (by kernel_rfl)).symm.trans h0_) (by decide),fun h0_=>absurd ((hoff 28 (by kernel_rfl)).symm.trans h0_) (by decide),Q_HI458_e30,fun h0_=>absurd ((hoff 31 (by kernel_rfl)).symm.trans h0_) (by decide)⟩
                   refine steps_cons ?_ ?_
                   ·rintro b a w' ⟨a5,adz_v474,m31_,ha,Q_HO_7,Q_HI458,Q_HB,Q_HO475,Q_HA_HO475,Q_HI458_e30,Q_X31_⟩ hb_ hon hoff;refine ⟨_,rfl,fun K hK => ?_⟩
                    have e29:a.tmps[29]? = some (.pointer (some (a6.add (a1).toNat))):=by rw [ha];exact putSel_on (e:=(2,29,.pointer (some (a6.add (a1).toNat)))) 0 rfl rfl (hon 2 (by kernel_rfl)) rfl
                    replace ha:=Aside0.mk ha;have a4:=Aside0.mk Q_HO_7;have HB:=Aside0.mk Q_HB;obtain ⟨ad468_z,e468_z,hx468_0_z⟩:=Kd.at_string (Kd.R_reads' a4.out).2.2 a1 (of_eq_true ar) (of_eq_true au)
                    cases e468_z
                    have hs0_:w'.cell? (a6.add (a1).toNat)=some (.string (rdOf ByteArray.empty a2 a1)):=(by first|exact hx468_0_z|(have h_:=hx468_0_z;(try simp only [Int.reduceToNat,Nat.zero_mul,Nat.reduceMul,Nat.reduceEqDiff,Go.Addr.add,↓reduceIte,Addr.add_zero'] at h_);exact h_))
                    refine value_ (w1:=w') (v:=.string (rdOf ByteArray.empty a2 a1)) (by rfl) rfl ?_ ?_
                    ·go_simp;(try simp only [i64_w])
                     try rfl
                    refine hK.out _ _ ⟨a5,adz_v474,m31_,(by rw [ha.out];exact putSel_upk 1 hb_ rfl rfl rfl),Q_HO_7,Q_HI458,Q_HB,fun h0_=>absurd ((hoff 28 (by kernel_rfl)).symm.trans h0_) (by decide),fun h0_=>absurd ((hoff 28 (by kernel_rfl)).symm.trans h0_) (by decide),Q_HI458_e30,fun h0_=>absurd ((hoff 31 (by kernel_rfl)).symm.trans h0_) (by decide)⟩
                   refine steps_cons ?_ ?_
                   ·rintro b a w' ⟨a5,adz_v474,m31_,ha,Q_HO_7,Q_HI458,Q_HB,Q_HO475,Q_HA_HO475,Q_HI458_e30,Q_X31_⟩ hb_ hon hoff;refine ⟨_,rfl,fun K hK => ?_⟩
                    have e31:a.tmps[31]? = some (.slice (some a6) a2.length aJ):=by rw [ha];exact (putSel_off rfl).trans rfl
                    have e32:a.tmps[32]? = some (.int .i64 a1):=by rw [ha];exact (putSel_off rfl).trans rfl
                    replace ha:=Aside0.mk ha;have a4:=Aside0.mk Q_HO_7;have HB:=Aside0.mk Q_HB;refine value_ (w1:=w') (v:=.pointer (some (a6.add (a1).toNat))) (by rfl) rfl ?_ ?_
                    ·go_simp;(try simp only [i64_w])
                     try rfl
                    refine hK.out _ _ ⟨a5,adz_v474,m31_,(by rw [ha.out];exact putSel_upk 2 hb_ rfl rfl rfl),Q_HO_7,Q_HI458,Q_HB,fun h0_=>absurd ((hoff 28 (by kernel_rfl)).symm.trans h0_) (by decide),fun h0_=>absurd ((hoff 28 (by kernel_rfl)).symm.trans h0_) (by decide),Q_HI458_e30,fun h0_=>absurd ((hoff 31 (by kernel_rfl)).symm.trans h0_) (by decide)⟩
                   refine steps_cons ?_ ?_
                   ·rintro b a w' ⟨a5,adz_v474,m31_,ha,Q_HO_7,Q_HI458,Q_HB,Q_HO475,Q_HA_HO475,Q_HI458_e30,Q_X31_⟩ hb_ hon hoff;refine ⟨_,rfl,fun K hK => ?_⟩
                    have e33:a.tmps[33]? = some (.pointer (some (a6.add (a1).toNat))):=by rw [ha];exact putSel_on (e:=(6,33,.pointer (some (a6.add (a1).toNat)))) 2 rfl rfl (hon 6 (by kernel_rfl)) rfl
                    replace ha:=Aside0.mk ha;have a4:=Aside0.mk Q_HO_7;have HB:=Aside0.mk Q_HB;obtain ⟨ad469_z,e469_z,hx469_0_z⟩:=Kd.at_string (Kd.R_reads' a4.out).2.2 a1 (of_eq_true av) (of_eq_true aw)
                    cases e469_z
                    have hs1_:w'.cell? (a6.add (a1).toNat)=some (.string (rdOf ByteArray.empty a2 a1)):=(by first|exact hx469_0_z|(have h_:=hx469_0_z;(try simp only [Int.reduceToNat,Nat.zero_mul,Nat.reduceMul,Nat.reduceEqDiff,Go.Addr.add,↓reduceIte,Addr.add_zero'] at h_);exact h_))
                    refine value_ (w1:=w') (v:=.string (rdOf ByteArray.empty a2 a1)) (by rfl) rfl ?_ ?_
                    ·go_simp;(try simp only [i64_w])
                     try rfl
                    refine hK.out _ _ ⟨a5,adz_v474,m31_,(by rw [ha.out];exact putSel_upk 3 hb_ rfl rfl rfl),Q_HO_7,Q_HI458,Q_HB,fun h0_=>absurd ((hoff 28 (by kernel_rfl)).symm.trans h0_) (by decide),fun h0_=>absurd ((hoff 28 (by kernel_rfl)).symm.trans h0_) (by decide),Q_HI458_e30,fun h0_=>absurd ((hoff 31 (by kernel_rfl)).symm.trans h0_) (by decide)⟩
                   refine steps_cons ?_ ?_
                   ·rintro b a w' ⟨a5,adz_v474,m31_,ha,Q_HO_7,Q_HI458,Q_HB,Q_HO475,Q_HA_HO475,Q_HI458_e30,Q_X31_⟩ hb_ hon hoff;refine ⟨_,rfl,fun K hK => ?_⟩
                    have e34:a.tmps[34]? = some (.string (rdOf ByteArray.empty a2 a1)):=by rw [ha];exact putSel_on (e:=(7,34,.string (rdOf ByteArray.empty a2 a1))) 3 rfl rfl (hon 7 (by kernel_rfl)) rfl
                    replace ha:=Aside0.mk ha;have a4:=Aside0.mk Q_HO_7;have HB:=Aside0.mk Q_HB;refine value_ (w1:=w') (v:=.string ((rdOf ByteArray.empty a2 a1).extract 0 1)) (by rfl) rfl ?_ ?_
                    ·go_simp;(try simp only [i64_w])
                     try rfl
                    refine hK.out _ _ ⟨a5,adz_v474,m31_,(by rw [ha.out];exact putSel_upk 4 hb_ rfl rfl rfl),Q_HO_7,Q_HI458,Q_HB,fun h0_=>absurd ((hoff 28 (by kernel_rfl)).symm.trans h0_) (by decide),fun h0_=>absurd ((hoff 28 (by kernel_rfl)).symm.trans h0_) (by decide),Q_HI458_e30,fun h0_=>absurd ((hoff 31 (by kernel_rfl)).symm.trans h0_) (by decide)⟩
                   refine steps_cons ?_ ?_
                   ·rintro b a w' ⟨a5,adz_v474,m31_,ha,Q_HO_7,Q_HI458,Q_HB,Q_HO475,Q_HA_HO475,Q_HI458_e30,Q_X31_⟩ hb_ hon hoff;refine ⟨_,rfl,fun K hK => ?_⟩
                    have e35:a.tmps[35]? = some (.string ((rdOf ByteArray.empty a2 a1).extract 0 1)):=by rw [ha];exact putSel_on (e:=(8,35,.string ((rdOf ByteArray.empty a2 a1).extract 0 1))) 4 rfl rfl (hon 8 (by kernel_rfl)) rfl
                    replace ha:=Aside0.mk ha;have a4:=Aside0.mk Q_HO_7;have HB:=Aside0.mk Q_HB;refine value_ (w1:=w') (v:=.string (((rdOf ByteArray.empty a2 a1).extract 0 1)++(⟨#[42]⟩:ByteArray))) (by rfl) rfl ?_ ?_
                    ·go_simp;(try simp only [i64_w])
                     try rfl
                    refine hK.out _ _ ⟨a5,adz_v474,m31_,(by rw [ha.out];exact putSel_upk 5 hb_ rfl rfl rfl),Q_HO_7,Q_HI458,Q_HB,fun h0_=>absurd ((hoff 28 (by kernel_rfl)).symm.trans h0_) (by decide),fun h0_=>absurd ((hoff 28 (by kernel_rfl)).symm.trans h0_) (by decide),Q_HI458_e30,fun h0_=>absurd ((hoff 31 (by kernel_rfl)).symm.trans h0_) (by decide)⟩
                   refine steps_cons ?_ ?_
                   ·rintro b a w' ⟨a5,adz_v474,m31_,ha,Q_HO_7,Q_HI458,Q_HB,Q_HO475,Q_HA_HO475,Q_HI458_e30,Q_X31_⟩ hb_ hon hoff;refine ⟨_,rfl,fun K hK => ?_⟩
                    have e37:a.tmps[37]? = some (.slice (some a6) a2.length aJ):=by rw [ha];exact (putSel_off rfl).trans rfl
                    have e38:a.tmps[38]? = some (.int .i64 a1):=by rw [ha];exact (putSel_off rfl).trans rfl
                    replace ha:=Aside0.mk ha;have a4:=Aside0.mk Q_HO_7;have HB:=Aside0.mk Q_HB;refine value_ (w1:=w') (v:=.pointer (some (a6.add (a1).toNat))) (by rfl) rfl ?_ ?_
                    ·go_simp;(try simp only [i64_w])
                     try rfl
                    refine hK.out _ _ ⟨a5,adz_v474,m31_,(by rw [ha.out];exact putSel_upk 6 hb_ rfl rfl rfl),Q_HO_7,Q_HI458,Q_HB,fun h0_=>absurd ((hoff 28 (by kernel_rfl)).symm.trans h0_) (by decide),fun h0_=>absurd ((hoff 28 (by kernel_rfl)).symm.trans h0_) (by decide),Q_HI458_e30,fun h0_=>absurd ((hoff 31 (by kernel_rfl)).symm.trans h0_) (by decide)⟩
                   refine steps_cons ?_ ?_
                   ·rintro b a w' ⟨a5,adz_v474,m31_,ha,Q_HO_7,Q_HI458,Q_HB,Q_HO475,Q_HA_HO475,Q_HI458_e30,Q_X31_⟩ hb_ hon hoff;refine ⟨_,rfl,fun K hK => ?_⟩
                    have e39:a.tmps[39]? = some (.pointer (some (a6.add (a1).toNat))):=by rw [ha];exact putSel_on (e:=(12,39,.pointer (some (a6.add (a1).toNat)))) 6 rfl rfl (hon 12 (by kernel_rfl)) rfl
                    replace ha:=Aside0.mk ha;have a4:=Aside0.mk Q_HO_7;have HB:=Aside0.mk Q_HB;obtain ⟨ad470_z,e470_z,hx470_0_z⟩:=Kd.at_string (Kd.R_reads' a4.out).2.2 a1 (of_eq_true ax) (of_eq_true ay)
                    cases e470_z
                    have hs2_:w'.cell? (a6.add (a1).toNat)=some (.string (rdOf ByteArray.empty a2 a1)):=(by first|exact hx470_0_z|(have h_:=hx470_0_z;(try simp only [Int.reduceToNat,Nat.zero_mul,Nat.reduceMul,Nat.reduceEqDiff,Go.Addr.add,↓reduceIte,Addr.add_zero'] at h_);exact h_))
                    refine value_ (w1:=w') (v:=.string (rdOf ByteArray.empty a2 a1)) (by rfl) rfl ?_ ?_
                    ·go_simp;(try simp only [i64_w])
                     try rfl
                    refine hK.out _ _ ⟨a5,adz_v474,m31_,(by rw [ha.out];exact putSel_upk 7 hb_ rfl rfl rfl),Q_HO_7,Q_HI458,Q_HB,fun h0_=>absurd ((hoff 28 (by kernel_rfl)).symm.trans h0_) (by decide),fun h0_=>absurd ((hoff 28 (by kernel_rfl)).symm.trans h0_) (by decide),Q_HI458_e30,fun h0_=>absurd ((hoff 31 (by kernel_rfl)).symm.trans h0_) (by decide)⟩
                   refine steps_cons ?_ ?_
                   ·rintro b a w' ⟨a5,adz_v474,m31_,ha,Q_HO_7,Q_HI458,Q_HB,Q_HO475,Q_HA_HO475,Q_HI458_e30,Q_X31_⟩ hb_ hon hoff;refine ⟨_,rfl,fun K hK => ?_⟩
                    have e40:a.tmps[40]? = some (.string (rdOf ByteArray.empty a2 a1)):=by rw [ha];exact putSel_on (e:=(13,40,.string (rdOf ByteArray.empty a2 a1))) 7 rfl rfl (hon 13 (by kernel_rfl)) rfl
                    replace ha:=Aside0.mk ha;have a4:=Aside0.mk Q_HO_7;have HB:=Aside0.mk Q_HB;refine value_ (w1:=w') (v:=.string ((rdOf ByteArray.empty a2 a1).extract 1 (rdOf ByteArray.empty a2 a1).size)) (by rfl) rfl ?_ ?_
                    ·go_simp;(try simp only [i64_w])
                     try rfl
                    refine hK.out _ _ ⟨a5,adz_v474,m31_,(by rw [ha.out];exact putSel_upk 8 hb_ rfl rfl rfl),Q_HO_7,Q_HI458,Q_HB,fun h0_=>absurd ((hoff 28 (by kernel_rfl)).symm.trans h0_) (by decide),fun h0_=>absurd ((hoff 28 (by kernel_rfl)).symm.trans h0_) (by decide),Q_HI458_e30,fun h0_=>absurd ((hoff 31 (by kernel_rfl)).symm.trans h0_) (by decide)⟩
                   refine steps_cons ?_ ?_
                   ·rintro b a w' ⟨a5,adz_v474,m31_,ha,Q_HO_7,Q_HI458,Q_HB,Q_HO475,Q_HA_HO475,Q_HI458_e30,Q_X31_⟩ hb_ hon hoff;refine ⟨_,rfl,fun K hK => ?_⟩
                    have e41:a.tmps[41]? = some (.string ((rdOf ByteArray.empty a2 a1).extract 1 (rdOf ByteArray.empty a2 a1).size)):=by rw [ha];exact putSel_on (e:=(14,41,.string ((rdOf ByteArray.empty a2 a1).extract 1 (rdOf ByteArray.empty a2 a1).size))) 8 rfl rfl (hon 14 (by kernel_rfl)) rfl
                    replace ha:=Aside0.mk ha;have a4:=Aside0.mk Q_HO_7;have HB:=Aside0.mk Q_HB;refine value_ (w1:=w') (v:=.string ((⟨#[63]⟩:ByteArray)++((rdOf ByteArray.empty a2 a1).extract 1 (rdOf ByteArray.empty a2 a1).size))) (by rfl) rfl ?_ ?_
                    ·go_simp;(try simp only [i64_w])
                     try rfl
                    refine hK.out _ _ ⟨a5,adz_v474,m31_,(by rw [ha.out];exact putSel_upk 9 hb_ rfl rfl rfl),Q_HO_7,Q_HI458,Q_HB,fun h0_=>absurd ((hoff 28 (by kernel_rfl)).symm.trans h0_) (by decide),fun h0_=>absurd ((hoff 28 (by kernel_rfl)).symm.trans h0_) (by decide),Q_HI458_e30,fun h0_=>absurd ((hoff 31 (by kernel_rfl)).symm.trans h0_) (by decide)⟩
                   refine steps_cons ?_ ?_
                   ·rintro b a w' ⟨a5,adz_v474,m31_,ha,Q_HO_7,Q_HI458,Q_HB,Q_HO475,Q_HA_HO475,Q_HI458_e30,Q_X31_⟩ hb_ hon hoff;refine ⟨_,rfl,fun K hK => ?_⟩
                    have e43:a.tmps[43]? = some (.slice (some a6) a2.length aJ):=by rw [ha];exact (putSel_off rfl).trans rfl
                    have e44:a.tmps[44]? = some (.int .i64 a1):=by rw [ha];exact (putSel_off rfl).trans rfl
                    replace ha:=Aside0.mk ha;have a4:=Aside0.mk Q_HO_7;have HB:=Aside0.mk Q_HB;refine value_ (w1:=w') (v:=.pointer (some (a6.add (a1).toNat))) (by rfl) rfl ?_ ?_
                    ·go_simp;(try simp only [i64_w])
                     try rfl
                    refine hK.out _ _ ⟨a5,adz_v474,m31_,(by rw [ha.out];exact putSel_upk 10 hb_ rfl rfl rfl),Q_HO_7,Q_HI458,Q_HB,fun h0_=>absurd ((hoff 28 (by kernel_rfl)).symm.trans h0_) (by decide),fun h0_=>absurd ((hoff 28 (by kernel_rfl)).symm.trans h0_) (by decide),Q_HI458_e30,fun h0_=>absurd ((hoff 31 (by kernel_rfl)).symm.trans h0_) (by decide)⟩
                   refine steps_cons ?_ ?_
                   ·rintro b a w' ⟨a5,adz_v474,m31_,ha,Q_HO_7,Q_HI458,Q_HB,Q_HO475,Q_HA_HO475,Q_HI458_e30,Q_X31_⟩ hb_ hon hoff;refine ⟨_,rfl,fun K hK => ?_⟩
                    have e45:a.tmps[45]? = some (.pointer (some (a6.add (a1).toNat))):=by rw [ha];exact putSel_on (e:=(18,45,.pointer (some (a6.add (a1).toNat)))) 10 rfl rfl (hon 18 (by kernel_rfl)) rfl
                    replace ha:=Aside0.mk ha;have a4:=Aside0.mk Q_HO_7;have HB:=Aside0.mk Q_HB;obtain ⟨ad471_z,e471_z,hx471_0_z⟩:=Kd.at_string (Kd.R_reads' a4.out).2.2 a1 (of_eq_true az) (of_eq_true aA)
                    cases e471_z
                    have hs3_:w'.cell? (a6.add (a1).toNat)=some (.string (rdOf ByteArray.empty a2 a1)):=(by first|exact hx471_0_z|(have h_:=hx471_0_z;(try simp only [Int.reduceToNat,Nat.zero_mul,Nat.reduceMul,Nat.reduceEqDiff,Go.Addr.add,↓reduceIte,Addr.add_zero'] at h_);exact h_))
                    refine value_ (w1:=w') (v:=.string (rdOf ByteArray.empty a2 a1)) (by rfl) rfl ?_ ?_
                    ·go_simp;(try simp only [i64_w])
                     try rfl
                    refine hK.out _ _ ⟨a5,adz_v474,m31_,(by rw [ha.out];exact putSel_upk 11 hb_ rfl rfl rfl),Q_HO_7,Q_HI458,Q_HB,fun h0_=>absurd ((hoff 28 (by kernel_rfl)).symm.trans h0_) (by decide),fun h0_=>absurd ((hoff 28 (by kernel_rfl)).symm.trans h0_) (by decide),Q_HI458_e30,fun h0_=>absurd ((hoff 31 (by kernel_rfl)).symm.trans h0_) (by decide)⟩
                   refine steps_cons ?_ ?_
                   ·rintro b a w' ⟨a5,adz_v474,m31_,ha,Q_HO_7,Q_HI458,Q_HB,Q_HO475,Q_HA_HO475,Q_HI458_e30,Q_X31_⟩ hb_ hon hoff;refine ⟨_,rfl,fun K hK => ?_⟩
                    have e47:a.tmps[47]? = some (.slice (some a6) a2.length aJ):=by rw [ha];exact (putSel_off rfl).trans rfl
                    have e48:a.tmps[48]? = some (.int .i64 a1):=by rw [ha];exact (putSel_off rfl).trans rfl
                    replace ha:=Aside0.mk ha;have a4:=Aside0.mk Q_HO_7;have HB:=Aside0.mk Q_HB;refine value_ (w1:=w') (v:=.pointer (some (a6.add (a1).toNat))) (by rfl) rfl ?_ ?_
                    ·go_simp;(try simp only [i64_w])
                     try rfl
                    refine hK.out _ _ ⟨a5,adz_v474,m31_,(by rw [ha.out];exact putSel_upk 12 hb_ rfl rfl rfl),Q_HO_7,Q_HI458,Q_HB,fun h0_=>absurd ((hoff 28 (by kernel_rfl)).symm.trans h0_) (by decide),fun h0_=>absurd ((hoff 28 (by kernel_rfl)).symm.trans h0_) (by decide),Q_HI458_e30,fun h0_=>absurd ((hoff 31 (by kernel_rfl)).symm.trans h0_) (by decide)⟩
                   refine steps_cons ?_ ?_
                   ·rintro b a w' ⟨a5,adz_v474,m31_,ha,Q_HO_7,Q_HI458,Q_HB,Q_HO475,Q_HA_HO475,Q_HI458_e30,Q_X31_⟩ hb_ hon hoff;refine ⟨_,rfl,fun K hK => ?_⟩
                    have e49:a.tmps[49]? = some (.pointer (some (a6.add (a1).toNat))):=by rw [ha];exact putSel_on (e:=(22,49,.pointer (some (a6.add (a1).toNat)))) 12 rfl rfl (hon 22 (by kernel_rfl)) rfl
                    replace ha:=Aside0.mk ha;have a4:=Aside0.mk Q_HO_7;have HB:=Aside0.mk Q_HB;obtain ⟨ad472_z,e472_z,hx472_0_z⟩:=Kd.at_string (Kd.R_reads' a4.out).2.2 a1 (of_eq_true aB) (of_eq_true aC)
                    cases e472_z
                    have hs4_:w'.cell? (a6.add (a1).toNat)=some (.string (rdOf ByteArray.empty a2 a1)):=(by first|exact hx472_0_z|(have h_:=hx472_0_z;(try simp only [Int.reduceToNat,Nat.zero_mul,Nat.reduceMul,Nat.reduceEqDiff,Go.Addr.add,↓reduceIte,Addr.add_zero'] at h_);exact h_))
                    refine value_ (w1:=w') (v:=.string (rdOf ByteArray.empty a2 a1)) (by rfl) rfl ?_ ?_
                    ·go_simp;(try simp only [i64_w])
                     try rfl
                    refine hK.out _ _ ⟨a5,adz_v474,m31_,(by rw [ha.out];exact putSel_upk 13 hb_ rfl rfl rfl),Q_HO_7,Q_HI458,Q_HB,fun h0_=>absurd ((hoff 28 (by kernel_rfl)).symm.trans h0_) (by decide),fun h0_=>absurd ((hoff 28 (by kernel_rfl)).symm.trans h0_) (by decide),Q_HI458_e30,fun h0_=>absurd ((hoff 31 (by kernel_rfl)).symm.trans h0_) (by decide)⟩
                   refine steps_cons ?_ ?_
                   ·rintro b a w' ⟨a5,adz_v474,m31_,ha,Q_HO_7,Q_HI458,Q_HB,Q_HO475,Q_HA_HO475,Q_HI458_e30,Q_X31_⟩ hb_ hon hoff;refine ⟨_,rfl,fun K hK => ?_⟩
                    have e50:a.tmps[50]? = some (.string (rdOf ByteArray.empty a2 a1)):=by rw [ha];exact putSel_on (e:=(23,50,.string (rdOf ByteArray.empty a2 a1))) 13 rfl rfl (hon 23 (by kernel_rfl)) rfl
                    replace ha:=Aside0.mk ha;have a4:=Aside0.mk Q_HO_7;have HB:=Aside0.mk Q_HB;refine value_ (w1:=w') (v:=.int .i64 ((rdOf ByteArray.empty a2 a1).size:Int)) (by rfl) rfl ?_ ?_
                    ·go_simp;(try simp only [i64_w])
                     try rfl
                    refine hK.out _ _ ⟨a5,adz_v474,m31_,(by rw [ha.out];exact putSel_upk 14 hb_ rfl rfl rfl),Q_HO_7,Q_HI458,Q_HB,fun h0_=>absurd ((hoff 28 (by kernel_rfl)).symm.trans h0_) (by decide),fun h0_=>absurd ((hoff 28 (by kernel_rfl)).symm.trans h0_) (by decide),Q_HI458_e30,fun h0_=>absurd ((hoff 31 (by kernel_rfl)).symm.trans h0_) (by decide)⟩
                   refine steps_cons ?_ ?_
                   ·rintro b a w' ⟨a5,adz_v474,m31_,ha,Q_HO_7,Q_HI458,Q_HB,Q_HO475,Q_HA_HO475,Q_HI458_e30,Q_X31_⟩ hb_ hon hoff;refine ⟨_,rfl,fun K hK => ?_⟩
                    have e51:a.tmps[51]? = some (.int .i64 ((rdOf ByteArray.empty a2 a1).size:Int)):=by rw [ha];exact putSel_on (e:=(24,51,.int .i64 ((rdOf ByteArray.empty a2 a1).size:Int))) 14 rfl rfl (hon 24 (by kernel_rfl)) rfl
                    replace ha:=Aside0.mk ha;have a4:=Aside0.mk Q_HO_7;have HB:=Aside0.mk Q_HB;refine value_ (w1:=w') (v:=.int .i64 ab) (by rfl) rfl ?_ ?_
                    ·go_simp;(try simp only [i64_w])
                     try rfl
                    refine hK.out _ _ ⟨a5,adz_v474,m31_,(by rw [ha.out];exact putSel_upk 15 hb_ rfl rfl rfl),Q_HO_7,Q_HI458,Q_HB,fun h0_=>absurd ((hoff 28 (by kernel_rfl)).symm.trans h0_) (by decide),fun h0_=>absurd ((hoff 28 (by kernel_rfl)).symm.trans h0_) (by decide),Q_HI458_e30,fun h0_=>absurd ((hoff 31 (by kernel_rfl)).symm.trans h0_) (by decide)⟩
                   refine steps_cons ?_ ?_
                   ·rintro b a w' ⟨a5,adz_v474,m31_,ha,Q_HO_7,Q_HI458,Q_HB,Q_HO475,Q_HA_HO475,Q_HI458_e30,Q_X31_⟩ hb_ hon hoff;refine ⟨_,rfl,fun K hK => ?_⟩
                    have e46:a.tmps[46]? = some (.string (rdOf ByteArray.empty a2 a1)):=by rw [ha];exact putSel_on (e:=(19,46,.string (rdOf ByteArray.empty a2 a1))) 11 rfl rfl (hon 19 (by kernel_rfl)) rfl
                    have e52:a.tmps[52]? = some (.int .i64 ab):=by rw [ha];exact putSel_on (e:=(25,52,.int .i64 ab)) 15 rfl rfl (hon 25 (by kernel_rfl)) rfl
                    replace ha:=Aside0.mk ha;have a4:=Aside0.mk Q_HO_7;have HB:=Aside0.mk Q_HB;refine value_ (w1:=w') (v:=.string ((rdOf ByteArray.empty a2 a1).extract ((ab):Int).toNat (rdOf ByteArray.empty a2 a1).size)) (by rfl) rfl ?_ ?_
                    ·go_simp;(try simp only [i64_w])
                     try rfl
                    refine hK.out _ _ ⟨a5,adz_v474,m31_,(by rw [ha.out];exact putSel_upk 16 hb_ rfl rfl rfl),Q_HO_7,Q_HI458,Q_HB,fun h0_=>absurd ((hoff 28 (by kernel_rfl)).symm.trans h0_) (by decide),fun h0_=>absurd ((hoff 28 (by kernel_rfl)).symm.trans h0_) (by decide),Q_HI458_e30,fun h0_=>absurd ((hoff 31 (by kernel_rfl)).symm.trans h0_) (by decide)⟩
                   refine steps_cons ?_ ?_
                   ·rintro b a w' ⟨a5,adz_v474,m31_,ha,Q_HO_7,Q_HI458,Q_HB,Q_HO475,Q_HA_HO475,Q_HI458_e30,Q_X31_⟩ hb_ hon hoff;refine ⟨_,rfl,fun K hK => ?_⟩
                    have e53:a.tmps[53]? = some (.string ((rdOf ByteArray.empty a2 a1).extract ((ab):Int).toNat (rdOf ByteArray.empty a2 a1).size)):=by rw [ha];exact putSel_on (e:=(26,53,.string ((rdOf ByteArray.empty a2 a1).extract ((ab):Int).toNat (rdOf ByteArray.empty a2 a1).size))) 16 rfl rfl (hon 26 (by kernel_rfl)) rfl
                    replace ha:=Aside0.mk ha;have a4:=Aside0.mk Q_HO_7;have HB:=Aside0.mk Q_HB;refine value_ (w1:=w') (v:=.string ((⟨#[42]⟩:ByteArray)++((rdOf ByteArray.empty a2 a1).extract ((ab):Int).toNat (rdOf ByteArray.empty a2 a1).size))) (by rfl) rfl ?_ ?_
                    ·go_simp;(try simp only [i64_w])
                     try rfl
                    refine hK.out _ _ ⟨a5,adz_v474,m31_,(by rw [ha.out];exact putSel_upk 17 hb_ rfl rfl rfl),Q_HO_7,Q_HI458,Q_HB,fun h0_=>absurd ((hoff 28 (by kernel_rfl)).symm.trans h0_) (by decide),fun h0_=>absurd ((hoff 28 (by kernel_rfl)).symm.trans h0_) (by decide),Q_HI458_e30,fun h0_=>absurd ((hoff 31 (by kernel_rfl)).symm.trans h0_) (by decide)⟩
                   refine steps_cons ?_ ?_
                   ·rintro b a w' ⟨a5,adz_v474,m31_,ha,Q_HO_7,Q_HI458,Q_HB,Q_HO475,Q_HA_HO475,Q_HI458_e30,Q_X31_⟩ hb_ hon hoff;refine ⟨_,rfl,fun K hK => ?_⟩
                    have e30:a.tmps[30]? = some (.string (rdOf ByteArray.empty a2 a1)):=by rw [ha];exact putSel_on (e:=(3,30,.string (rdOf ByteArray.empty a2 a1))) 1 rfl rfl (hon 3 (by kernel_rfl)) rfl
                    have e36:a.tmps[36]? = some (.string (((rdOf ByteArray.empty a2 a1).extract 0 1)++(⟨#[42]⟩:ByteArray))):=by rw [ha];exact putSel_on (e:=(9,36,.string (((rdOf ByteArray.empty a2 a1).extract 0 1)++(⟨#[42]⟩:ByteArray)))) 5 rfl rfl (hon 9 (by kernel_rfl)) rfl
                    have e42:a.tmps[42]? = some (.string ((⟨#[63]⟩:ByteArray)++((rdOf ByteArray.empty a2 a1).extract 1 (rdOf ByteArray.empty a2 a1).size))):=by rw [ha];exact putSel_on (e:=(15,42,.string ((⟨#[63]⟩:ByteArray)++((rdOf ByteArray.empty a2 a1).extract 1 (rdOf ByteArray.empty a2 a1).size)))) 9 rfl rfl (hon 15 (by kernel_rfl)) rfl
                    have e54:a.tmps[54]? = some (.string ((⟨#[42]⟩:ByteArray)++((rdOf ByteArray.empty a2 a1).extract ((ab):Int).toNat (rdOf ByteArray.empty a2 a1).size))):=by rw [ha];exact putSel_on (e:=(27,54,.string ((⟨#[42]⟩:ByteArray)++((rdOf ByteArray.empty a2 a1).extract ((ab):Int).toNat (rdOf ByteArray.empty a2 a1).size)))) 17 rfl rfl (hon 27 (by kernel_rfl)) rfl
                    replace ha:=Aside0.mk ha;have a4:=Aside0.mk Q_HO_7;have HB:=Aside0.mk Q_HB;refine Kd.R_lit_step Kd.string _ 9 ?hg (N:=55) ?hd (xs:=([rdOf ByteArray.empty a2 a1,(⟨#[42]⟩:ByteArray),((rdOf ByteArray.empty a2 a1).extract 0 1)++(⟨#[42]⟩:ByteArray),(⟨#[42,42]⟩:ByteArray),(⟨#[63]⟩:ByteArray)++((rdOf ByteArray.empty a2 a1).extract 1 (rdOf ByteArray.empty a2 a1).size),(⟨#[42]⟩:ByteArray)++((rdOf ByteArray.empty a2 a1).extract ((ab):Int).toNat (rdOf ByteArray.empty a2 a1).size)]:List ByteArray)) (inner:=[.string (rdOf ByteArray.empty a2 a1),.string (⟨#[42]⟩:ByteArray),.string (((rdOf ByteArray.empty a2 a1).extract 0 1)++(⟨#[42]⟩:ByteArray)),.string (⟨#[42,42]⟩:ByteArray),.string ((⟨#[63]⟩:ByteArray)++((rdOf ByteArray.empty a2 a1).extract 1 (rdOf ByteArray.empty a2 a1).size)),.string ((⟨#[42]⟩:ByteArray)++((rdOf ByteArray.empty a2 a1).extract ((ab):Int).toNat (rdOf ByteArray.empty a2 a1).size))]) (ok:=fun _=>True) (okp:=fun _=>True) ?hr ?hp (fun _ hk=>hk) trivial (Below.refl _ _) (Nat.le_refl _) (by simp) ?_;(case hd=>rfl);(case hg=>rfl);(case hr=>first|(go_simp;done)|(go_simp;rfl));(case hp=>exact (Reps.one (show Kd.M Kd.string _ _ _ (rdOf ByteArray.empty a2 a1) [.string (rdOf ByteArray.empty a2 a1)] from rfl) (Reps.one (show Kd.M Kd.string _ _ _ (⟨#[42]⟩:ByteArray) [.string (⟨#[42]⟩:ByteArray)] from rfl) (Reps.one (show Kd.M Kd.string _ _ _ (((rdOf ByteArray.empty a2 a1).extract 0 1)++(⟨#[42]⟩:ByteArray)) [.string (((rdOf ByteArray.empty a2 a1).extract 0 1)++(⟨#[42]⟩:ByteArray))] from rfl) (Reps.one (show Kd.M Kd.string _ _ _ (⟨#[42,42]⟩:ByteArray) [.string (⟨#[42,42]⟩:ByteArray)] from rfl) (Reps.one (show Kd.M Kd.string _ _ _ ((⟨#[63]⟩:ByteArray)++((rdOf ByteArray.empty a2 a1).extract 1 (rdOf ByteArray.empty a2 a1).size)) [.string ((⟨#[63]⟩:ByteArray)++((rdOf ByteArray.empty a2 a1).extract 1 (rdOf ByteArray.empty a2 a1).size))] from rfl) (Reps.one (show Kd.M Kd.string _ _ _ ((⟨#[42]⟩:ByteArray)++((rdOf ByteArray.empty a2 a1).extract ((ab):Int).toNat (rdOf ByteArray.empty a2 a1).size)) [.string ((⟨#[42]⟩:ByteArray)++((rdOf ByteArray.empty a2 a1).extract ((ab):Int).toNat (rdOf ByteArray.empty a2 a1).size))] from rfl) (Reps.none _ _))))))));intro a5 bA ho43 hb hg_ hnew_;clear hg_ hnew_;(first|rw [←b1.out] at ho43|(simp only [Int.reduceToNat] at ho43;rw [←b1.out] at ho43));have ao:=Aside0.mk (Kd.R_elder' (kr a4.out) (Kd.R_base ho43) hb);have ap:=Aside0.mk (Kd.R_lower (Kd.R_new' ho43 (Kd.R_lt (kr a4.out))) (below_size (be HB.out)));have bg:=Aside0.mk (below_step (be HB.out) hb)
                    have z_HI458:=fun (h0_:b 30=false)=>(show IsS173 w bA g458 a7 ag from by first|exact (IsS173.below (by repeat (first|(with_reducible first|exact (Q_HI458 h0_)|apply IsS173.alloc|apply IsS173.drewN|apply IsS173.drew|apply IsS173.set_1)|exact (Q_HI458 h0_))) hb))
                    have z_HI458_e30:=fun (h0_:b 30=true)=>(show IsS173 w bA g458 a7 aq from by first|exact (IsS173.below (by repeat (first|(with_reducible first|exact (Q_HI458_e30 h0_)|apply IsS173.alloc|apply IsS173.drewN|apply IsS173.drew|apply IsS173.set_1)|exact (Q_HI458_e30 h0_))) hb))
                    clear a4;clear HB;have a4:=ao;have ai:=ap;have HB:=bg;clear ao ap bg;clear hb ho43;obtain ⟨Ao44,cG,cH⟩:=Kd.R_slice ai.out;subst cH;obtain ⟨ado44,fo44,_⟩:=Kd.at_string (Kd.R_reads' ai.out).2.2 0 (by decide) (by rw [b1.out];simp)
                    cases fo44
                    refine hK.out _ _ ⟨.slice (some ado44) a8.length cG,ado44,m31_,(by rw [ha.out];exact putSel_upk 18 hb_ rfl rfl rfl),(by (with_reducible repeat (first|apply Kd.R_alloc|apply Kd.R_drewN|apply Kd.R_drew));exact Kd.R_mono a4.out (fun _ hk=>by first|exact hk.2|trivial)),z_HI458,(be HB.out),fun _=>(by (with_reducible repeat (first|apply Kd.R_alloc|apply Kd.R_drewN|apply Kd.R_drew));exact Kd.R_mono ai.out (fun _ hk=>by first|exact hk.2|trivial)),fun _=>⟨_,rfl⟩,z_HI458_e30,fun h0_=>absurd ((hoff 31 (by kernel_rfl)).symm.trans h0_) (by decide)⟩
                   refine steps_cons ?_ ?_
                   ·rintro b a w' ⟨a5,adz_v474,m31_,ha,Q_HO_7,Q_HI458,Q_HB,Q_HO475,Q_HA_HO475,Q_HI458_e30,Q_X31_⟩ hb_ hon hoff;refine ⟨_,rfl,fun K hK => ?_⟩
                    have e56:a.tmps[56]? = some (.pointer (some ⟨g458,0,none⟩)):=by rw [ha];exact (putSel_off rfl).trans rfl
                    replace ha:=Aside0.mk ha;have a4:=Aside0.mk Q_HO_7;have a3:=Aside0.mk (Q_HI458 hb_);have HB:=Aside0.mk Q_HB;refine goes_ Tryd.func66 (by kernel_rfl) rfl #[.pointer (some ⟨g458,0,none⟩),.int .i64 6] (by rfl) rfl rfl (by first|(simp only [List.map_toArray,List.map_cons,List.map_nil,Act.eval,Array.getD_eq_getD_getElem?,Option.getD_some,e56];done)|(simp only [List.map_toArray,List.map_cons,List.map_nil,Act.eval,Array.getD_eq_getD_getElem?,Option.getD_some,e56];rfl)) ?_;(with_reducible refine (spec_l1Rd_pick.calls k1 g458 a7 ag 6 aa aq w _ ?side1 ?side2 A25.out).mono ?_);(case side1=>exact iq173 a3.out);(case side2=>exact bq173 HB.out a3.out);rintro e bA ⟨rfl,hi,hb,hk⟩;refine ⟨_,rfl,?_⟩;have ao:=Aside0.mk (ra173 (iq173 a3.out) (kr a4.out) hk);have ap:=Aside0.mk (hb);have bh:=Aside0.mk (hi)
                    have z_HO475:=fun (h0_:b 28=true)=>(show Kd.R Kd.string 9 bA w.heap.size (fun k_=>some k_≠(.slice (some a6) a2.length aJ:Value).ownBlock) a5 a8 from by first|exact (Kd.R_mono (Kd.R_keep (IsS173.apart (show IsS173 w _ g458 a7 ag from iq173 a3.out) (by (with_reducible repeat (first|apply Kd.R_alloc|apply Kd.R_drewN|apply Kd.R_drew));exact (Q_HO475 h0_)) (by decide)) hk (fun _ h=>h.2)) (fun _ h=>h.1))|exact Kd.R_mono (Kd.R_mono (Kd.R_keep (IsS173.apart (show IsS173 w _ g458 a7 ag from iq173 a3.out) (by (with_reducible repeat (first|apply Kd.R_alloc|apply Kd.R_drewN|apply Kd.R_drew));exact (Q_HO475 h0_)) (by decide)) hk (fun _ h=>h.2)) (fun _ h=>h.1)) (fun _ h_=>by first|trivial|exact h_|exact h_.1))
                    clear a4;clear HB;clear a3;have a4:=ao;have HB:=ap;have a3:=bh;clear ao ap bh;(try clear hb);(try clear hb2);(try clear hk);(try clear hi);refine hK.out _ _ ⟨a5,adz_v474,m31_,(by rw [ha.out];exact putSel_upk 19 hb_ rfl rfl rfl),(kr a4.out),fun h0_=>absurd ((up_self b 30).symm.trans h0_) (by decide),(bq173 HB.out a3.out),z_HO475,Q_HA_HO475,fun _=>(iq173 a3.out),fun h0_=>absurd ((hoff 31 (by kernel_rfl)).symm.trans h0_) (by decide)⟩
                   refine steps_cons ?_ ?_
                   ·rintro b a w' ⟨a5,adz_v474,m31_,ha,Q_HO_7,Q_HI458,Q_HB,Q_HO475,Q_HA_HO475,Q_HI458_e30,Q_X31_⟩ hb_ hon hoff;refine ⟨_,rfl,fun K hK => ?_⟩
                    have e55:a.tmps[55]? = some (a5):=by rw [ha];exact putSel_on (e:=(28,55,a5)) 18 rfl rfl (hon 28 (by kernel_rfl)) rfl
                    have e57:a.tmps[57]? = some (.int .i64 aa):=by rw [ha];exact putSel_on (e:=(30,57,.int .i64 aa)) 19 rfl rfl (hon 30 (by kernel_rfl)) rfl
                    replace ha:=Aside0.mk ha;have a4:=Aside0.mk Q_HO_7;have HB:=Aside0.mk Q_HB;have ai:=Aside0.mk (Q_HO475 (hon 28 (by kernel_rfl)));have HA_HO475:=Aside0.mk (Q_HA_HO475 (hon 28 (by kernel_rfl)));have a3:=Aside0.mk (Q_HI458_e30 (hon 30 (by kernel_rfl)));obtain ⟨c_,hv_⟩:=HA_HO475.out
                    rw [hv_] at e55
                    refine value_ (w1:=w') (v:=.pointer (some (adz_v474.add (aa).toNat))) (by rfl) rfl ?_ ?_
                    ·go_simp;(try simp only [i64_w])
                     try rfl
                    refine hK.out _ _ ⟨a5,adz_v474,(.pointer (some (adz_v474.add (aa).toNat))),(by rw [ha.out];exact putSel_upk 20 hb_ rfl rfl rfl),Q_HO_7,fun h0_=>absurd ((hon 30 (by kernel_rfl)).symm.trans h0_) (by decide),Q_HB,Q_HO475,Q_HA_HO475,Q_HI458_e30,fun _=>rfl⟩
                   refine steps_cons ?_ ?_
                   ·rintro b a w' ⟨a5,adz_v474,m31_,ha,Q_HO_7,Q_HI458,Q_HB,Q_HO475,Q_HA_HO475,Q_HI458_e30,Q_X31_⟩ hb_ hon hoff;refine ⟨_,rfl,fun K hK => ?_⟩
                    have e58:a.tmps[58]? = some (m31_):=by rw [ha];exact putSel_on (e:=(31,58,m31_)) 20 rfl rfl (hon 31 (by kernel_rfl)) rfl
                    rw [Q_X31_ (hon 31 (by kernel_rfl))] at e58
                    replace ha:=Aside0.mk ha;have a4:=Aside0.mk Q_HO_7;have HB:=Aside0.mk Q_HB;have ai:=Aside0.mk (Q_HO475 (hon 28 (by kernel_rfl)));have HA_HO475:=Aside0.mk (Q_HA_HO475 (hon 28 (by kernel_rfl)));have a3:=Aside0.mk (Q_HI458_e30 (hon 30 (by kernel_rfl)));obtain ⟨c_,hv_⟩:=HA_HO475.out;have hF_:=ai.out
                    rw [hv_] at hF_
                    obtain ⟨ad_,ea_,hx_⟩:=Kd.at_string (Kd.R_reads' hF_).2.2 aa (of_eq_true pi478) (of_eq_true qi478)
                    cases ea_
                    refine value_ (w1:=w') (v:=.string (rdOf ByteArray.empty a8 aa)) (by rfl) rfl ?_ ?_
                    ·go_simp;(try simp only [i64_w])
                     try rfl
                    refine hK.out _ _ ⟨a5,adz_v474,m31_,(by rw [ha.out];exact putSel_upk 21 hb_ rfl rfl rfl),Q_HO_7,fun h0_=>absurd ((hon 30 (by kernel_rfl)).symm.trans h0_) (by decide),Q_HB,Q_HO475,Q_HA_HO475,Q_HI458_e30,Q_X31_⟩
                   refine steps_cons ?_ ?_
                   ·rintro b a w' ⟨a5,adz_v474,m31_,ha,Q_HO_7,Q_HI458,Q_HB,Q_HO475,Q_HA_HO475,Q_HI458_e30,Q_X31_⟩ hb_ hon hoff;refine ⟨_,rfl,fun K hK => ?_⟩
                    have e59:a.tmps[59]? = some (.string (rdOf ByteArray.empty a8 aa)):=by rw [ha];exact putSel_on (e:=(32,59,.string (rdOf ByteArray.empty a8 aa))) 21 rfl rfl (hon 32 (by kernel_rfl)) rfl
                    replace ha:=Aside0.mk ha;have a4:=Aside0.mk Q_HO_7;have HB:=Aside0.mk Q_HB;have ai:=Aside0.mk (Q_HO475 (hon 28 (by kernel_rfl)));have HA_HO475:=Aside0.mk (Q_HA_HO475 (hon 28 (by kernel_rfl)));have a3:=Aside0.mk (Q_HI458_e30 (hon 30 (by kernel_rfl)));refine value_ (w1:=w') (v:=.string (rdOf ByteArray.empty a8 aa)) (by rfl) rfl ?_ ?_
                    ·go_simp;(try simp only [i64_w])
                     try rfl
                    refine hK.out _ _ ⟨a5,adz_v474,m31_,(by rw [ha.out];exact putSel_upk 22 hb_ rfl rfl rfl),Q_HO_7,fun h0_=>absurd ((hon 30 (by kernel_rfl)).symm.trans h0_) (by decide),Q_HB,Q_HO475,Q_HA_HO475,Q_HI458_e30,Q_X31_⟩
                   exact steps_nil
                  rintro b a w46 hall ⟨a5,adz_v474,m31_,ha,Q_HO_7,Q_HI458,Q_HB,Q_HO475,Q_HA_HO475,Q_HI458_e30,Q_X31_⟩;clear HB a3 a4;have hb2_:=hall 2 (by kernel_rfl);have hb3_:=hall 3 (by kernel_rfl);have hb6_:=hall 6 (by kernel_rfl);have hb7_:=hall 7 (by kernel_rfl);have hb8_:=hall 8 (by kernel_rfl);have hb9_:=hall 9 (by kernel_rfl);have hb12_:=hall 12 (by kernel_rfl);have hb13_:=hall 13 (by kernel_rfl);have hb14_:=hall 14 (by kernel_rfl);have hb15_:=hall 15 (by kernel_rfl);have hb18_:=hall 18 (by kernel_rfl);have hb19_:=hall 19 (by kernel_rfl);have hb22_:=hall 22 (by kernel_rfl);have hb23_:=hall 23 (by kernel_rfl);have hb24_:=hall 24 (by kernel_rfl);have hb25_:=hall 25 (by kernel_rfl);have hb26_:=hall 26 (by kernel_rfl);have hb27_:=hall 27 (by kernel_rfl);have hb28_:=hall 28 (by kernel_rfl);have hb30_:=hall 30 (by kernel_rfl);have hb31_:=hall 31 (by kernel_rfl);have hb32_:=hall 32 (by kernel_rfl);have hb33_:=hall 33 (by kernel_rfl);subst ha;obtain rfl:=Q_X31_ hb31_;simp only [putSel,hb2_,hb3_,hb6_,hb7_,hb8_,hb9_,hb12_,hb13_,hb14_,hb15_,hb18_,hb19_,hb22_,hb23_,hb24_,hb25_,hb26_,hb27_,hb28_,hb30_,hb31_,hb32_,hb33_,if_true,Act.put,List.setIfInBounds_toArray,List.set_cons_zero,List.set_cons_succ];have a4:=Aside0.mk Q_HO_7;clear Q_HO_7;clear Q_HI458;have HB:=Aside0.mk Q_HB;clear Q_HB;have ai:=Aside0.mk (Q_HO475 hb28_);clear Q_HO475;have HA_HO475:=Aside0.mk (Q_HA_HO475 hb28_);clear Q_HA_HO475;have a3:=Aside0.mk (Q_HI458_e30 hb30_);clear Q_HI458_e30;clear hall hb2_ hb3_ hb6_ hb7_ hb8_ hb9_ hb12_ hb13_ hb14_ hb15_ hb18_ hb19_ hb22_ hb23_ hb24_ hb25_ hb26_ hb27_ hb28_ hb30_ hb31_ hb32_ hb33_;obtain ⟨co47,cI⟩:=HA_HO475.out;clear HA_HO475;subst cI
                  try go_wp2
                  go_roundg k1
                  case measure=>have:=HK1.out;omega
                  case rel=>exact ⟨(a9++(rdOf ByteArray.empty a8 aa)),(wrap64 (a1+1)),(aq),Ye1,Ye1,H',⟨by have:=HK1.out;omega⟩,⟨by (with_reducible repeat (first|apply Kd.R_alloc|apply Kd.R_drewN|apply Kd.R_drew));exact Kd.R_mono a4.out (fun _ hk=>trivial)⟩,⟨iq173 a3.out⟩,⟨bq173 HB.out a3.out⟩⟩
                 ·rw [if_neg b4] at H
                  exact absurd H (by simp)
               ·rw [if_neg ba] at H
                exact absurd H (by simp)
              ·rw [if_neg b9] at H
               exact absurd H (by simp)
             ·rw [if_neg aQ] at H
              exact absurd H (by simp)
            ·rw [if_neg b0] at H
             exact absurd H (by simp)
           ·rw [if_neg aZ] at H
            exact absurd H (by simp)
          ·rw [if_neg aP] at H
           exact absurd H (by simp)
         ·rw [if_neg aY] at H
          exact absurd H (by simp)
        ·rw [if_neg aX] at H
         exact absurd H (by simp)
       ·rw [if_neg aW] at H
        exact absurd H (by simp)
      ·rw [if_neg b7] at H
       exact absurd H (by simp)
     ·rw [if_neg aO] at H
      have cg:decide (a1<(a2.length:Int))=false:=decide_eq_false aO;clear aO;replace H:=Option.bind_eq_some_iff.mp H;obtain ⟨⟨aH,aD⟩,ci,H⟩:=H;replace H:(if aH=0 then (if (a2.length:Int)<6 then (if 3+a9.size≤9223372036854775807 then (if a9.size+3≤9223372036854775807 then ((some (([(⟨#[42,42,47]⟩:ByteArray)++a9,a9++(⟨#[47,42,42]⟩:ByteArray)]:List ByteArray):List ByteArray)).bind fun ak=>((spec_l1Rd_pick.f k1 a7 aD 2).bind fun bt484=>(if 0≤bt484.1 then (if bt484.1<(ak.length:Int) then (spec_DrawMatch.j1 k1 ac (rdOf ByteArray.empty ak bt484.1) a7 bt484.2) else (none)) else (none)))) else (none)) else (none)) else (spec_DrawMatch.j1 k1 ac a9 a7 aD)) else (spec_DrawMatch.j1 k1 ac a9 a7 aD))=some (r1,r2):=H;have ca:=Aside0.mk ci;clear ci
      by_cases aK:aH=0
      ·rw [if_pos aK] at H
       have cj:(aH==0)=true:=beq_iff_eq.mpr aK;have ck:(aH != 0)=false:=bne_eq_false_iff_eq.mpr aK;clear aK
       by_cases aR:(a2.length:Int)<6
       ·rw [if_pos aR] at H
        have cl:decide ((a2.length:Int)<6)=true:=decide_eq_true aR;have cm:decide (a2.length<6)=true:=decide_eq_true (by omega);clear aR
        by_cases b5:3+a9.size≤9223372036854775807
        ·rw [if_pos b5] at H
         have cJ:=eq_true b5;have cK:decide (3+a9.size≤9223372036854775807)=true:=decide_eq_true b5
         try have cL:(9223372036854775807<3+a9.size)=False:=eq_false (Nat.not_lt.2 b5)
         by_cases b6:a9.size+3≤9223372036854775807
         ·rw [if_pos b6] at H
          have cM:=eq_true b6;have cN:decide (a9.size+3≤9223372036854775807)=true:=decide_eq_true b6
          try have cO:(9223372036854775807<a9.size+3)=False:=eq_false (Nat.not_lt.2 b6)
          obtain ⟨ak,bi⟩:∃ y_:List ByteArray,y_=(([(⟨#[42,42,47]⟩:ByteArray)++a9,a9++(⟨#[47,42,42]⟩:ByteArray)]:List ByteArray)):=⟨_,rfl⟩
          replace H:((spec_l1Rd_pick.f k1 a7 aD 2).bind fun bt484=>(if 0≤bt484.1 then (if bt484.1<(ak.length:Int) then (spec_DrawMatch.j1 k1 ac (rdOf ByteArray.empty ak bt484.1) a7 bt484.2) else (none)) else (none)))=some (r1,r2):=by first|(rw [bi];with_reducible exact H)|(have H2_:=(Option.bind_some _ _).symm.trans H;rw [bi];with_reducible exact H2_)|(have H2_:=(Option.bind_some _ _).symm.trans H;with_reducible exact H2_)|with_reducible exact H|(rw [bi];exact H)|exact H
          have cn:=Aside0.mk bi;clear bi;replace H:=Option.bind_eq_some_iff.mp H;obtain ⟨⟨an,cc⟩,co,H⟩:=H;replace H:(if 0≤an then (if an<(ak.length:Int) then (spec_DrawMatch.j1 k1 ac (rdOf ByteArray.empty ak an) a7 cc) else (none)) else (none))=some (r1,r2):=H;have A53:=Aside0.mk co;clear co
          by_cases bj:0≤an
          ·rw [if_pos bj] at H
           have cP:decide (0≤an)=true:=decide_eq_true bj;clear bj
           by_cases bm:an<(ak.length:Int)
           ·rw [if_pos bm] at H
            have cQ:decide (an<(ak.length:Int))=true:=decide_eq_true bm;clear bm;have H':=Aside0.mk H;clear H;obtain ⟨Ao56,co56,cR⟩:=Kd.R_slice a4.out;subst cR
            go_wp2_with (first|((with_reducible refine gc 66 rfl ?_);refine gl (some 68) _ (#[.pointer (some ⟨g458,0,none⟩),.int .i64 6]) Tryd.func66 ?_;(with_reducible refine (spec_l1Rd_pick.calls k1 g458 a7 ag 6 aH aD w _ ?side1 ?side2 ca.out).mono ?_);(case side1=>exact iq173 a3.out);(case side2=>exact bq173 HB.out a3.out);rintro e w57 ⟨rfl,hi,hb,hk⟩;refine ⟨_,rfl,?_⟩;refine Ya3 (ra173 (iq173 a3.out) (kr a4.out) hk) (hb) (hi) ?_;clear a4 HB a3;intro a4 HB a3;(try clear hb);(try clear hb2);(try clear hk);(try clear hi))|((with_reducible refine gd 79 rfl ?_);(try (refine gate_guard (by rfl) ?_;dsimp only));refine Kd.R_lit Kd.string _ 9 ?hg (N:=79) ?hd (xs:=([(⟨#[42,42,47]⟩:ByteArray)++a9,a9++(⟨#[47,42,42]⟩:ByteArray)]:List ByteArray)) (inner:=[.string ((⟨#[42,42,47]⟩:ByteArray)++a9),.string (a9++(⟨#[47,42,42]⟩:ByteArray))]) (ok:=fun _=>True) (okp:=fun _=>True) ?hr ?hp (fun _ hk=>hk) trivial (Below.refl _ _) (Nat.le_refl _) (by simp) ?_;(case hd=>rfl);(case hg=>rfl);(case hr=>first|(go_simp;done)|(go_simp;rfl));(case hp=>exact (Reps.one (show Kd.M Kd.string _ _ _ ((⟨#[42,42,47]⟩:ByteArray)++a9) [.string ((⟨#[42,42,47]⟩:ByteArray)++a9)] from rfl) (Reps.one (show Kd.M Kd.string _ _ _ (a9++(⟨#[47,42,42]⟩:ByteArray)) [.string (a9++(⟨#[47,42,42]⟩:ByteArray))] from rfl) (Reps.none _ _))));intro v482 w58 ho59 hb hg_ hnew_;clear hg_ hnew_;(first|rw [←cn.out] at ho59|(simp only [Int.reduceToNat] at ho59;rw [←cn.out] at ho59));refine Ya4 (Kd.R_elder' (kr a4.out) (Kd.R_base ho59) hb) (Kd.R_lower (Kd.R_new' ho59 (Kd.R_lt (kr a4.out))) (below_size (bq173 HB.out a3.out))) (IsS173.below (iq173 a3.out) hb) (below_step (bq173 HB.out a3.out) hb) ?_;clear a4 a3 HB;intro a4 bn a3 HB;clear hb ho59)|((with_reducible refine gc 66 rfl ?_);refine gl (some 81) _ (#[.pointer (some ⟨g458,0,none⟩),.int .i64 2]) Tryd.func66 ?_;(with_reducible refine (spec_l1Rd_pick.calls k1 g458 a7 aD 2 an cc w _ ?side1 ?side2 A53.out).mono ?_);(case side1=>exact iq173 a3.out);(case side2=>exact bq173 HB.out a3.out);rintro e w60 ⟨rfl,hi,hb,hk⟩;refine ⟨_,rfl,?_⟩;refine Ya4 (ra173 (iq173 a3.out) (kr a4.out) hk) (ra173 (iq173 a3.out) (kr bn.out) hk) (hb) (hi) ?_;clear a4 bn HB a3;intro a4 bn HB a3;(try clear hb);(try clear hb2);(try clear hk);(try clear hi);obtain ⟨Ao61,co61,cS⟩:=Kd.R_slice bn.out;subst cS;have bB:0≤(an:Int):=oda;have bC:an<(ak.length:Int):=oda;obtain ⟨ad486,cT,cU⟩:=Kd.at_string (Kd.R_reads' bn.out).2.2 an bB bC;cases cT;replace bB:=eq_true bB;replace bC:=eq_true bC))
            go_meet
            case rel=>exact ⟨_,(rdOf ByteArray.empty ak an),(cc),Ye1,H',⟨by have:=HK1.out;first|omega|exact Nat.le_refl _⟩,⟨iq173 a3.out⟩,⟨bq173 HB.out a3.out⟩⟩
           ·rw [if_neg bm] at H
            exact absurd H (by simp)
          ·rw [if_neg bj] at H
           exact absurd H (by simp)
         ·rw [if_neg b6] at H
          exact absurd H (by simp)
        ·rw [if_neg b5] at H
         exact absurd H (by simp)
       ·rw [if_neg aR] at H
        have cl:decide ((a2.length:Int)<6)=false:=decide_eq_false aR;have cm:decide (a2.length<6)=false:=decide_eq_false (by omega);clear aR;have H':=Aside0.mk H;clear H;obtain ⟨Ao62,co62,cV⟩:=Kd.R_slice a4.out;subst cV
        go_wp2_with (first|((with_reducible refine gc 66 rfl ?_);refine gl (some 68) _ (#[.pointer (some ⟨g458,0,none⟩),.int .i64 6]) Tryd.func66 ?_;(with_reducible refine (spec_l1Rd_pick.calls k1 g458 a7 ag 6 aH aD w _ ?side1 ?side2 ca.out).mono ?_);(case side1=>exact iq173 a3.out);(case side2=>exact bq173 HB.out a3.out);rintro e w63 ⟨rfl,hi,hb,hk⟩;refine ⟨_,rfl,?_⟩;refine Ya3 (ra173 (iq173 a3.out) (kr a4.out) hk) (hb) (hi) ?_;clear a4 HB a3;intro a4 HB a3;(try clear hb);(try clear hb2);(try clear hk);(try clear hi)))
        go_meet
        case rel=>exact ⟨_,(a9),(aD),Ye1,H',⟨by have:=HK1.out;first|omega|exact Nat.le_refl _⟩,⟨iq173 a3.out⟩,⟨bq173 HB.out a3.out⟩⟩
      ·rw [if_neg aK] at H
       have cj:(aH==0)=false:=beq_eq_false_iff_ne.mpr aK;have ck:(aH != 0)=true:=bne_iff_ne.mpr aK;have H':=Aside0.mk H;clear H;obtain ⟨Ao64,co64,cW⟩:=Kd.R_slice a4.out;subst cW
       go_wp2_with (first|((with_reducible refine gc 66 rfl ?_);refine gl (some 68) _ (#[.pointer (some ⟨g458,0,none⟩),.int .i64 6]) Tryd.func66 ?_;(with_reducible refine (spec_l1Rd_pick.calls k1 g458 a7 ag 6 aH aD w _ ?side1 ?side2 ca.out).mono ?_);(case side1=>exact iq173 a3.out);(case side2=>exact bq173 HB.out a3.out);rintro e w65 ⟨rfl,hi,hb,hk⟩;refine ⟨_,rfl,?_⟩;refine Ya3 (ra173 (iq173 a3.out) (kr a4.out) hk) (hb) (hi) ?_;clear a4 HB a3;intro a4 HB a3;(try clear hb);(try clear hb2);(try clear hk);(try clear hi)))
       go_meet
       case rel=>exact ⟨_,(a9),(aD),Ye1,H',⟨by have:=HK1.out;first|omega|exact Nat.le_refl _⟩,⟨iq173 a3.out⟩,⟨bq173 HB.out a3.out⟩⟩
  ·rw [if_neg aG] at H
   have aN:(aL==0)=false:=beq_eq_false_iff_ne.mpr aG;have bK:(aL != 0)=true:=bne_iff_ne.mpr aG;(first|rw [aN]|(simp only [i64_w,i32_w];rw [aN])|skip);have H':=Aside0.mk H;clear H
   go_wp2
   go_meet
   case rel=>exact ⟨_,(bw),(aV),Ye1,H',⟨by first|omega|exact Nat.le_refl _⟩,⟨iq173 a3.out⟩,⟨bq173 HB.out a3.out⟩⟩
 case rest =>
  clear bJ;(try clear c1);(try clear c2);(try clear p2);(try clear c3);(try clear c4);(try clear p4);(try clear q4);(try clear hx4);(try clear qi4);(try clear c5);(try clear c6);(try clear p6);(try clear aG);(try clear aN);(try clear bK);(try clear aO);(try clear cg);(try clear b7);(try clear aW);(try clear aX);(try clear aY);(try clear aP);(try clear aZ);(try clear b0);(try clear aQ);(try clear b9);(try clear ba);(try clear b4);(try clear p46);(try clear q46);(try clear hx46);(try clear p47);(try clear q47);(try clear hx47);(try clear qi47);(try clear p48);(try clear q48);(try clear hx48);(try clear aK);(try clear cj);(try clear ck);(try clear aR);(try clear cl);(try clear cm);(try clear b5);(try clear cJ);(try clear cK);(try clear cL);(try clear b6);(try clear cM);(try clear cN);(try clear cO);(try clear bj);(try clear cP);(try clear bm);(try clear cQ);(try clear p64);(try clear cU);(try clear ar);(try clear av);(try clear ax);(try clear az);(try clear aB);(try clear bB);(try clear au);(try clear aw);(try clear ay);(try clear aA);(try clear aC);(try clear bC);obtain ⟨kq,aF,aM,rfl,HA,HJ5,a3,HB⟩:=hcut
  cases kq with
  | zero=>exact absurd HA.out (by simp [spec_DrawMatch.j1])
  | succ ah =>
   have H:=HA.out;clear HA;simp only [spec_DrawMatch.j1] at H;replace H:=Option.bind_eq_some_iff.mp H;obtain ⟨⟨ae,am⟩,cp,H⟩:=H;replace H:(if ae=0 then ((spec_l4Spoil.f ah a7 am aF).bind fun bt489=>(some (bt489.1,ac))) else (if ae=1 then ((spec_l4Spoil.f ah a7 am ac).bind fun bt491=>(some (aF,bt491.1))) else (if ae=2 then ((spec_l1Many.f ah (⟨#[42,97]⟩:ByteArray) 9).bind fun aE=>((spec_l1Many.f ah (⟨#[97]⟩:ByteArray) 18).bind fun af=>((some (([(⟨#[]⟩:ByteArray),(⟨#[98]⟩:ByteArray)]:List ByteArray):List ByteArray)).bind fun ad=>((spec_l1Rd_pick.f ah a7 am 2).bind fun bt498=>(if 0≤bt498.1 then (if bt498.1<(ad.length:Int) then (if af.size+(rdOf ByteArray.empty ad bt498.1).size≤9223372036854775807 then (some (aE,af++(rdOf ByteArray.empty ad bt498.1))) else (none)) else (none)) else (none)))))) else (some (aF,ac)))))=some (r1,r2):=H;have bD:=Aside0.mk cp;clear cp
   by_cases aS:ae=0
   ·rw [if_pos aS] at H
    have cX:(ae==0)=true:=beq_iff_eq.mpr aS;have cY:(ae != 0)=false:=bne_eq_false_iff_eq.mpr aS;clear aS;replace H:=Option.bind_eq_some_iff.mp H;obtain ⟨⟨cq,cZ⟩,cr,H⟩:=H;replace H:(some (cq,ac))=some (r1,r2):=H;have A68:=Aside0.mk cr;clear cr;simp only [Option.some.injEq,Prod.mk.injEq] at H;obtain ⟨rfl,rfl⟩:=H
    go_wp2_with (first|((with_reducible refine gc 66 rfl ?_);refine gl (some 85) _ (#[.pointer (some ⟨g458,0,none⟩),.int .i64 16]) Tryd.func66 ?_;(with_reducible refine (spec_l1Rd_pick.calls ah g458 a7 aM 16 ae am w _ ?side1 ?side2 bD.out).mono ?_);(case side1=>exact iq173 a3.out);(case side2=>exact bq173 HB.out a3.out);rintro e w69 ⟨rfl,hi,hb,hk⟩;refine ⟨_,rfl,?_⟩;refine Ya2 (hb) (hi) ?_;clear HB a3;intro HB a3;(try clear hb);(try clear hb2);(try clear hk);(try clear hi))|((with_reducible refine gc 67 rfl ?_);refine gl (some 90) _ (#[.pointer (some ⟨g458,0,none⟩),.string aF]) Tryd.func67 ?_;(with_reducible refine (spec_l4Spoil.calls ah g458 a7 am aF cq cZ w _ ?side1 ?side2 A68.out).mono ?_);(case side1=>exact iq173 a3.out);(case side2=>exact bq173 HB.out a3.out);rintro e w70 ⟨rfl,hi,hb,hk⟩;refine ⟨_,rfl,?_⟩;refine Ya2 (hb) (hi) ?_;clear HB a3;intro HB a3;(try clear hb);(try clear hb2);(try clear hk);(try clear hi)))
    go_ret2
    exact ⟨Ye2,bq173 HB.out a3.out⟩
   ·rw [if_neg aS] at H
    have cX:(ae==0)=false:=beq_eq_false_iff_ne.mpr aS;have cY:(ae != 0)=true:=bne_iff_ne.mpr aS
    by_cases aT:ae=1
    ·rw [if_pos aT] at H
     have d0:(ae==1)=true:=beq_iff_eq.mpr aT;have d1:(ae != 1)=false:=bne_eq_false_iff_eq.mpr aT;clear aT;replace H:=Option.bind_eq_some_iff.mp H;obtain ⟨⟨cs,d2⟩,ct,H⟩:=H;replace H:(some (aF,cs))=some (r1,r2):=H;have A72:=Aside0.mk ct;clear ct;simp only [Option.some.injEq,Prod.mk.injEq] at H;obtain ⟨rfl,rfl⟩:=H
     go_wp2_with (first|((with_reducible refine gc 66 rfl ?_);refine gl (some 85) _ (#[.pointer (some ⟨g458,0,none⟩),.int .i64 16]) Tryd.func66 ?_;(with_reducible refine (spec_l1Rd_pick.calls ah g458 a7 aM 16 ae am w _ ?side1 ?side2 bD.out).mono ?_);(case side1=>exact iq173 a3.out);(case side2=>exact bq173 HB.out a3.out);rintro e w73 ⟨rfl,hi,hb,hk⟩;refine ⟨_,rfl,?_⟩;refine Ya2 (hb) (hi) ?_;clear HB a3;intro HB a3;(try clear hb);(try clear hb2);(try clear hk);(try clear hi))|((with_reducible refine gc 67 rfl ?_);refine gl (some 95) _ (#[.pointer (some ⟨g458,0,none⟩),.string ac]) Tryd.func67 ?_;(with_reducible refine (spec_l4Spoil.calls ah g458 a7 am ac cs d2 w _ ?side1 ?side2 A72.out).mono ?_);(case side1=>exact iq173 a3.out);(case side2=>exact bq173 HB.out a3.out);rintro e w74 ⟨rfl,hi,hb,hk⟩;refine ⟨_,rfl,?_⟩;refine Ya2 (hb) (hi) ?_;clear HB a3;intro HB a3;(try clear hb);(try clear hb2);(try clear hk);(try clear hi)))
     go_ret2
     exact ⟨Ye2,bq173 HB.out a3.out⟩
    ·rw [if_neg aT] at H
     have d0:(ae==1)=false:=beq_eq_false_iff_ne.mpr aT;have d1:(ae != 1)=true:=bne_iff_ne.mpr aT
     by_cases aU:ae=2
     ·rw [if_pos aU] at H
      have d3:(ae==2)=true:=beq_iff_eq.mpr aU;have d4:(ae != 2)=false:=bne_eq_false_iff_eq.mpr aU;clear aU;replace H:=Option.bind_eq_some_iff.mp H;obtain ⟨aE,cu,H⟩:=H;replace H:((spec_l1Many.f ah (⟨#[97]⟩:ByteArray) 18).bind fun af=>((some (([(⟨#[]⟩:ByteArray),(⟨#[98]⟩:ByteArray)]:List ByteArray):List ByteArray)).bind fun ad=>((spec_l1Rd_pick.f ah a7 am 2).bind fun bt498=>(if 0≤bt498.1 then (if bt498.1<(ad.length:Int) then (if af.size+(rdOf ByteArray.empty ad bt498.1).size≤9223372036854775807 then (some (aE,af++(rdOf ByteArray.empty ad bt498.1))) else (none)) else (none)) else (none)))))=some (r1,r2):=H;have A76:=Aside0.mk cu;clear cu;replace H:=Option.bind_eq_some_iff.mp H;obtain ⟨af,cv,H⟩:=H;replace H:((some (([(⟨#[]⟩:ByteArray),(⟨#[98]⟩:ByteArray)]:List ByteArray):List ByteArray)).bind fun ad=>((spec_l1Rd_pick.f ah a7 am 2).bind fun bt498=>(if 0≤bt498.1 then (if bt498.1<(ad.length:Int) then (if af.size+(rdOf ByteArray.empty ad bt498.1).size≤9223372036854775807 then (some (aE,af++(rdOf ByteArray.empty ad bt498.1))) else (none)) else (none)) else (none))))=some (r1,r2):=H;have A77:=Aside0.mk cv;clear cv
      obtain ⟨ad,bo⟩:∃ y_:List ByteArray,y_=(([(⟨#[]⟩:ByteArray),(⟨#[98]⟩:ByteArray)]:List ByteArray)):=⟨_,rfl⟩
      replace H:((spec_l1Rd_pick.f ah a7 am 2).bind fun bt498=>(if 0≤bt498.1 then (if bt498.1<(ad.length:Int) then (if af.size+(rdOf ByteArray.empty ad bt498.1).size≤9223372036854775807 then (some (aE,af++(rdOf ByteArray.empty ad bt498.1))) else (none)) else (none)) else (none)))=some (r1,r2):=by first|(rw [bo];with_reducible exact H)|(have H2_:=(Option.bind_some _ _).symm.trans H;rw [bo];with_reducible exact H2_)|(have H2_:=(Option.bind_some _ _).symm.trans H;with_reducible exact H2_)|with_reducible exact H|(rw [bo];exact H)|exact H
      have cw:=Aside0.mk bo;clear bo;replace H:=Option.bind_eq_some_iff.mp H;obtain ⟨⟨aj,d5⟩,cx,H⟩:=H;replace H:(if 0≤aj then (if aj<(ad.length:Int) then (if af.size+(rdOf ByteArray.empty ad aj).size≤9223372036854775807 then (some (aE,af++(rdOf ByteArray.empty ad aj))) else (none)) else (none)) else (none))=some (r1,r2):=H;have A78:=Aside0.mk cx;clear cx
      by_cases bE:0≤aj
      ·rw [if_pos bE] at H
       have c79b0:decide (0≤aj)=true:=decide_eq_true bE;clear bE
       by_cases bF:aj<(ad.length:Int)
       ·rw [if_pos bF] at H
        have c80b0:decide (aj<(ad.length:Int))=true:=decide_eq_true bF;clear bF
        by_cases bq:af.size+(rdOf ByteArray.empty ad aj).size≤9223372036854775807
        ·rw [if_pos bq] at H
         have c81b0:=eq_true bq;have c81b1:decide (af.size+(rdOf ByteArray.empty ad aj).size≤9223372036854775807)=true:=decide_eq_true bq
         try have c81b2:(9223372036854775807<af.size+(rdOf ByteArray.empty ad aj).size)=False:=eq_false (Nat.not_lt.2 bq)
         simp only [Option.some.injEq,Prod.mk.injEq] at H;obtain ⟨rfl,rfl⟩:=H
         go_wp2_with (first|((with_reducible refine gc 66 rfl ?_);refine gl (some 85) _ (#[.pointer (some ⟨g458,0,none⟩),.int .i64 16]) Tryd.func66 ?_;(with_reducible refine (spec_l1Rd_pick.calls ah g458 a7 aM 16 ae am w _ ?side1 ?side2 bD.out).mono ?_);(case side1=>exact iq173 a3.out);(case side2=>exact bq173 HB.out a3.out);rintro e w82 ⟨rfl,hi,hb,hk⟩;refine ⟨_,rfl,?_⟩;refine Ya2 (hb) (hi) ?_;clear HB a3;intro HB a3;(try clear hb);(try clear hb2);(try clear hk);(try clear hi))|((with_reducible refine gc 68 rfl ?_);refine gl (some 98) _ (#[.string (⟨#[42,97]⟩:ByteArray),.int .i64 9]) Tryd.func68 ?_;(with_reducible refine (spec_l1Many.calls ah (⟨#[42,97]⟩:ByteArray) 9 aE _ A76.out).mono ?_);rintro e w' ⟨rfl,⟨nd,rfl⟩⟩;refine ⟨_,rfl,?_⟩)|((with_reducible refine gc 68 rfl ?_);refine gl (some 99) _ (#[.string (⟨#[97]⟩:ByteArray),.int .i64 18]) Tryd.func68 ?_;(with_reducible refine (spec_l1Many.calls ah (⟨#[97]⟩:ByteArray) 18 af _ A77.out).mono ?_);rintro e w' ⟨rfl,⟨nd,rfl⟩⟩;refine ⟨_,rfl,?_⟩)|((with_reducible refine gd 100 rfl ?_);(try (refine gate_guard (by rfl) ?_;dsimp only));refine Kd.R_lit Kd.string _ 9 ?hg (N:=100) ?hd (xs:=([(⟨#[]⟩:ByteArray),(⟨#[98]⟩:ByteArray)]:List ByteArray)) (inner:=[.string (⟨#[]⟩:ByteArray),.string (⟨#[98]⟩:ByteArray)]) (ok:=fun _=>True) (okp:=fun _=>True) ?hr ?hp (fun _ hk=>hk) trivial (Below.refl _ _) (Nat.le_refl _) (by simp) ?_;(case hd=>rfl);(case hg=>rfl);(case hr=>first|(go_simp;done)|(go_simp;rfl));(case hp=>exact (Reps.one (show Kd.M Kd.string _ _ _ (⟨#[]⟩:ByteArray) [.string (⟨#[]⟩:ByteArray)] from rfl) (Reps.one (show Kd.M Kd.string _ _ _ (⟨#[98]⟩:ByteArray) [.string (⟨#[98]⟩:ByteArray)] from rfl) (Reps.none _ _))));intro v496 w83 ho84 hb hg_ hnew_;clear hg_ hnew_;(first|rw [←cw.out] at ho84|(simp only [Int.reduceToNat] at ho84;rw [←cw.out] at ho84));refine Ya3 (Kd.R_lower ho84 (below_size (bq173 HB.out a3.out))) (IsS173.below (iq173 a3.out) hb) (below_step (bq173 HB.out a3.out) hb) ?_;clear a3 HB;intro bu a3 HB;clear hb ho84)|((with_reducible refine gc 66 rfl ?_);refine gl (some 102) _ (#[.pointer (some ⟨g458,0,none⟩),.int .i64 2]) Tryd.func66 ?_;(with_reducible refine (spec_l1Rd_pick.calls ah g458 a7 am 2 aj d5 w _ ?side1 ?side2 A78.out).mono ?_);(case side1=>exact iq173 a3.out);(case side2=>exact bq173 HB.out a3.out);rintro e w85 ⟨rfl,hi,hb,hk⟩;refine ⟨_,rfl,?_⟩;refine Ya3 (ra173 (iq173 a3.out) (kr bu.out) hk) (hb) (hi) ?_;clear bu HB a3;intro bu HB a3;(try clear hb);(try clear hb2);(try clear hk);(try clear hi);obtain ⟨Ao86,co86,d6⟩:=Kd.R_slice bu.out;subst d6;have cd:0≤(aj:Int):=oda;have ce:aj<(ad.length:Int):=oda;obtain ⟨ad500,d7,d8⟩:=Kd.at_string (Kd.R_reads' bu.out).2.2 aj cd ce;cases d7;replace cd:=eq_true cd;replace ce:=eq_true ce))
         go_ret2
         exact ⟨Ye2,bq173 HB.out a3.out⟩
        ·rw [if_neg bq] at H
         exact absurd H (by simp)
       ·rw [if_neg bF] at H
        exact absurd H (by simp)
      ·rw [if_neg bE] at H
       exact absurd H (by simp)
     ·rw [if_neg aU] at H
      have d3:(ae==2)=false:=beq_eq_false_iff_ne.mpr aU;have d4:(ae != 2)=true:=bne_iff_ne.mpr aU;simp only [Option.some.injEq,Prod.mk.injEq] at H;obtain ⟨rfl,rfl⟩:=H
      go_wp2_with (first|((with_reducible refine gc 66 rfl ?_);refine gl (some 85) _ (#[.pointer (some ⟨g458,0,none⟩),.int .i64 16]) Tryd.func66 ?_;(with_reducible refine (spec_l1Rd_pick.calls ah g458 a7 aM 16 ae am w _ ?side1 ?side2 bD.out).mono ?_);(case side1=>exact iq173 a3.out);(case side2=>exact bq173 HB.out a3.out);rintro e w87 ⟨rfl,hi,hb,hk⟩;refine ⟨_,rfl,?_⟩;refine Ya2 (hb) (hi) ?_;clear HB a3;intro HB a3;(try clear hb);(try clear hb2);(try clear hk);(try clear hi)))
      go_ret2
      exact ⟨Ye2,bq173 HB.out a3.out⟩

end Go.Proofs.YtknagppkeodggaaDoor.P


namespace Go.Proofs.YtknagppkeodggaaDoor.P
open Go.RowKit Go.Proofs.YtknagppkeodggaaDoorW.PrintWords Go.Proofs.YtknagppkeodggaaDoorW.PrintLast Go.Proofs.YtknagppkeodggaaDoorW.PrintMore
attribute [local go_sem] max2_int min2_int max_two min_two max_three min_three max_four min_four
set_option linter.unusedVariables false
set_option linter.unusedSimpArgs false

def spec_l1Text.l0:Nat→ByteArray→Int→List Int→Int→Option (ByteArray×Int)
 | 0,_,_,_,_=>none
 | k+1,x3,x4,aj,ak=>if x4>0 then ((spec_l1Rd_pick.f k aj ak 4).bind fun bt168=>(if 0≤bt168.1 then (if bt168.1≤4 then (if 0≤1 then (if 1≤(((⟨#[97,98,99,100]⟩:ByteArray).extract (bt168.1:Int).toNat (⟨#[97,98,99,100]⟩:ByteArray).size).size:Int) then (if x3.size+(((⟨#[97,98,99,100]⟩:ByteArray).extract (bt168.1:Int).toNat (⟨#[97,98,99,100]⟩:ByteArray).size).extract 0 1).size≤9223372036854775807 then (if (x3++(((⟨#[97,98,99,100]⟩:ByteArray).extract (bt168.1:Int).toNat (⟨#[97,98,99,100]⟩:ByteArray).size).extract 0 1)).size+1≤9223372036854775807 then (spec_l1Text.l0 k ((x3++(((⟨#[97,98,99,100]⟩:ByteArray).extract (bt168.1:Int).toNat (⟨#[97,98,99,100]⟩:ByteArray).size).extract 0 1))++(⟨#[10]⟩:ByteArray)) (wrap64 (x4 - 1)) aj bt168.2) else (none)) else (none)) else (none)) else (none)) else (none)) else (none))) else (some (x3,ak))
def spec_l1Text.f (k:Nat) (s0_0:List Int) (s0_1:Int):Option (ByteArray×Int):=(spec_l1Rd_pick.f k s0_0 s0_1 9).bind fun bt164=>(if bt164.1=0 then (some ((⟨#[]⟩:ByteArray),bt164.2)) else (if bt164.1=1 then (some ((⟨#[255,0]⟩:ByteArray),bt164.2)) else (if bt164.1=2 then (some ((⟨#[110,111,32,110,101,119,108,105,110,101]⟩:ByteArray),bt164.2)) else ((spec_l1Rd_pick.f k s0_0 bt164.2 7).bind fun bt166=>(spec_l1Text.l0 k (⟨#[]⟩:ByteArray) bt166.1 s0_0 bt166.2)))))
theorem spec_l1Text.mono_l:∀ k,(∀ y0 y1 y2 y3,LeO (spec_l1Text.l0 k y0 y1 y2 y3) (spec_l1Text.l0 (k+1) y0 y1 y2 y3))
 | 0=>fun _ _ _ _ r h=>by simp [spec_l1Text.l0] at h
 | k + 1 => by
  have ih0:=spec_l1Text.mono_l k
  ·intro y0 y1 y2 y3
   unfold spec_l1Text.l0
   repeat' first
   | (with_reducible exact ih0 _ _ _ _)
   | (with_reducible exact spec_l1Rd_pick.mono _ _ _ _)
   | (with_reducible exact LeO.refl _)
   | (with_reducible exact LeO.none _)
   | (with_reducible refine LeO.ite ?_ ?_)
   | (with_reducible refine LeO.bind ?_ (fun _ => ?_))
   | exact ih0 _ _ _ _
   | exact spec_l1Rd_pick.mono _ _ _ _
   | exact LeO.none _
   | refine LeO.ite ?_ ?_
   | refine LeO.bind ?_ (fun _ => ?_)
theorem spec_l1Text.mono:∀ a0 a1 k,LeO (spec_l1Text.f k a0 a1) (spec_l1Text.f (k+1) a0 a1):=by
 intro a0 a1 k;have ih0:=spec_l1Text.mono_l k
 unfold spec_l1Text.f
 repeat' first
   | (with_reducible exact ih0 _ _ _ _)
   | (with_reducible exact spec_l1Rd_pick.mono _ _ _ _)
   | (with_reducible exact LeO.refl _)
   | (with_reducible exact LeO.none _)
   | (with_reducible refine LeO.ite ?_ ?_)
   | (with_reducible refine LeO.bind ?_ (fun _ => ?_))
   | exact ih0 _ _ _ _
   | exact spec_l1Rd_pick.mono _ _ _ _
   | exact LeO.none _
   | refine LeO.ite ?_ ?_
   | refine LeO.bind ?_ (fun _ => ?_)
set_option maxHeartbeats 8000000 in
set_option maxRecDepth 100000 in
theorem spec_l1Text.calls (k : Nat) (g : Nat) (s0_0 : List Int) (s0_1 : Int) (r1 : ByteArray) (r2 : Int) (w0 w : World) (hI : IsS173 w0 w g s0_0 s0_1) (hB : Below w0.heap.size w0 w) (h : spec_l1Text.f k s0_0 s0_1 = some (r1, r2)) :
  Calls Tryd.prog 65 #[.pointer (some ⟨g,0,none⟩)] w fun e w'=>e = .returned (.string r1)∧IsS173 w0 w' g s0_0 r2∧Below w0.heap.size w0 w'∧KeepBut w w' g none:=by
 have a2:=Aside0.mk hI;have HK:=Aside0.mk (KeepBut.refl w g none);have HL:=Aside0.mk hB.size;clear hI;have HW0:=Aside0.mk hB.size;have HB:=Aside0.mk hB;clear hB;have H:((spec_l1Rd_pick.f k s0_0 s0_1 9).bind fun bt164=>(if bt164.1=0 then (some ((⟨#[]⟩:ByteArray),bt164.2)) else (if bt164.1=1 then (some ((⟨#[255,0]⟩:ByteArray),bt164.2)) else (if bt164.1=2 then (some ((⟨#[110,111,32,110,101,119,108,105,110,101]⟩:ByteArray),bt164.2)) else ((spec_l1Rd_pick.f k s0_0 bt164.2 7).bind fun bt166=>(spec_l1Text.l0 k (⟨#[]⟩:ByteArray) bt166.1 s0_0 bt166.2))))))=some (r1,r2):=h;clear h;replace H:=Option.bind_eq_some_iff.mp H;obtain ⟨⟨a4,a6⟩,A20,H⟩:=H;replace H:(if a4=0 then (some ((⟨#[]⟩:ByteArray),a6)) else (if a4=1 then (some ((⟨#[255,0]⟩:ByteArray),a6)) else (if a4=2 then (some ((⟨#[110,111,32,110,101,119,108,105,110,101]⟩:ByteArray),a6)) else ((spec_l1Rd_pick.f k s0_0 a6 7).bind fun bt166=>(spec_l1Text.l0 k (⟨#[]⟩:ByteArray) bt166.1 s0_0 bt166.2)))))=some (r1,r2):=H;have A2:=Aside0.mk A20;clear A20
 by_cases c3:a4=0
 ·rw [if_pos c3] at H
  have al:(a4==0)=true:=beq_iff_eq.mpr c3;have am:(a4 != 0)=false:=bne_eq_false_iff_eq.mpr c3;clear c3;simp only [Option.some.injEq,Prod.mk.injEq] at H;obtain ⟨rfl,rfl⟩:=H
  go_enter Tryd.func65,Tryd.ntmps65
  go_wp2_with (first|((with_reducible refine gc 66 rfl ?_);refine gl (some 6) _ (#[.pointer (some ⟨g,0,none⟩),.int .i64 9]) Tryd.func66 ?_;(with_reducible refine (spec_l1Rd_pick.calls k g s0_0 s0_1 9 a4 a6 w0 _ ?side1 ?side2 A2.out).mono ?_);(case side1=>exact iq173 a2.out);(case side2=>exact bq173 HB.out a2.out);rintro e w4 ⟨rfl,hi,hb,hk⟩;refine ⟨_,rfl,?_⟩;refine Ya3 (KeepBut.trans (kb HK.out) hk (.inl rfl)) (hb) (hi) ?_;clear HK HB a2;intro HK HB a2;(try clear hb);(try clear hb2);(try clear hk);(try clear hi)))
  go_ret
  exact ⟨Ye2,iq173 a2.out,bq173 HB.out a2.out,kb HK.out⟩
 ·rw [if_neg c3] at H
  have al:(a4==0)=false:=beq_eq_false_iff_ne.mpr c3;have am:(a4 != 0)=true:=bne_iff_ne.mpr c3
  by_cases c5:a4=1
  ·rw [if_pos c5] at H
   have an:(a4==1)=true:=beq_iff_eq.mpr c5;have ao:(a4 != 1)=false:=bne_eq_false_iff_eq.mpr c5;clear c5;simp only [Option.some.injEq,Prod.mk.injEq] at H;obtain ⟨rfl,rfl⟩:=H
   go_enter Tryd.func65,Tryd.ntmps65
   go_wp2_with (first|((with_reducible refine gc 66 rfl ?_);refine gl (some 6) _ (#[.pointer (some ⟨g,0,none⟩),.int .i64 9]) Tryd.func66 ?_;(with_reducible refine (spec_l1Rd_pick.calls k g s0_0 s0_1 9 a4 a6 w0 _ ?side1 ?side2 A2.out).mono ?_);(case side1=>exact iq173 a2.out);(case side2=>exact bq173 HB.out a2.out);rintro e w6 ⟨rfl,hi,hb,hk⟩;refine ⟨_,rfl,?_⟩;refine Ya3 (KeepBut.trans (kb HK.out) hk (.inl rfl)) (hb) (hi) ?_;clear HK HB a2;intro HK HB a2;(try clear hb);(try clear hb2);(try clear hk);(try clear hi)))
   go_ret
   exact ⟨Ye2,iq173 a2.out,bq173 HB.out a2.out,kb HK.out⟩
  ·rw [if_neg c5] at H
   have an:(a4==1)=false:=beq_eq_false_iff_ne.mpr c5;have ao:(a4 != 1)=true:=bne_iff_ne.mpr c5
   by_cases c7:a4=2
   ·rw [if_pos c7] at H
    have ap:(a4==2)=true:=beq_iff_eq.mpr c7;have aq:(a4 != 2)=false:=bne_eq_false_iff_eq.mpr c7;clear c7;simp only [Option.some.injEq,Prod.mk.injEq] at H;obtain ⟨rfl,rfl⟩:=H
    go_enter Tryd.func65,Tryd.ntmps65
    go_wp2_with (first|((with_reducible refine gc 66 rfl ?_);refine gl (some 6) _ (#[.pointer (some ⟨g,0,none⟩),.int .i64 9]) Tryd.func66 ?_;(with_reducible refine (spec_l1Rd_pick.calls k g s0_0 s0_1 9 a4 a6 w0 _ ?side1 ?side2 A2.out).mono ?_);(case side1=>exact iq173 a2.out);(case side2=>exact bq173 HB.out a2.out);rintro e w8 ⟨rfl,hi,hb,hk⟩;refine ⟨_,rfl,?_⟩;refine Ya3 (KeepBut.trans (kb HK.out) hk (.inl rfl)) (hb) (hi) ?_;clear HK HB a2;intro HK HB a2;(try clear hb);(try clear hb2);(try clear hk);(try clear hi)))
    go_ret
    exact ⟨Ye2,iq173 a2.out,bq173 HB.out a2.out,kb HK.out⟩
   ·rw [if_neg c7] at H
    have ap:(a4==2)=false:=beq_eq_false_iff_ne.mpr c7;have aq:(a4 != 2)=true:=bne_iff_ne.mpr c7;replace H:=Option.bind_eq_some_iff.mp H;obtain ⟨⟨ag,ah⟩,A90,H⟩:=H;replace H:(spec_l1Text.l0 k (⟨#[]⟩:ByteArray) ag s0_0 ah)=some (r1,r2):=H;have A9:=Aside0.mk A90;clear A90;have H':=Aside0.mk H;clear H
    go_enter Tryd.func65,Tryd.ntmps65
    go_wp2_with (first|((with_reducible refine gc 66 rfl ?_);refine gl (some 6) _ (#[.pointer (some ⟨g,0,none⟩),.int .i64 9]) Tryd.func66 ?_;(with_reducible refine (spec_l1Rd_pick.calls k g s0_0 s0_1 9 a4 a6 w0 _ ?side1 ?side2 A2.out).mono ?_);(case side1=>exact iq173 a2.out);(case side2=>exact bq173 HB.out a2.out);rintro e w10 ⟨rfl,hi,hb,hk⟩;refine ⟨_,rfl,?_⟩;refine Ya3 (KeepBut.trans (kb HK.out) hk (.inl rfl)) (hb) (hi) ?_;clear HK HB a2;intro HK HB a2;(try clear hb);(try clear hb2);(try clear hk);(try clear hi))|((with_reducible refine gc 66 rfl ?_);refine gl (some 14) _ (#[.pointer (some ⟨g,0,none⟩),.int .i64 7]) Tryd.func66 ?_;(with_reducible refine (spec_l1Rd_pick.calls k g s0_0 a6 7 ag ah w0 _ ?side1 ?side2 A9.out).mono ?_);(case side1=>exact iq173 a2.out);(case side2=>exact bq173 HB.out a2.out);rintro e w11 ⟨rfl,hi,hb,hk⟩;refine ⟨_,rfl,?_⟩;refine Ya3 (KeepBut.trans (kb HK.out) hk (.inl rfl)) (hb) (hi) ?_;clear HK HB a2;intro HK HB a2;(try clear hb);(try clear hb2);(try clear hk);(try clear hi)))
    go_loopg [3,4] k (fun kq v3 v4 w' => ∃ (a5:ByteArray) (a7:Int) (af:Int),v3 = .string a5∧v4 = .int .i64 a7∧Aside0 (spec_l1Text.l0 kq a5 a7 s0_0 af=some (r1,r2))∧Aside0 (kq≤k)∧Aside0 (IsS173 w0 w' g s0_0 af)∧Aside0 (KeepBut w w' g none)∧Aside0 (Below w0.heap.size w0 w'))
    case atStart=>exact ⟨((⟨#[]⟩:ByteArray)),(ag),(ah),Ye1,Ye1,H',⟨Nat.le_refl _⟩,⟨iq173 a2.out⟩,⟨kb HK.out⟩,⟨bq173 HB.out a2.out⟩⟩
    case round =>
     clear H';(try clear p2);(try clear c3);(try clear al);(try clear am);(try clear c5);(try clear an);(try clear ao);(try clear c6);(try clear c7);(try clear ap);(try clear aq);obtain ⟨a5,a7,af,rfl,rfl,HA,HK1,a2,HK,HB⟩:=hrel
     cases gk with
     | zero=>exact absurd HA.out (by simp [spec_l1Text.l0])
     | succ k1 =>
      have H:=HA.out;clear HA;simp only [spec_l1Text.l0] at H
      by_cases a9:a7>0
      ·rw [if_pos a9] at H
       have au:decide (0<a7)=true:=decide_eq_true a9;clear a9;replace H:=Option.bind_eq_some_iff.mp H;obtain ⟨⟨a3,ai⟩,ar,H⟩:=H;replace H:(if 0≤a3 then (if a3≤4 then (if 0≤1 then (if 1≤(((⟨#[97,98,99,100]⟩:ByteArray).extract (a3:Int).toNat (⟨#[97,98,99,100]⟩:ByteArray).size).size:Int) then (if a5.size+(((⟨#[97,98,99,100]⟩:ByteArray).extract (a3:Int).toNat (⟨#[97,98,99,100]⟩:ByteArray).size).extract 0 1).size≤9223372036854775807 then (if (a5++(((⟨#[97,98,99,100]⟩:ByteArray).extract (a3:Int).toNat (⟨#[97,98,99,100]⟩:ByteArray).size).extract 0 1)).size+1≤9223372036854775807 then (spec_l1Text.l0 k1 ((a5++(((⟨#[97,98,99,100]⟩:ByteArray).extract (a3:Int).toNat (⟨#[97,98,99,100]⟩:ByteArray).size).extract 0 1))++(⟨#[10]⟩:ByteArray)) (wrap64 (a7 - 1)) s0_0 ai) else (none)) else (none)) else (none)) else (none)) else (none)) else (none))=some (r1,r2):=H;have A13:=Aside0.mk ar;clear ar
       by_cases ac:0≤a3
       ·rw [if_pos ac] at H
        have c14b0:=eq_true ac;have c14b1:decide (0≤a3)=true:=decide_eq_true ac;clear ac
        by_cases ad:a3≤4
        ·rw [if_pos ad] at H
         have c15b0:=eq_true ad;have c15b1:decide (a3≤4)=true:=decide_eq_true ad;clear ad
         by_cases ae:0≤1
         ·rw [if_pos ae] at H
          have c16b0:=eq_true ae;have c16b1:decide (0≤1)=true:=decide_eq_true ae;clear ae
          by_cases a8:1≤(((⟨#[97,98,99,100]⟩:ByteArray).extract (a3:Int).toNat (⟨#[97,98,99,100]⟩:ByteArray).size).size:Int)
          ·rw [if_pos a8] at H
           have c17q:1≤4 - a3.toNat:=(by have h_:=a8;rw [ByteArray.size_extract] at h_;have e_:(⟨#[97,98,99,100]⟩:ByteArray).size=4:=rfl;omega)
           have c17r:(((4 - a3.toNat:Nat):Int)<1)=False:=eq_false (by omega);have c17b0:=eq_true a8;have c17b1:decide (1≤(((⟨#[97,98,99,100]⟩:ByteArray).extract (a3:Int).toNat (⟨#[97,98,99,100]⟩:ByteArray).size).size:Int))=true:=decide_eq_true a8
           have c17o:1≤4 - a3.toNat:=(by have h_:=a8;rw [ByteArray.size_extract] at h_;have e_:(⟨#[97,98,99,100]⟩:ByteArray).size=4:=rfl;omega)
           clear a8
           by_cases aa:a5.size+(((⟨#[97,98,99,100]⟩:ByteArray).extract (a3:Int).toNat (⟨#[97,98,99,100]⟩:ByteArray).size).extract 0 1).size≤9223372036854775807
           ·rw [if_pos aa] at H
            try have c18n:a5.size+1≤9223372036854775807:=(by have h_:=aa;(try simp only [ByteArray.size_append] at h_);(try simp only [ByteArray.size_extract] at h_);(try simp only [show (⟨#[97,98,99,100]⟩:ByteArray).size=4 from rfl] at h_);(try omega);(try simpa using h_))
            try have c18m:=eq_true c18n
            try have c18d:=decide_eq_true c18n
            try have c18l:=eq_false (Nat.not_lt.2 c18n)
            (try clear c18n);have c18b0:=eq_true aa;have c18b1:decide (a5.size+(((⟨#[97,98,99,100]⟩:ByteArray).extract (a3:Int).toNat (⟨#[97,98,99,100]⟩:ByteArray).size).extract 0 1).size≤9223372036854775807)=true:=decide_eq_true aa
            try have c18b2:(9223372036854775807<a5.size+(((⟨#[97,98,99,100]⟩:ByteArray).extract (a3:Int).toNat (⟨#[97,98,99,100]⟩:ByteArray).size).extract 0 1).size)=False:=eq_false (Nat.not_lt.2 aa)
            by_cases ab:(a5++(((⟨#[97,98,99,100]⟩:ByteArray).extract (a3:Int).toNat (⟨#[97,98,99,100]⟩:ByteArray).size).extract 0 1)).size+1≤9223372036854775807
            ·rw [if_pos ab] at H
             try have c19n:a5.size+1+1≤9223372036854775807:=(by have h_:=ab;(try simp only [ByteArray.size_append] at h_);(try simp only [ByteArray.size_extract] at h_);(try simp only [show (⟨#[97,98,99,100]⟩:ByteArray).size=4 from rfl] at h_);(try omega);(try simpa using h_))
             try have c19m:=eq_true c19n
             try have c19d:=decide_eq_true c19n
             try have c19l:=eq_false (Nat.not_lt.2 c19n)
             (try clear c19n);have c19b0:=eq_true ab;have c19b1:decide ((a5++(((⟨#[97,98,99,100]⟩:ByteArray).extract (a3:Int).toNat (⟨#[97,98,99,100]⟩:ByteArray).size).extract 0 1)).size+1≤9223372036854775807)=true:=decide_eq_true ab
             try have c19b2:(9223372036854775807<(a5++(((⟨#[97,98,99,100]⟩:ByteArray).extract (a3:Int).toNat (⟨#[97,98,99,100]⟩:ByteArray).size).extract 0 1)).size+1)=False:=eq_false (Nat.not_lt.2 ab)
             have H':=Aside0.mk H;clear H
             go_wp2_with (first|((with_reducible refine gc 66 rfl ?_);refine gl (some 21) _ (#[.pointer (some ⟨g,0,none⟩),.int .i64 4]) Tryd.func66 ?_;(with_reducible refine (spec_l1Rd_pick.calls k1 g s0_0 af 4 a3 ai w0 _ ?side1 ?side2 A13.out).mono ?_);(case side1=>exact iq173 a2.out);(case side2=>exact bq173 HB.out a2.out);rintro e w20 ⟨rfl,hi,hb,hk⟩;refine ⟨_,rfl,?_⟩;refine Ya3 (KeepBut.trans (kb HK.out) hk (.inl rfl)) (hb) (hi) ?_;clear HK HB a2;intro HK HB a2;(try clear hb);(try clear hb2);(try clear hk);(try clear hi)))
             go_roundg k1
             case measure=>have:=HK1.out;omega
             case rel=>exact ⟨((a5++(((⟨#[97,98,99,100]⟩:ByteArray).extract (a3:Int).toNat (⟨#[97,98,99,100]⟩:ByteArray).size).extract 0 1))++(⟨#[10]⟩:ByteArray)),(wrap64 (a7 - 1)),(ai),Ye1,Ye1,H',⟨by have:=HK1.out;omega⟩,⟨iq173 a2.out⟩,⟨kb HK.out⟩,⟨bq173 HB.out a2.out⟩⟩
            ·rw [if_neg ab] at H
             exact absurd H (by simp)
           ·rw [if_neg aa] at H
            exact absurd H (by simp)
          ·rw [if_neg a8] at H
           exact absurd H (by simp)
         ·rw [if_neg ae] at H
          exact absurd H (by simp)
        ·rw [if_neg ad] at H
         exact absurd H (by simp)
       ·rw [if_neg ac] at H
        exact absurd H (by simp)
      ·rw [if_neg a9] at H
       have au:decide (0<a7)=false:=decide_eq_false a9;clear a9;simp only [Option.some.injEq,Prod.mk.injEq] at H;obtain ⟨rfl,rfl⟩:=H
       go_wp2
       go_ret
       exact ⟨Ye2,iq173 a2.out,bq173 HB.out a2.out,kb HK.out⟩

end Go.Proofs.YtknagppkeodggaaDoor.P

