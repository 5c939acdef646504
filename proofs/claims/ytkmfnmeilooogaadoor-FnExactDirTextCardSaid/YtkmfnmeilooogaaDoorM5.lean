/- Several texts of this claim in one file: YtkmfnmeilooogaaDoorPSpecL6Name, YtkmfnmeilooogaaDoorPSpecL9Hex, YtkmfnmeilooogaaDoorPSpecL9Under, YtkmfnmeilooogaaDoorPSpecL9Dir, YtkmfnmeilooogaaDoorPSpecL9Good, YtkmfnmeilooogaaDoorPSpecDirText, YtkmfnmeilooogaaDoorPSpecTreeSum. -/
import Derived.Test.YtkmfnmeilooogaaDoorM2
import Derived.Test.YtkmfnmeilooogaaDoorM3
import Derived.Test.YtkmfnmeilooogaaDoorM4
namespace Go.Proofs.YtkmfnmeilooogaaDoor.P
open Go.RowKit Go.Proofs.YtkmfnmeilooogaaDoorW.PrintWords Go.Proofs.YtkmfnmeilooogaaDoorW.PrintLast Go.Proofs.YtkmfnmeilooogaaDoorW.PrintMore
attribute [local go_sem] max2_int min2_int max_two min_two max_three min_three max_four min_four
set_option linter.unusedVariables false
set_option linter.unusedSimpArgs false

mutual
def spec_l6Name.l0:Nat→List ByteArray→ByteArray→List ByteArray→Bool→Int→Option (List ByteArray)
 | 0,_,_,_,_,_=>none
 | k+1,x0,x1,x5,x6,x7=>if x7<(x0.length:Int) then (if x6=true then (spec_l6Name.j1 k x0 x1 x5 x6 x7 false) else (if 0≤x7 then (spec_l6Name.j1 k x0 x1 x5 x6 x7 (!(Op.bytesLess ((rdOf ByteArray.empty x0 x7).toList) x1.toList))) else (none))) else (if x6=true then (some x5) else (if x5.length<8796093022208 then (some (x5 ++ [x1])) else (none)))
def spec_l6Name.j1:Nat→List ByteArray→ByteArray→List ByteArray→Bool→Int→Bool→Option (List ByteArray)
 | 0,_,_,_,_,_,_=>none
 | k+1,x0,x1,x5,x6,x7,x24=>if x24=true then (if x5.length<8796093022208 then ((some (x5 ++ [x1]:List ByteArray)).bind fun a4=>(if 0≤x7 then (if x7<(x0.length:Int) then (if (rdOf ByteArray.empty x0 x7).toList=x1.toList then (spec_l6Name.l0 k x0 x1 a4 true (wrap64 (x7+1))) else (if a4.length<8796093022208 then (spec_l6Name.l0 k x0 x1 (a4 ++ [rdOf ByteArray.empty x0 x7]) true (wrap64 (x7+1))) else (none))) else (none)) else (none))) else (none)) else (if 0≤x7 then (if x7<(x0.length:Int) then (if (rdOf ByteArray.empty x0 x7).toList=x1.toList then (spec_l6Name.l0 k x0 x1 x5 x6 (wrap64 (x7+1))) else (if x5.length<8796093022208 then (spec_l6Name.l0 k x0 x1 (x5 ++ [rdOf ByteArray.empty x0 x7]) x6 (wrap64 (x7+1))) else (none))) else (none)) else (none))
end
def spec_l6Name.f (k:Nat) (l0:List ByteArray) (a1:ByteArray):Option (List ByteArray):=spec_l6Name.l0 k l0 a1 (([]:List ByteArray)) false 0
theorem spec_l6Name.mono_l:∀ k,(∀ y0 y1 y2 y3 y4,LeO (spec_l6Name.l0 k y0 y1 y2 y3 y4) (spec_l6Name.l0 (k+1) y0 y1 y2 y3 y4))∧(∀ y0 y1 y2 y3 y4 y5,LeO (spec_l6Name.j1 k y0 y1 y2 y3 y4 y5) (spec_l6Name.j1 (k+1) y0 y1 y2 y3 y4 y5))
 | 0=>⟨fun _ _ _ _ _ r h=>by simp [spec_l6Name.l0] at h,fun _ _ _ _ _ _ r h=>by simp [spec_l6Name.j1] at h⟩
 | k + 1 => by
  obtain ⟨ih0,ih1⟩:=spec_l6Name.mono_l k;refine ⟨?_,?_⟩
  ·intro y0 y1 y2 y3 y4
   unfold spec_l6Name.l0
   repeat' first
   | (with_reducible exact ih0 _ _ _ _ _)
   | (with_reducible exact ih1 _ _ _ _ _ _)
   | (with_reducible exact LeO.refl _)
   | (with_reducible exact LeO.none _)
   | (with_reducible refine LeO.ite ?_ ?_)
   | (with_reducible refine LeO.bind ?_ (fun _ => ?_))
   | exact ih0 _ _ _ _ _
   | exact ih1 _ _ _ _ _ _
   | exact LeO.none _
   | refine LeO.ite ?_ ?_
   | refine LeO.bind ?_ (fun _ => ?_)
  ·intro y0 y1 y2 y3 y4 y5
   unfold spec_l6Name.j1
   repeat' first
   | (with_reducible exact ih0 _ _ _ _ _)
   | (with_reducible exact ih1 _ _ _ _ _ _)
   | (with_reducible exact LeO.refl _)
   | (with_reducible exact LeO.none _)
   | (with_reducible refine LeO.ite ?_ ?_)
   | (with_reducible refine LeO.bind ?_ (fun _ => ?_))
   | exact ih0 _ _ _ _ _
   | exact ih1 _ _ _ _ _ _
   | exact LeO.none _
   | refine LeO.ite ?_ ?_
   | refine LeO.bind ?_ (fun _ => ?_)
theorem spec_l6Name.mono:∀ a0 a1 k,LeO (spec_l6Name.f k a0 a1) (spec_l6Name.f (k+1) a0 a1):=by
 intro a0 a1 k;obtain ⟨ih0,ih1⟩:=spec_l6Name.mono_l k
 unfold spec_l6Name.f
 repeat' first
   | (with_reducible exact ih0 _ _ _ _ _)
   | (with_reducible exact ih1 _ _ _ _ _ _)
   | (with_reducible exact LeO.refl _)
   | (with_reducible exact LeO.none _)
   | (with_reducible refine LeO.ite ?_ ?_)
   | (with_reducible refine LeO.bind ?_ (fun _ => ?_))
   | exact ih0 _ _ _ _ _
   | exact ih1 _ _ _ _ _ _
   | exact LeO.none _
   | refine LeO.ite ?_ ?_
   | refine LeO.bind ?_ (fun _ => ?_)
set_option maxHeartbeats 8000000 in
set_option maxRecDepth 100000 in
theorem spec_l6Name.calls (k : Nat) (A0 : Option Addr) (c0 : Nat) (l0 : List ByteArray) (a1 : ByteArray) (r : List ByteArray) (w : World) (hr0 : Kd.C Kd.string w A0 l0.length l0) (hc0 : l0.length ≤ c0) (h : spec_l6Name.f k l0 a1 = some r) :
  Calls Tryd.prog 80 #[.slice A0 l0.length c0,.string a1] w fun e w' => ∃ v0_:Value,e = .returned (v0_)∧Kd.R Kd.string 9 w' w.heap.size (fun _=>True) v0_ r∧Below w.heap.size w w':=by
 have a8:=Aside0.mk hr0;have HC0:=Aside0.mk hc0;clear hr0 hc0;have HB:=Aside0.mk (Below.refl w.heap.size w);have H:(spec_l6Name.l0 k l0 a1 (([]:List ByteArray)) false 0)=some r:=h;clear h
 obtain ⟨aJ,af⟩:∃ y_:List ByteArray,y_=(([]:List ByteArray)):=⟨_,rfl⟩
 replace H:(spec_l6Name.l0 k l0 a1 aJ false 0)=some r:=by first|(rw [af];with_reducible exact H)|(have H2_:=(Option.bind_some _ _).symm.trans H;rw [af];with_reducible exact H2_)|(have H2_:=(Option.bind_some _ _).symm.trans H;with_reducible exact H2_)|with_reducible exact H|(rw [af];exact H)|exact H
 have aK:=Aside0.mk af;clear af;have H':=Aside0.mk H;clear H
 go_enter Tryd.func80,Tryd.ntmps80
 go_wp2_with (first|((with_reducible refine gd 8 rfl ?_);refine Kd.R_lit Kd.string _ 9 ?hg (N:=8) ?hd (xs:=([]:List ByteArray)) (inner:=[]) (ok:=fun _=>True) (okp:=fun _=>True) ?hr ?hp (fun _ hk=>hk) trivial (Below.refl _ _) (Nat.le_refl _) (by simp) ?_;(case hd=>rfl);(case hg=>rfl);(case hr=>first|(go_simp;done)|(go_simp;rfl));(case hp=>exact (Reps.none _ _));intro v488 w3 ho4 hb hg_ hnew_;clear hg_ hnew_;(first|rw [←aK.out] at ho4|(simp only [Int.reduceToNat] at ho4;rw [←aK.out] at ho4));refine Ya2 (Kd.R_lower ho4 (below_size (be HB.out))) (below_step (be HB.out) hb) ?_;clear HB;intro aZ HB;clear hb ho4))
 go_loopg [5,6,7] k (fun kq v5 v6 v7 w' => ∃ (a3:List ByteArray) (a7:Bool) (a2:Int),v6 = .bool a7∧v7 = .int .i64 a2∧Aside0 (spec_l6Name.l0 kq l0 a1 a3 a7 a2=some r)∧Aside0 (kq≤k)∧Aside0 (Kd.R Kd.string 9 w' w.heap.size (fun _=>True) v5 a3)∧Aside0 (Below w.heap.size w w'))
 case atStart=>exact ⟨(aJ),(false),(0),Ye1,Ye1,H',⟨Nat.le_refl _⟩,⟨kr aZ.out⟩,⟨be HB.out⟩⟩
 case round =>
  clear H';(try clear p2);obtain ⟨a3,a7,a2,rfl,rfl,HA,HK1,a5,HB⟩:=hrel
  cases gk with
  | zero=>exact absurd HA.out (by simp [spec_l6Name.l0])
  | succ k1 =>
   have H:=HA.out;clear HA;simp only [spec_l6Name.l0] at H
   by_cases c5:a2<(l0.length:Int)
   ·rw [if_pos c5] at H
    have aM:decide (a2<(l0.length:Int))=true:=decide_eq_true c5;clear c5;have az:=Aside0.mk H;clear H
    go_upto_region 6 with (fail)
    go_cut [24] (fun v24 wc => ∃ (kq:Nat) (al:Bool),v24 = .bool al∧Aside0 (spec_l6Name.j1 kq l0 a1 a3 a7 a2 al=some r)∧Aside0 (kq≤k1)∧Aside0 (Kd.R Kd.string 9 wc w.heap.size (fun _=>True) u5 a3)∧Aside0 (Below w.heap.size w wc))
    case first =>
     have H:=az.out;clear az
     by_cases c7:a7=true
     ·subst c7
      have H1:(spec_l6Name.j1 k1 l0 a1 a3 true a2 false)=some r:=by rw [if_pos rfl] at H;exact H
      clear H;have H:=H1;clear H1;have H':=Aside0.mk H;clear H
      go_wp2
      go_meet
      case rel=>exact ⟨_,(false),Ye1,H',⟨by have:=HK1.out;first|omega|exact Nat.le_refl _⟩,⟨kr a5.out⟩,⟨be HB.out⟩⟩
     ·replace c7:=Bool.eq_false_iff.mpr c7;subst c7
      have H1:(if 0≤a2 then (spec_l6Name.j1 k1 l0 a1 a3 false a2 (!(Op.bytesLess ((rdOf ByteArray.empty l0 a2).toList) a1.toList))) else (none))=some r:=by rw [if_neg (show ¬(false=true) by decide)] at H;exact H
      clear H;have H:=H1;clear H1
      by_cases c8:0≤a2
      ·rw [if_pos c8] at H
       have aA:decide (0≤a2)=true:=decide_eq_true c8;clear c8;(first|rw [aA]|(simp only [i64_w,i32_w];rw [aA])|skip);have H':=Aside0.mk H;clear H;have am:0≤(a2:Int):=oda;have an:a2<(l0.length:Int):=oda;obtain ⟨ad493,b0,b1⟩:=Kd.at_string (Kd.C_below a8.out HB.out) a2 am an
       cases b0
       replace am:=eq_true am;replace an:=eq_true an
       go_wp2
       go_meet
       case rel=>exact ⟨_,(!(Op.bytesLess ((rdOf ByteArray.empty l0 a2).toList) a1.toList)),Ye1,H',⟨by have:=HK1.out;first|omega|exact Nat.le_refl _⟩,⟨kr a5.out⟩,⟨be HB.out⟩⟩
      ·rw [if_neg c8] at H
       exact absurd H (by simp)
    case rest =>
     clear az;(try clear p2);(try clear p4);(try clear q4);(try clear hx4);(try clear c5);(try clear aM);(try clear c7);(try clear c8);(try clear aA);(try clear b1);(try clear p2);(try clear am);(try clear an);obtain ⟨kq,al,rfl,HA,HJ5,a5,HB⟩:=hcut
     cases kq with
     | zero=>exact absurd HA.out (by simp [spec_l6Name.j1])
     | succ a6 =>
      have H:=HA.out;clear HA;simp only [spec_l6Name.j1] at H
      by_cases c9:al=true
      ·subst c9
       have H1:(if a3.length<8796093022208 then ((some (a3 ++ [a1]:List ByteArray)).bind fun a4=>(if 0≤a2 then (if a2<(l0.length:Int) then (if (rdOf ByteArray.empty l0 a2).toList=a1.toList then (spec_l6Name.l0 a6 l0 a1 a4 true (wrap64 (a2+1))) else (if a4.length<8796093022208 then (spec_l6Name.l0 a6 l0 a1 (a4 ++ [rdOf ByteArray.empty l0 a2]) true (wrap64 (a2+1))) else (none))) else (none)) else (none))) else (none))=some r:=by rw [if_pos rfl] at H;exact H
       clear H;have H:=H1;clear H1
       by_cases c10:a3.length<8796093022208
       ·rw [if_pos c10] at H
        have aN:=Aside0.mk c10;clear c10
        obtain ⟨a4,ag⟩:∃ y_:List ByteArray,y_=(a3 ++ [a1]):=⟨_,rfl⟩
        replace H:(if 0≤a2 then (if a2<(l0.length:Int) then (if (rdOf ByteArray.empty l0 a2).toList=a1.toList then (spec_l6Name.l0 a6 l0 a1 a4 true (wrap64 (a2+1))) else (if a4.length<8796093022208 then (spec_l6Name.l0 a6 l0 a1 (a4 ++ [rdOf ByteArray.empty l0 a2]) true (wrap64 (a2+1))) else (none))) else (none)) else (none))=some r:=by first|(rw [ag];with_reducible exact H)|(have H2_:=(Option.bind_some _ _).symm.trans H;rw [ag];with_reducible exact H2_)|(have H2_:=(Option.bind_some _ _).symm.trans H;with_reducible exact H2_)|with_reducible exact H|(rw [ag];exact H)|exact H
        have aQ:=Aside0.mk ag;clear ag
        by_cases ao:0≤a2
        ·rw [if_pos ao] at H
         have c11b0:decide (0≤a2)=true:=decide_eq_true ao;clear ao
         by_cases ap:a2<(l0.length:Int)
         ·rw [if_pos ap] at H
          have c12b0:decide (a2<(l0.length:Int))=true:=decide_eq_true ap;clear ap
          by_cases a9:(rdOf ByteArray.empty l0 a2).toList=a1.toList
          ·rw [if_pos a9] at H
           have b2:((rdOf ByteArray.empty l0 a2).toList==a1.toList)=true:=beq_iff_eq.mpr a9;have b3:((rdOf ByteArray.empty l0 a2).toList != a1.toList)=false:=bne_eq_false_iff_eq.mpr a9;clear a9;have H':=Aside0.mk H;clear H
           go_wp2_with (first|((with_reducible refine gate_builtin (b:=.append) (xs:=#[.tmp 25,.tmp 27]) rfl ?_);at_builtin;refine Kd.R_append Kd.string (w0:=w) w.heap.size rfl (.tmp 25) (.tmp 27) 29 9 (.string ⟨#[]⟩) 16 rfl Tryd.underlying29 info9 rfl (by decide) (by omega) u5 a3 a1 [.string a1] (fun _=>True) (fun _=>False) rfl rfl ?aP (fun _ hk=>hk.elim) ?aF ?aO ?aB ?aS ?aL ?_;(case aP=>exact rfl);(case aB=>exact (be HB.out));(case aF=>exact (fun _ _=>trivial));(case aO=>exact (kr a5.out));(case aS=>exact (below_size (be HB.out)));(case aL=>have:=aN.out;omega);intro aR w14 ho hb hg hat;rw [←aQ.out] at ho;refine Ya2 (hb) (ho) ?_;clear HB a5;intro HB aq;clear ho hb hg hat;have aa:0≤(a2:Int):=oda;have ab:a2<(l0.length:Int):=oda;obtain ⟨aT,aC,ah⟩:=Kd.at_string a8.out a2 aa ab;cases aC;replace ah:=pw_cell_below HB.out ah;replace aa:=eq_true aa;replace ab:=eq_true ab))
           go_roundg a6
           case measure=>have:=HK1.out;have:=HJ5.out;omega
           case rel=>exact ⟨(a4),(true),(wrap64 (a2+1)),Ye1,Ye1,H',⟨by have:=HK1.out;have:=HJ5.out;omega⟩,⟨kr aq.out⟩,⟨be HB.out⟩⟩
          ·rw [if_neg a9] at H
           have b2:((rdOf ByteArray.empty l0 a2).toList==a1.toList)=false:=beq_eq_false_iff_ne.mpr a9;have b3:((rdOf ByteArray.empty l0 a2).toList != a1.toList)=true:=bne_iff_ne.mpr a9
           by_cases ar:a4.length<8796093022208
           ·rw [if_pos ar] at H
            have b4:=Aside0.mk ar;clear ar
            obtain ⟨aU,ai⟩:∃ y_:List ByteArray,y_=(a4 ++ [rdOf ByteArray.empty l0 a2]):=⟨_,rfl⟩
            replace H:(spec_l6Name.l0 a6 l0 a1 aU true (wrap64 (a2+1)))=some r:=by first|(rw [ai];with_reducible exact H)|(have H2_:=(Option.bind_some _ _).symm.trans H;rw [ai];with_reducible exact H2_)|(have H2_:=(Option.bind_some _ _).symm.trans H;with_reducible exact H2_)|with_reducible exact H|(rw [ai];exact H)|exact H
            have b5:=Aside0.mk ai;clear ai;have H':=Aside0.mk H;clear H
            go_wp2_with (first|((with_reducible refine gate_builtin (b:=.append) (xs:=#[.tmp 25,.tmp 27]) rfl ?_);at_builtin;refine Kd.R_append Kd.string (w0:=w) w.heap.size rfl (.tmp 25) (.tmp 27) 29 9 (.string ⟨#[]⟩) 16 rfl Tryd.underlying29 info9 rfl (by decide) (by omega) u5 a3 a1 [.string a1] (fun _=>True) (fun _=>False) rfl rfl ?aP (fun _ hk=>hk.elim) ?aF ?aO ?aB ?aS ?aL ?_;(case aP=>exact rfl);(case aB=>exact (be HB.out));(case aF=>exact (fun _ _=>trivial));(case aO=>exact (kr a5.out));(case aS=>exact (below_size (be HB.out)));(case aL=>have:=aN.out;omega);intro aR w16 ho hb hg hat;rw [←aQ.out] at ho;refine Ya2 (hb) (ho) ?_;clear HB a5;intro HB aq;clear ho hb hg hat;have aa:0≤(a2:Int):=oda;have ab:a2<(l0.length:Int):=oda;obtain ⟨aT,aC,ah⟩:=Kd.at_string a8.out a2 aa ab;cases aC;replace ah:=pw_cell_below HB.out ah;replace aa:=eq_true aa;replace ab:=eq_true ab;have aD:0≤(a2:Int):=oda;have aE:a2<(l0.length:Int):=oda;obtain ⟨b6,b7,aV⟩:=Kd.at_string a8.out a2 aD aE;obtain rfl:aT=b6:=(by injection b7);replace aV:=pw_cell_below HB.out aV;replace aD:=eq_true aD;replace aE:=eq_true aE)|((with_reducible refine gate_builtin (b:=.append) (xs:=#[.tmp 35,.tmp 40]) rfl ?_);at_builtin;refine Kd.R_append Kd.string (w0:=w) w.heap.size rfl (.tmp 35) (.tmp 40) 29 9 (.string ⟨#[]⟩) 16 rfl Tryd.underlying29 info9 rfl (by decide) (by omega) aR a4 (rdOf ByteArray.empty l0 a2) [.string (rdOf ByteArray.empty l0 a2)] (fun _=>True) (fun _=>False) rfl rfl ?aP (fun _ hk=>hk.elim) ?aF ?aO ?aB ?aS ?aL ?_;(case aP=>exact rfl);(case aB=>exact (be HB.out));(case aF=>exact (fun _ _=>trivial));(case aO=>exact (kr aq.out));(case aS=>exact (below_size (be HB.out)));(case aL=>have:=b4.out;omega);intro v500 w17 ho hb hg hat;rw [←b5.out] at ho;refine Ya2 (hb) (ho) ?_;clear HB aq;intro HB b8;clear ho hb hg hat))
            go_roundg a6
            case measure=>have:=HK1.out;have:=HJ5.out;omega
            case rel=>exact ⟨(aU),(true),(wrap64 (a2+1)),Ye1,Ye1,H',⟨by have:=HK1.out;have:=HJ5.out;omega⟩,⟨kr b8.out⟩,⟨be HB.out⟩⟩
           ·rw [if_neg ar] at H
            exact absurd H (by simp)
         ·rw [if_neg ap] at H
          exact absurd H (by simp)
        ·rw [if_neg ao] at H
         exact absurd H (by simp)
       ·rw [if_neg c10] at H
        exact absurd H (by simp)
      ·replace c9:=Bool.eq_false_iff.mpr c9;subst c9
       have H1:(if 0≤a2 then (if a2<(l0.length:Int) then (if (rdOf ByteArray.empty l0 a2).toList=a1.toList then (spec_l6Name.l0 a6 l0 a1 a3 a7 (wrap64 (a2+1))) else (if a3.length<8796093022208 then (spec_l6Name.l0 a6 l0 a1 (a3 ++ [rdOf ByteArray.empty l0 a2]) a7 (wrap64 (a2+1))) else (none))) else (none)) else (none))=some r:=by rw [if_neg (show ¬(false=true) by decide)] at H;exact H
       clear H;have H:=H1;clear H1
       by_cases au:0≤a2
       ·rw [if_pos au] at H
        have c18b0:decide (0≤a2)=true:=decide_eq_true au;clear au
        by_cases av:a2<(l0.length:Int)
        ·rw [if_pos av] at H
         have c19b0:decide (a2<(l0.length:Int))=true:=decide_eq_true av;clear av
         by_cases ac:(rdOf ByteArray.empty l0 a2).toList=a1.toList
         ·rw [if_pos ac] at H
          have b9:((rdOf ByteArray.empty l0 a2).toList==a1.toList)=true:=beq_iff_eq.mpr ac;have ba:((rdOf ByteArray.empty l0 a2).toList != a1.toList)=false:=bne_eq_false_iff_eq.mpr ac;clear ac;have H':=Aside0.mk H;clear H;have ad:0≤(a2:Int):=oda;have ae:a2<(l0.length:Int):=oda;obtain ⟨aW,aG,bd⟩:=Kd.at_string (Kd.C_below a8.out HB.out) a2 ad ae
          cases aG
          replace ad:=eq_true ad;replace ae:=eq_true ae
          go_wp2
          go_roundg a6
          case measure=>have:=HK1.out;have:=HJ5.out;omega
          case rel=>exact ⟨(a3),(a7),(wrap64 (a2+1)),Ye1,Ye1,H',⟨by have:=HK1.out;have:=HJ5.out;omega⟩,⟨kr a5.out⟩,⟨be HB.out⟩⟩
         ·rw [if_neg ac] at H
          have b9:((rdOf ByteArray.empty l0 a2).toList==a1.toList)=false:=beq_eq_false_iff_ne.mpr ac;have ba:((rdOf ByteArray.empty l0 a2).toList != a1.toList)=true:=bne_iff_ne.mpr ac
          by_cases aw:a3.length<8796093022208
          ·rw [if_pos aw] at H
           have bg:=Aside0.mk aw;clear aw
           obtain ⟨aX,aj⟩:∃ y_:List ByteArray,y_=(a3 ++ [rdOf ByteArray.empty l0 a2]):=⟨_,rfl⟩
           replace H:(spec_l6Name.l0 a6 l0 a1 aX a7 (wrap64 (a2+1)))=some r:=by first|(rw [aj];with_reducible exact H)|(have H2_:=(Option.bind_some _ _).symm.trans H;rw [aj];with_reducible exact H2_)|(have H2_:=(Option.bind_some _ _).symm.trans H;with_reducible exact H2_)|with_reducible exact H|(rw [aj];exact H)|exact H
           have bh:=Aside0.mk aj;clear aj;have H':=Aside0.mk H;clear H;have ad:0≤(a2:Int):=oda;have ae:a2<(l0.length:Int):=oda;obtain ⟨aW,aG,bd⟩:=Kd.at_string (Kd.C_below a8.out HB.out) a2 ad ae
           cases aG
           replace ad:=eq_true ad;replace ae:=eq_true ae;have aH:0≤(a2:Int):=oda;have aI:a2<(l0.length:Int):=oda;obtain ⟨bi,bj,aY⟩:=Kd.at_string a8.out a2 aH aI
           obtain rfl:aW=bi:=(by injection bj)
           replace aY:=pw_cell_below HB.out aY;replace aH:=eq_true aH;replace aI:=eq_true aI
           go_wp2_with (first|((with_reducible refine gate_builtin (b:=.append) (xs:=#[.tmp 35,.tmp 40]) rfl ?_);at_builtin;refine Kd.R_append Kd.string (w0:=w) w.heap.size rfl (.tmp 35) (.tmp 40) 29 9 (.string ⟨#[]⟩) 16 rfl Tryd.underlying29 info9 rfl (by decide) (by omega) u5 a3 (rdOf ByteArray.empty l0 a2) [.string (rdOf ByteArray.empty l0 a2)] (fun _=>True) (fun _=>False) rfl rfl ?aP (fun _ hk=>hk.elim) ?aF ?aO ?aB ?aS ?aL ?_;(case aP=>exact rfl);(case aB=>exact (be HB.out));(case aF=>exact (fun _ _=>trivial));(case aO=>exact (kr a5.out));(case aS=>exact (below_size (be HB.out)));(case aL=>have:=bg.out;omega);intro v505 w22 ho hb hg hat;rw [←bh.out] at ho;refine Ya2 (hb) (ho) ?_;clear HB a5;intro HB bm;clear ho hb hg hat))
           go_roundg a6
           case measure=>have:=HK1.out;have:=HJ5.out;omega
           case rel=>exact ⟨(aX),(a7),(wrap64 (a2+1)),Ye1,Ye1,H',⟨by have:=HK1.out;have:=HJ5.out;omega⟩,⟨kr bm.out⟩,⟨be HB.out⟩⟩
          ·rw [if_neg aw] at H
           exact absurd H (by simp)
        ·rw [if_neg av] at H
         exact absurd H (by simp)
       ·rw [if_neg au] at H
        exact absurd H (by simp)
   ·rw [if_neg c5] at H
    have aM:decide (a2<(l0.length:Int))=false:=decide_eq_false c5;clear c5
    by_cases ax:a7=true
    ·subst ax
     have H1:(some a3)=some r:=by rw [if_pos rfl] at H;exact H
     clear H;have H:=H1;clear H1;obtain rfl:=Option.some.inj H
     go_wp2
     go_ret
     exact ⟨_,Ye2,kr a5.out,be HB.out⟩
    ·replace ax:=Bool.eq_false_iff.mpr ax;subst ax
     have H1:(if a3.length<8796093022208 then (some (a3 ++ [a1])) else (none))=some r:=by rw [if_neg (show ¬(false=true) by decide)] at H;exact H
     clear H;have H:=H1;clear H1
     by_cases ay:a3.length<8796093022208
     ·rw [if_pos ay] at H
      have bn:=Aside0.mk ay;clear ay
      obtain ⟨bo,ak⟩:∃ y_:List ByteArray,y_=(a3 ++ [a1]):=⟨_,rfl⟩
      replace H:(some bo)=some r:=by first|(rw [ak];with_reducible exact H)|(have H2_:=(Option.bind_some _ _).symm.trans H;rw [ak];with_reducible exact H2_)|(have H2_:=(Option.bind_some _ _).symm.trans H;with_reducible exact H2_)|with_reducible exact H|(rw [ak];exact H)|exact H
      have bq:=Aside0.mk ak;clear ak;obtain rfl:=Option.some.inj H
      go_wp2_with (first|((with_reducible refine gate_builtin (b:=.append) (xs:=#[.tmp 44,.tmp 46]) rfl ?_);at_builtin;refine Kd.R_append Kd.string (w0:=w) w.heap.size rfl (.tmp 44) (.tmp 46) 29 9 (.string ⟨#[]⟩) 16 rfl Tryd.underlying29 info9 rfl (by decide) (by omega) u5 a3 a1 [.string a1] (fun _=>True) (fun _=>False) rfl rfl ?aP (fun _ hk=>hk.elim) ?aF ?aO ?aB ?aS ?aL ?_;(case aP=>exact rfl);(case aB=>exact (be HB.out));(case aF=>exact (fun _ _=>trivial));(case aO=>exact (kr a5.out));(case aS=>exact (below_size (be HB.out)));(case aL=>have:=bn.out;omega);intro v491 w25 ho hb hg hat;rw [←bq.out] at ho;refine Ya2 (hb) (ho) ?_;clear HB a5;intro HB bu;clear ho hb hg hat))
      go_ret
      exact ⟨_,Ye2,kr bu.out,be HB.out⟩
     ·rw [if_neg ay] at H
      exact absurd H (by simp)

end Go.Proofs.YtkmfnmeilooogaaDoor.P


namespace Go.Proofs.YtkmfnmeilooogaaDoor.P
open Go.RowKit Go.Proofs.YtkmfnmeilooogaaDoorW.PrintWords Go.Proofs.YtkmfnmeilooogaaDoorW.PrintLast Go.Proofs.YtkmfnmeilooogaaDoorW.PrintMore
attribute [local go_sem] max2_int min2_int max_two min_two max_three min_three max_four min_four
set_option linter.unusedVariables false
set_option linter.unusedSimpArgs false

def spec_l9Hex.l0:Nat→ByteArray→ByteArray→List Int→Int→Option (ByteArray)
 | 0,_,_,_,_=>none
 | k+1,x0,x3,x4,x5=>if x5<(x0.size:Int) then (if 0≤x5 then (if 0≤((Int.tdiv (bt x0 x5) 16) % 256) then (if ((Int.tdiv (bt x0 x5) 16) % 256)<(x3.size:Int) then (if 0≤(Int.tmod (bt x0 x5) 16) then (if (Int.tmod (bt x0 x5) 16)<(x3.size:Int) then ((some (([bt x3 ((Int.tdiv (bt x0 x5) 16) % 256),bt x3 (Int.tmod (bt x0 x5) 16)]:List Int):List Int)).bind fun a3=>(if x4.length+a3.length<140737488355328 then (spec_l9Hex.l0 k x0 x3 (x4++a3) (wrap64 (x5+1))) else (none))) else (none)) else (none)) else (none)) else (none)) else (none)) else (some (strOfNums x4))
def spec_l9Hex.f (k:Nat) (a0:ByteArray):Option (ByteArray):=spec_l9Hex.l0 k a0 (⟨#[48,49,50,51,52,53,54,55,56,57,97,98,99,100,101,102]⟩:ByteArray) (([]:List Int)) 0
theorem spec_l9Hex.mono_l:∀ k,(∀ y0 y1 y2 y3,LeO (spec_l9Hex.l0 k y0 y1 y2 y3) (spec_l9Hex.l0 (k+1) y0 y1 y2 y3))
 | 0=>fun _ _ _ _ r h=>by simp [spec_l9Hex.l0] at h
 | k + 1 => by
  have ih0:=spec_l9Hex.mono_l k
  ·intro y0 y1 y2 y3
   unfold spec_l9Hex.l0
   repeat' first
   | (with_reducible exact ih0 _ _ _ _)
   | (with_reducible exact LeO.refl _)
   | (with_reducible exact LeO.none _)
   | (with_reducible refine LeO.ite ?_ ?_)
   | (with_reducible refine LeO.bind ?_ (fun _ => ?_))
   | exact ih0 _ _ _ _
   | exact LeO.none _
   | refine LeO.ite ?_ ?_
   | refine LeO.bind ?_ (fun _ => ?_)
theorem spec_l9Hex.mono:∀ a0 k,LeO (spec_l9Hex.f k a0) (spec_l9Hex.f (k+1) a0):=by
 intro a0 k;have ih0:=spec_l9Hex.mono_l k
 unfold spec_l9Hex.f
 repeat' first
   | (with_reducible exact ih0 _ _ _ _)
   | (with_reducible exact LeO.refl _)
   | (with_reducible exact LeO.none _)
   | (with_reducible refine LeO.ite ?_ ?_)
   | (with_reducible refine LeO.bind ?_ (fun _ => ?_))
   | exact ih0 _ _ _ _
   | exact LeO.none _
   | refine LeO.ite ?_ ?_
   | refine LeO.bind ?_ (fun _ => ?_)
def spec_l9Hex.T6:Bool×List (List Nat×List Nat):=(true,[([],[]),([],[]),([],[]),([],[]),([2,3],[2,3]),([4],[4]),([1,5],[1,5]),([],[]),([],[]),([],[]),([8,9],[8,9]),([10],[10]),([7,11],[7,11]),([6,12],[6,12]),([0,13],[0,13]),([14,14,0,1,2,3,4,5,6,7,8,9,10,11,12,13,14],[0,14])])
def spec_l9Hex.B6:List Nat:=[0,0,0,0,12,28,62,0,0,0,768,1792,3968,8190,16383,32767]
theorem spec_l9Hex.tab6:rtab .any (opsOf Tryd.f44 6)=spec_l9Hex.T6:=by kernel_rfl
theorem spec_l9Hex.bits6:waitsOk spec_l9Hex.T6.2 spec_l9Hex.B6=true:=by kernel_rfl
set_option maxHeartbeats 8000000 in
set_option maxRecDepth 100000 in
theorem spec_l9Hex.calls (k : Nat) (a0 : ByteArray) (r : ByteArray) (w : World) (h : spec_l9Hex.f k a0 = some r) :
  Calls Tryd.prog 44 #[.string a0] w fun e w'=>e = .returned (.string r)∧Below w.heap.size w w':=by
 have HB:=Aside0.mk (Below.refl w.heap.size w);have H:(spec_l9Hex.l0 k a0 (⟨#[48,49,50,51,52,53,54,55,56,57,97,98,99,100,101,102]⟩:ByteArray) (([]:List Int)) 0)=some r:=h;clear h
 obtain ⟨af,a8⟩:∃ y_:List Int,y_=(([]:List Int)):=⟨_,rfl⟩
 replace H:(spec_l9Hex.l0 k a0 (⟨#[48,49,50,51,52,53,54,55,56,57,97,98,99,100,101,102]⟩:ByteArray) af 0)=some r:=by first|(rw [a8];with_reducible exact H)|(have H2_:=(Option.bind_some _ _).symm.trans H;rw [a8];with_reducible exact H2_)|(have H2_:=(Option.bind_some _ _).symm.trans H;with_reducible exact H2_)|with_reducible exact H|(rw [a8];exact H)|exact H
 have ag:=Aside0.mk a8;clear a8;have H':=Aside0.mk H;clear H
 go_enter Tryd.func44,Tryd.ntmps44
 go_wp2_with (first|((with_reducible refine gd 6 rfl ?_);refine Kd.R_lit (Kd.int .u8) _ 5 ?hg (N:=6) ?hd (xs:=([]:List Int)) (inner:=[]) (ok:=fun _=>True) (okp:=fun _=>True) ?hr ?hp (fun _ hk=>hk) trivial (Below.refl _ _) (Nat.le_refl _) (by simp) ?_;(case hd=>rfl);(case hg=>rfl);(case hr=>first|(go_simp;done)|(go_simp;rfl));(case hp=>exact (Reps.none _ _));intro v353 w2 ho3 hb hg_ hnew_;clear hg_ hnew_;(first|rw [←ag.out] at ho3|(simp only [Int.reduceToNat] at ho3;rw [←ag.out] at ho3));refine Ya2 (Kd.R_lower ho3 (below_size (be HB.out))) (below_step (be HB.out) hb) ?_;clear HB;intro al HB;clear hb ho3))
 go_loopg [4,5] k (fun kq v4 v5 w' => ∃ (a5:List Int) (a1:Int),v5 = .int .i64 a1∧Aside0 (spec_l9Hex.l0 kq a0 (⟨#[48,49,50,51,52,53,54,55,56,57,97,98,99,100,101,102]⟩:ByteArray) a5 a1=some r)∧Aside0 (kq≤k)∧Aside0 (Kd.R (Kd.int .u8) 5 w' w.heap.size (fun _=>True) v4 a5)∧Aside0 (Below w.heap.size w w'))
 case atStart=>exact ⟨(af),(0),Ye1,H',⟨Nat.le_refl _⟩,⟨kr al.out⟩,⟨be HB.out⟩⟩
 case round =>
  clear H';(try clear p2);obtain ⟨a5,a1,rfl,HA,HK1,a6,HB⟩:=hrel
  cases gk with
  | zero=>exact absurd HA.out (by simp [spec_l9Hex.l0])
  | succ k1 =>
   have H:=HA.out;clear HA;simp only [spec_l9Hex.l0] at H
   by_cases c4:a1<(a0.size:Int)
   ·rw [if_pos c4] at H
    have am:decide (a1<(a0.size:Int))=true:=decide_eq_true c4;clear c4
    by_cases c5:0≤a1
    ·rw [if_pos c5] at H
     have c5b0:decide (0≤a1)=true:=decide_eq_true c5;clear c5
     obtain ⟨a2,ae⟩:∃ j_:Int,((Int.tdiv (bt a0 a1) 16) % 256)=j_:=⟨_,rfl⟩
     have hji7w:IntKind.u8.wrap (Int.tdiv (bt a0 a1) 16)=a2:=by rw [←ae];simp [IntKind.wrap,IntKind.bits,IntKind.signed]
     replace H:(if 0≤(a2) then (if (a2)<((⟨#[48,49,50,51,52,53,54,55,56,57,97,98,99,100,101,102]⟩:ByteArray).size:Int) then (if 0≤(Int.tmod (bt a0 a1) 16) then (if (Int.tmod (bt a0 a1) 16)<((⟨#[48,49,50,51,52,53,54,55,56,57,97,98,99,100,101,102]⟩:ByteArray).size:Int) then ((some (([bt (⟨#[48,49,50,51,52,53,54,55,56,57,97,98,99,100,101,102]⟩:ByteArray) (a2),bt (⟨#[48,49,50,51,52,53,54,55,56,57,97,98,99,100,101,102]⟩:ByteArray) (Int.tmod (bt a0 a1) 16)]:List Int):List Int)).bind fun a3=>(if a5.length+a3.length<140737488355328 then (spec_l9Hex.l0 k1 a0 (⟨#[48,49,50,51,52,53,54,55,56,57,97,98,99,100,101,102]⟩:ByteArray) (a5++a3) (wrap64 (a1+1))) else (none))) else (none)) else (none)) else (none)) else (none))=some r:=by first|(rw [ae] at H;exact H)|(simp only [ae] at H ⊢; exact H)
     by_cases c8:0≤(a2)
     ·rw [if_pos c8] at H
      have c8b0:decide (0≤(a2))=true:=decide_eq_true c8;clear c8
      by_cases c9:(a2)<((⟨#[48,49,50,51,52,53,54,55,56,57,97,98,99,100,101,102]⟩:ByteArray).size:Int)
      ·rw [if_pos c9] at H
       have c9b0:decide ((a2)<((⟨#[48,49,50,51,52,53,54,55,56,57,97,98,99,100,101,102]⟩:ByteArray).size:Int))=true:=decide_eq_true c9;clear c9
       obtain ⟨a4,ah⟩:∃ j_:Int,(Int.tmod (bt a0 a1) 16)=j_:=⟨_,rfl⟩
       replace H:(if 0≤(a4) then (if (a4)<((⟨#[48,49,50,51,52,53,54,55,56,57,97,98,99,100,101,102]⟩:ByteArray).size:Int) then ((some (([bt (⟨#[48,49,50,51,52,53,54,55,56,57,97,98,99,100,101,102]⟩:ByteArray) (a2),bt (⟨#[48,49,50,51,52,53,54,55,56,57,97,98,99,100,101,102]⟩:ByteArray) (a4)]:List Int):List Int)).bind fun a3=>(if a5.length+a3.length<140737488355328 then (spec_l9Hex.l0 k1 a0 (⟨#[48,49,50,51,52,53,54,55,56,57,97,98,99,100,101,102]⟩:ByteArray) (a5++a3) (wrap64 (a1+1))) else (none))) else (none)) else (none))=some r:=by first|(rw [ah] at H;exact H)|(simp only [ah] at H ⊢; exact H)
       by_cases ab:0≤(a4)
       ·rw [if_pos ab] at H
        have c13b0:decide (0≤(a4))=true:=decide_eq_true ab;clear ab
        by_cases ac:(a4)<((⟨#[48,49,50,51,52,53,54,55,56,57,97,98,99,100,101,102]⟩:ByteArray).size:Int)
        ·rw [if_pos ac] at H
         have c14b0:decide ((a4)<((⟨#[48,49,50,51,52,53,54,55,56,57,97,98,99,100,101,102]⟩:ByteArray).size:Int))=true:=decide_eq_true ac;clear ac
         obtain ⟨a3,a9⟩:∃ y_:List Int,y_=(([bt (⟨#[48,49,50,51,52,53,54,55,56,57,97,98,99,100,101,102]⟩:ByteArray) (a2),bt (⟨#[48,49,50,51,52,53,54,55,56,57,97,98,99,100,101,102]⟩:ByteArray) (a4)]:List Int)):=⟨_,rfl⟩
         replace H:(if a5.length+a3.length<140737488355328 then (spec_l9Hex.l0 k1 a0 (⟨#[48,49,50,51,52,53,54,55,56,57,97,98,99,100,101,102]⟩:ByteArray) (a5++a3) (wrap64 (a1+1))) else (none))=some r:=by first|(rw [a9];with_reducible exact H)|(have H2_:=(Option.bind_some _ _).symm.trans H;rw [a9];with_reducible exact H2_)|(have H2_:=(Option.bind_some _ _).symm.trans H;with_reducible exact H2_)|with_reducible exact H|(rw [a9];exact H)|exact H
         have ai:=Aside0.mk a9;clear a9
         by_cases ad:a5.length+a3.length<140737488355328
         ·rw [if_pos ad] at H
          have an:=Aside0.mk ad;clear ad
          obtain ⟨aj,aa⟩:∃ y_:List Int,y_=(a5++a3):=⟨_,rfl⟩
          replace H:(spec_l9Hex.l0 k1 a0 (⟨#[48,49,50,51,52,53,54,55,56,57,97,98,99,100,101,102]⟩:ByteArray) aj (wrap64 (a1+1)))=some r:=by first|(rw [aa];with_reducible exact H)|(have H2_:=(Option.bind_some _ _).symm.trans H;rw [aa];with_reducible exact H2_)|(have H2_:=(Option.bind_some _ _).symm.trans H;with_reducible exact H2_)|with_reducible exact H|(rw [aa];exact H)|exact H
          have ao:=Aside0.mk aa;clear aa;have H':=Aside0.mk H;clear H
          try go_wp2
          refine Ya2 (Kd.R_drew a6.out) (below_drew1 HB.out) ?_;clear a6 HB;intro a6 HB;have p6:0≤(a1:Int):=oda;have q6:a1<(a0.size:Int):=oda;have hx6:=bt_at a0 a1;replace p6:=eq_true p6;replace q6:=eq_true q6;have p10:0≤((a2):Int):=oda;have q10:(a2)<(16:Int):=oda;have hx10:=bt_at (⟨#[48,49,50,51,52,53,54,55,56,57,97,98,99,100,101,102]⟩:ByteArray) (a2);replace p10:=eq_true p10;replace q10:=eq_true q10;have p11:0≤(a1:Int):=oda;have q11:a1<(a0.size:Int):=oda;have hx11:=bt_at a0 a1;replace p11:=eq_true p11;replace q11:=eq_true q11;have p15:0≤((a4):Int):=oda;have q15:(a4)<(16:Int):=oda;have hx15:=bt_at (⟨#[48,49,50,51,52,53,54,55,56,57,97,98,99,100,101,102]⟩:ByteArray) (a4);replace p15:=eq_true p15;replace q15:=eq_true q15;refine start_ (n:=16) (S:=fun w'=>True) (ds:=[]) (fb 16 0) (by kernel_rfl) rfl rfl trivial (fun hHeld => ?_);refine with_tabW spec_l9Hex.tab6 spec_l9Hex.bits6 (fun HT_ HW_ => ?_);generalize wr.drew=w17 at a6 HB hHeld ⊢; refine pu 0 13 (fb 16 1) HT_ ?_;refine pu 1 14 (fb 16 3) HT_ ?_;refine pu 2 15 (fb 16 7) HT_ ?_;refine pu 3 16 (fb 16 15) HT_ ?_;refine pu 7 20 (fb 16 143) HT_ ?_;refine pu 8 21 (fb 16 399) HT_ ?_;refine pu 9 22 (fb 16 911) HT_ ?_;refine take_ (i:=4) (N:=some 17) (v:=?_) (a':=?_) (fb 16 927) rfl rfl (take_ofW HT_.out HW_.out (by kernel_rfl)) (fun _ _ _ h=>h) (Or.inl ⟨by rfl,?_⟩) hHeld ?_ ?_;rotate_left
          ·intro w' _;go_simp;(with_reducible rfl)
          rotate_left
          ·simp only [Act.put,List.setIfInBounds_toArray,List.set_cons_zero,List.set_cons_succ,i64_w,i32_w];rfl
          refine pu 5 18 (fb 16 959) HT_ ?_;refine take_ (i:=6) (N:=some 19) (v:=?_) (a':=?_) (fb 16 1023) rfl rfl (take_ofW HT_.out HW_.out (by kernel_rfl)) (fun _ _ _ h=>h) (Or.inl ⟨by rfl,?_⟩) hHeld ?_ ?_;rotate_left
          ·intro w' _;go_simp;(with_reducible rfl)
          rotate_left
          ·simp only [Act.put,List.setIfInBounds_toArray,List.set_cons_zero,List.set_cons_succ,i64_w,i32_w];rfl
          refine take_ (i:=10) (N:=some 23) (v:=?_) (a':=?_) (fb 16 2047) rfl rfl (take_ofW HT_.out HW_.out (by kernel_rfl)) (fun _ _ _ h=>h) (Or.inl ⟨by rfl,?_⟩) hHeld ?_ ?_;rotate_left
          ·intro w' _;go_simp;(with_reducible rfl)
          rotate_left
          ·simp only [Act.put,List.setIfInBounds_toArray,List.set_cons_zero,List.set_cons_succ,i64_w,i32_w];rfl
          refine pu 11 24 (fb 16 4095) HT_ ?_;refine take_ (i:=12) (N:=some 25) (v:=?_) (a':=?_) (fb 16 8191) rfl rfl (take_ofW HT_.out HW_.out (by kernel_rfl)) (fun _ _ _ h=>h) (Or.inl ⟨by rfl,?_⟩) hHeld ?_ ?_;rotate_left
          ·intro w' _;go_simp;(with_reducible rfl)
          rotate_left
          ·simp only [Act.put,List.setIfInBounds_toArray,List.set_cons_zero,List.set_cons_succ,i64_w,i32_w];rfl
          refine o1 13 (some 26) (fb 16 16383) HT_ (fun K hK => ?_);refine Kd.R_lit_step (Kd.int .u8) _ 5 ?hg (N:=26) ?hd (xs:=([bt (⟨#[48,49,50,51,52,53,54,55,56,57,97,98,99,100,101,102]⟩:ByteArray) (a2),bt (⟨#[48,49,50,51,52,53,54,55,56,57,97,98,99,100,101,102]⟩:ByteArray) (a4)]:List Int)) (inner:=[.int .u8 (bt (⟨#[48,49,50,51,52,53,54,55,56,57,97,98,99,100,101,102]⟩:ByteArray) (a2)),.int .u8 (bt (⟨#[48,49,50,51,52,53,54,55,56,57,97,98,99,100,101,102]⟩:ByteArray) (a4))]) (ok:=fun _=>True) (okp:=fun _=>True) ?hr ?hp (fun _ hk=>hk) trivial (Below.refl _ _) (Nat.le_refl _) (by simp) ?_;(case hd=>rfl);(case hg=>rfl);(case hr=>first|(go_simp;done)|(go_simp;rfl));(case hp=>exact (Reps.one (show Kd.M (Kd.int .u8) _ _ _ (bt (⟨#[48,49,50,51,52,53,54,55,56,57,97,98,99,100,101,102]⟩:ByteArray) (a2)) [.int .u8 (bt (⟨#[48,49,50,51,52,53,54,55,56,57,97,98,99,100,101,102]⟩:ByteArray) (a2))] from rfl) (Reps.one (show Kd.M (Kd.int .u8) _ _ _ (bt (⟨#[48,49,50,51,52,53,54,55,56,57,97,98,99,100,101,102]⟩:ByteArray) (a4)) [.int .u8 (bt (⟨#[48,49,50,51,52,53,54,55,56,57,97,98,99,100,101,102]⟩:ByteArray) (a4))] from rfl) (Reps.none _ _))));intro v356 w18 ho19 hb hg_ hnew_;clear hg_ hnew_;(first|rw [←ai.out] at ho19|(simp only [Int.reduceToNat] at ho19;rw [←ai.out] at ho19));refine Ya3 (Kd.R_elder' (kr a6.out) (Kd.R_base ho19) hb) (Kd.R_lower (Kd.R_new' ho19 (Kd.R_lt (kr a6.out))) (below_size (be HB.out))) (below_step (be HB.out) hb) ?_;clear a6 HB;intro a6 a7 HB;clear hb ho19;obtain ⟨ap,aq,ak⟩:=Kd.R_slice a7.out;(first|subst ak|(injection ak with f1_ f2_ f3_;have f4_:=f1_.symm;have f5_:=f3_.symm;clear f1_ f2_ f3_;subst f4_;subst f5_));refine hK.out _ _ trivial (fun hHeld => ?_);clear hK K;refine nm 26 ?_;refine o1 14 (some 27) (fb 16 32767) HT_ (fun K hK => ?_);refine Kd.R_append_rows_step (Kd.int .u8) (w0:=w) w.heap.size (by rfl) (.tmp 13) (.tmp 26) 25 5 (.int .u8 0) 1 rfl Tryd.underlying25 info5 rfl (by decide) (by omega) u4 a5 a3 _ _ _ (fun k_=>some k_≠(.slice ap a3.length aq:Value).ownBlock) (fun _=>False) rfl rfl ?aO ?aR (fun _ _ h=>h) (fun _ h=>h.elim) ?aF ?aB ?aS ?aL ?_;(case aR=>repeat (first|exact (Kd.R_reads' a7.out).2.2|(with_reducible refine Kd.C_alloc ?_ _)|(with_reducible refine Kd.C_drewN ?_ _)|(with_reducible refine Kd.C_drew ?_)));(case aB=>exact (be HB.out));(case aF=>exact (fun k_ hk=>Kd.fresh' (Kd.R_lt (kr a7.out)) k_ hk));(case aO=>exact (by (with_reducible repeat (first|apply Kd.R_alloc|apply Kd.R_drewN|apply Kd.R_drew));exact Kd.R_mono a6.out (fun _ hk=>hk.2)));(case aS=>exact (below_size (be HB.out)));(case aL=>have:=an.out;omega);intro v359 w20 ho hb hg hat
          rw [←ao.out] at ho
          refine Ya3 (Kd.R_after (ok:=(fun _=>True)) (kr a7.out) hg hat) (hb) (ho) ?_;clear a7 HB a6;intro a7 HB ar;clear ho hb hg hat;refine hK.out _ _ trivial (fun hHeld => ?_);clear hK K;refine nm 27 ?_;refine pu 15 4 (fb 16 65535) HT_ ?_;refine done_ (done_of HT_.out (by kernel_rfl)) ?_
          try go_wp2
          go_roundg k1
          case measure=>have:=HK1.out;omega
          case rel=>exact ⟨(aj),(wrap64 (a1+1)),Ye1,H',⟨by have:=HK1.out;omega⟩,⟨by (with_reducible repeat (first|apply Kd.R_alloc|apply Kd.R_drewN|apply Kd.R_drew));exact Kd.R_mono ar.out (fun _ hk=>trivial)⟩,⟨be HB.out⟩⟩
         ·rw [if_neg ad] at H
          exact absurd H (by simp)
        ·rw [if_neg ac] at H
         exact absurd H (by simp)
       ·rw [if_neg ab] at H
        exact absurd H (by simp)
      ·rw [if_neg c9] at H
       exact absurd H (by simp)
     ·rw [if_neg c8] at H
      exact absurd H (by simp)
    ·rw [if_neg c5] at H
     exact absurd H (by simp)
   ·rw [if_neg c4] at H
    have am:decide (a1<(a0.size:Int))=false:=decide_eq_false c4;clear c4;obtain rfl:=Option.some.inj H;have hcv22:=own_string (P:=Tryd.prog) Tryd.underlying25 Tryd.underlying5 Tryd.underlying9 (Kd.own_of_R a6.out)
    go_wp2
    go_ret
    exact ⟨Ye2,be HB.out⟩

end Go.Proofs.YtkmfnmeilooogaaDoor.P


namespace Go.Proofs.YtkmfnmeilooogaaDoor.P
open Go.RowKit Go.Proofs.YtkmfnmeilooogaaDoorW.PrintWords Go.Proofs.YtkmfnmeilooogaaDoorW.PrintLast Go.Proofs.YtkmfnmeilooogaaDoorW.PrintMore
attribute [local go_sem] max2_int min2_int max_two min_two max_three min_three max_four min_four
set_option linter.unusedVariables false
set_option linter.unusedSimpArgs false

def spec_l9Under.l0:Nat→ByteArray→Int→List (S34)→List (S34)→Option ((List (S34)))
 | 0,_,_,_,_=>none
 | k+1,x1,x6,ab,ap=>if x6<(ab.length:Int) then (if 0≤x6 then ((spec_l5Begins.f x1 ((rd_T34 ab x6).f0)).bind fun aq=>(if aq=true then (if 0≤(wrap64 ((x1.size:Int)+1)) then (if (wrap64 ((x1.size:Int)+1))≤(((rd_T34 ab x6).f0).size:Int) then (if ap.length<3518437208883 then (spec_l9Under.l0 k x1 (wrap64 (x6+1)) ab (ap ++ [(⟨((rd_T34 ab x6).f0).extract ((wrap64 ((x1.size:Int)+1)):Int).toNat ((rd_T34 ab x6).f0).size,(rd_T34 ab x6).f1,(rd_T34 ab x6).f2⟩:S34)])) else (none)) else (none)) else (none)) else (spec_l9Under.l0 k x1 (wrap64 (x6+1)) ab ap))) else (none)) else (some ap)
def spec_l9Under.f (k:Nat) (a2:List (S34)) (a1:ByteArray):Option ((List (S34))):=spec_l9Under.l0 k a1 0 a2 ([]:List (S34))
theorem spec_l9Under.mono_l:∀ k,(∀ y0 y1 y2 y3,LeO (spec_l9Under.l0 k y0 y1 y2 y3) (spec_l9Under.l0 (k+1) y0 y1 y2 y3))
 | 0=>fun _ _ _ _ r h=>by simp [spec_l9Under.l0] at h
 | k + 1 => by
  have ih0:=spec_l9Under.mono_l k
  ·intro y0 y1 y2 y3
   unfold spec_l9Under.l0
   repeat' first
   | (with_reducible exact ih0 _ _ _ _)
   | (with_reducible exact LeO.refl _)
   | (with_reducible exact LeO.none _)
   | (with_reducible refine LeO.ite ?_ ?_)
   | (with_reducible refine LeO.bind ?_ (fun _ => ?_))
   | exact ih0 _ _ _ _
   | exact LeO.none _
   | refine LeO.ite ?_ ?_
   | refine LeO.bind ?_ (fun _ => ?_)
theorem spec_l9Under.mono:∀ a0 a1 k,LeO (spec_l9Under.f k a0 a1) (spec_l9Under.f (k+1) a0 a1):=by
 intro a0 a1 k;have ih0:=spec_l9Under.mono_l k
 unfold spec_l9Under.f
 repeat' first
   | (with_reducible exact ih0 _ _ _ _)
   | (with_reducible exact LeO.refl _)
   | (with_reducible exact LeO.none _)
   | (with_reducible refine LeO.ite ?_ ?_)
   | (with_reducible refine LeO.bind ?_ (fun _ => ?_))
   | exact ih0 _ _ _ _
   | exact LeO.none _
   | refine LeO.ite ?_ ?_
   | refine LeO.bind ?_ (fun _ => ?_)
set_option maxHeartbeats 8000000 in
set_option maxRecDepth 100000 in
theorem spec_l9Under.calls (k : Nat) (ar : Option Addr) (ah : Nat) (a2 : List (S34)) (a1 : ByteArray) (r : List (S34)) (w : World) (aM : Kd.C k34 w ar a2.length a2) (aN : a2.length ≤ ah) (h : spec_l9Under.f k a2 a1 = some r) :
  Calls Tryd.prog 60 #[.agg #[.slice ar a2.length ah],.string a1] w fun e w' => ∃ v0_:Value,e = .returned (.agg #[v0_])∧Kd.R k34 34 w' w.heap.size (fun _=>True) v0_ r∧Below w.heap.size w w':=by
 have hu50:=Tryd.underlying50;have hu34:=Tryd.underlying34;have aQ:=Aside0.mk aM;have HC0_0:=Aside0.mk aN;clear aM aN;have HB:=Aside0.mk (Below.refl w.heap.size w);have H:(spec_l9Under.l0 k a1 0 a2 ([]:List (S34)))=some r:=h;clear h;have H':=Aside0.mk H;clear H
 go_enter Tryd.func60,Tryd.ntmps60
 go_wp2_with (first|((with_reducible refine gd 2 rfl ?_);refine bx 2 50 (#[.slice ar a2.length ah]) ?_;intro aR hg w3 hbox hb;refine Ya4 (below_step (be HB.out) hb) (hbox) (bs hg (be HB.out)) (bs hg (be HB.out)) ?_;clear HB;intro HB a4 GW478 GE478;clear hb hbox hg)|((with_reducible refine gd 4 rfl ?_);refine bx 4 50 (#[.slice none 0 0]) ?_;intro au hg w4 hbox hb;refine Ya7 (bb a4 hb) (below_step (bf HB.out) hb) (hbox) (bs hg (bf HB.out)) (bs hg (bf HB.out)) (bl hg a4) (br hg a4) ?_;clear a4 HB;intro a4 HB a5 GW479 GE479 aA aC;clear hb hbox hg)|((with_reducible refine gd 5 rfl ?_);refine bx 5 50 (#[.slice none 0 0]) ?_;intro aD hg w5 hbox hb;refine Ya10 (bb a4 hb) (bb a5 hb) (below_step (bf HB.out) hb) (hbox) (bs hg (bf HB.out)) (bs hg (bf HB.out)) (bl hg a4) (br hg a4) (bl hg a5) (br hg a5) ?_;clear a4 a5 HB;intro a4 a5 HB a6 GW480 GE480 af av ai aE;clear hb hbox hg;have hnb6:=av.out;have hnc6:=af.out;have hnb7:=aE.out;have hnc7:=ai.out;have ⟨b0,b1⟩:=Yc1 a6.out))
 go_loopg [6] k (fun kq v6 w' => ∃ (a3:Int) (a7:List (S34)) (ag:Value),v6 = .int .i64 a3∧Aside0 (spec_l9Under.l0 kq a1 a3 a2 a7=some r)∧Aside0 (kq≤k)∧Aside0 (Kd.R k34 34 w' w.heap.size (fun _=>True) ag a7)∧Aside0 (w'.heap[aR]? = some (.cells #[(.slice ar a2.length ah)] 50 (0,0)))∧Aside0 (w'.heap[au]? = some (.cells #[(.slice none 0 0)] 50 (0,0)))∧Aside0 (w'.heap[aD]? = some (.cells #[ag] 50 (0,0)))∧Aside0 (Below w.heap.size w w'))
 case atStart=>exact ⟨(0),(([]:List (S34))),(.slice none 0 0),Ye1,H',⟨Nat.le_refl _⟩,⟨nl⟩,⟨bkf a4.out af.out⟩,⟨bkf a5.out ai.out⟩,⟨bp a6.out⟩,⟨bf HB.out⟩⟩
 case round =>
  clear H';(try clear p2);(try clear c6);(try clear c7);(try clear b0);(try clear b1);obtain ⟨a3,a7,ag,rfl,HA,HK1,a8,a4,a5,a6,HB⟩:=hrel
  cases gk with
  | zero=>exact absurd HA.out (by simp [spec_l9Under.l0])
  | succ k1 =>
   have H:=HA.out;clear HA;simp only [spec_l9Under.l0] at H
   by_cases c9:a3<(a2.length:Int)
   ·rw [if_pos c9] at H
    have b2:decide (a3<(a2.length:Int))=true:=decide_eq_true c9;clear c9
    by_cases c10:0≤a3
    ·rw [if_pos c10] at H
     have c10b0:decide (0≤a3)=true:=decide_eq_true c10;clear c10;replace H:=Option.bind_eq_some_iff.mp H;obtain ⟨aq,aT,H⟩:=H;replace H:(if aq=true then (if 0≤(wrap64 ((a1.size:Int)+1)) then (if (wrap64 ((a1.size:Int)+1))≤(((rd_T34 a2 a3).f0).size:Int) then (if a7.length<3518437208883 then (spec_l9Under.l0 k1 a1 (wrap64 (a3+1)) a2 (a7 ++ [(⟨((rd_T34 a2 a3).f0).extract ((wrap64 ((a1.size:Int)+1)):Int).toNat ((rd_T34 a2 a3).f0).size,(rd_T34 a2 a3).f1,(rd_T34 a2 a3).f2⟩:S34)])) else (none)) else (none)) else (none)) else (spec_l9Under.l0 k1 a1 (wrap64 (a3+1)) a2 a7))=some r:=H;have aG:=Aside0.mk aT;clear aT
     by_cases aw:aq=true
     ·subst aw
      have H1:(if 0≤(wrap64 ((a1.size:Int)+1)) then (if (wrap64 ((a1.size:Int)+1))≤(((rd_T34 a2 a3).f0).size:Int) then (if a7.length<3518437208883 then (spec_l9Under.l0 k1 a1 (wrap64 (a3+1)) a2 (a7 ++ [(⟨((rd_T34 a2 a3).f0).extract ((wrap64 ((a1.size:Int)+1)):Int).toNat ((rd_T34 a2 a3).f0).size,(rd_T34 a2 a3).f1,(rd_T34 a2 a3).f2⟩:S34)])) else (none)) else (none)) else (none))=some r:=by rw [if_pos rfl] at H;exact H
      clear H;have H:=H1;clear H1
      obtain ⟨a9,ax⟩:∃ j_:Int,(wrap64 ((a1.size:Int)+1))=j_:=⟨_,rfl⟩
      replace H:(if 0≤(a9) then (if (a9)≤(((rd_T34 a2 a3).f0).size:Int) then (if a7.length<3518437208883 then (spec_l9Under.l0 k1 a1 (wrap64 (a3+1)) a2 (a7 ++ [(⟨((rd_T34 a2 a3).f0).extract ((a9):Int).toNat ((rd_T34 a2 a3).f0).size,(rd_T34 a2 a3).f1,(rd_T34 a2 a3).f2⟩:S34)])) else (none)) else (none)) else (none))=some r:=by first|(rw [ax] at H;exact H)|(simp only [ax] at H ⊢; exact H)
      (try rw [ax] at aG);have hji13w:(IntKind.i64.wrap ((a1.size:Int)+1))=a9:=(i64_w _).trans ax
      by_cases aj:0≤(a9)
      ·rw [if_pos aj] at H
       have c14b0:=eq_true aj;have c14b1:decide (0≤(a9))=true:=decide_eq_true aj;clear aj
       by_cases ak:(a9)≤(((rd_T34 a2 a3).f0).size:Int)
       ·rw [if_pos ak] at H
        have c15b0:=eq_true ak;have c15b1:decide ((a9)≤(((rd_T34 a2 a3).f0).size:Int))=true:=decide_eq_true ak;clear ak
        by_cases ay:a7.length<3518437208883
        ·rw [if_pos ay] at H
         have b3:=Aside0.mk ay;clear ay
         obtain ⟨az,al⟩:∃ y_:List (S34),y_=(a7 ++ [(⟨((rd_T34 a2 a3).f0).extract ((a9):Int).toNat ((rd_T34 a2 a3).f0).size,(rd_T34 a2 a3).f1,(rd_T34 a2 a3).f2⟩:S34)]):=⟨_,rfl⟩
         replace H:(spec_l9Under.l0 k1 a1 (wrap64 (a3+1)) a2 az)=some r:=by first|(rw [al];with_reducible exact H)|(have H2_:=(Option.bind_some _ _).symm.trans H;rw [al];with_reducible exact H2_)|(have H2_:=(Option.bind_some _ _).symm.trans H;with_reducible exact H2_)|with_reducible exact H|(rw [al];exact H)|exact H
         have b4:=Aside0.mk al;clear al;have H':=Aside0.mk H;clear H;have hnb17:=aA.out;have hnc17:=aC.out;have hnb18:=af.out;have hnc18:=av.out;have ⟨bg,bh⟩:=Yc1 a4.out;have ac:0≤(a3:Int):=oda;have ad:a3<(a2.length:Int):=oda;obtain ⟨aU,aH,b5,b6,b7⟩:=at_T34 (Kd.C_below aQ.out HB.out) a3 ac ad
         cases aH
         replace ac:=eq_true ac;replace ad:=eq_true ad
         go_wp2_with (first|((with_reducible refine gd 7 rfl ?_);refine bx 7 34 (#[.string (⟨#[]⟩:ByteArray),.string (⟨#[]⟩:ByteArray),.bool false]) ?_;intro aa hg w20 hbox hb;refine Ya14 (Kd.R_below (Kd.R_elderB (kr a8.out) aa (Nat.le_of_eq hg.symm)) hb) (bb a4 hb) (bb a5 hb) (bb a6 hb) (below_step (bf HB.out) hb) (hbox) (bs hg (bf HB.out)) (bs hg (bf HB.out)) (bl hg a4) (br hg a4) (bl hg a5) (br hg a5) (bl hg a6) (br hg a6) ?_;clear a8 a4 a5 a6 HB;intro a8 a4 a5 a6 HB ae b8 b9 am aI an aJ ao aK;clear hb hbox hg;have hnb21:=aI.out;have hnc21:=am.out;have hnb22:=aJ.out;have hnc22:=an.out;have hnb23:=aK.out;have hnc23:=ao.out;have ⟨bi,bj,bm,bn,bo,bq⟩:=Yc3 ae.out)|((with_reducible refine gc 87 rfl ?_);refine gl (some 24) _ (#[.string a1,.string ((rd_T34 a2 a3).f0)]) Tryd.func87 ?_;(with_reducible refine (spec_l5Begins.calls a1 ((rd_T34 a2 a3).f0) true _ aG.out).mono ?_);rintro e w' ⟨rfl,⟨nd,rfl⟩⟩;refine ⟨_,rfl,?_⟩;have hnb25:=aE.out;have hnc25:=ai.out;have ⟨bu,bv⟩:=Yc1 a6.out)|((with_reducible refine gate_builtin (b:=.append) (xs:=#[.tmp 33,.tmp 35]) rfl ?_);at_builtin;refine Kd.R_append k34 (w0:=w) w.heap.size rfl (.tmp 33) (.tmp 35) 48 34 (.agg #[(.string ⟨#[]⟩),(.string ⟨#[]⟩),(.bool false)]) 40 rfl Tryd.underlying48 info34 rfl (by decide) (by omega) ag a7 (⟨((rd_T34 a2 a3).f0).extract ((a9):Int).toNat ((rd_T34 a2 a3).f0).size,(rd_T34 a2 a3).f1,(rd_T34 a2 a3).f2⟩:S34) [.string (((rd_T34 a2 a3).f0).extract ((a9):Int).toNat ((rd_T34 a2 a3).f0).size),.string ((rd_T34 a2 a3).f1),.bool ((rd_T34 a2 a3).f2)] (fun k_=>k_≠aa) (fun _=>False) rfl (by first|(go_simp;done)|(go_simp;rfl)) ?aP (fun _ hk=>hk.elim) ?aF ?aO ?aB ?aS ?aL ?_;(case aP=>exact k34_mkM _ _ _ (⟨((rd_T34 a2 a3).f0).extract ((a9):Int).toNat ((rd_T34 a2 a3).f0).size,(rd_T34 a2 a3).f1,(rd_T34 a2 a3).f2⟩:S34));(case aB=>exact (bf HB.out));(case aF=>exact (fun k_ hk=>Kd.freshB (g:=aa) (o:=.cells #[.string (((rd_T34 a2 a3).f0).extract ((a9):Int).toNat ((rd_T34 a2 a3).f0).size),.string ((rd_T34 a2 a3).f1),.bool ((rd_T34 a2 a3).f2)] 34 (0,0)) (bp ae.out) k_ hk));(case aO=>exact (by (with_reducible repeat (first|apply Kd.R_alloc|apply Kd.R_drewN|apply Kd.R_drew));exact Kd.R_mono (Kd.R_far (p:=⟨aa,0,none⟩) (Kd.R_far (p:=⟨aa,2,none⟩) (Kd.R_far (p:=⟨aa,1,none⟩) (Kd.R_far (p:=⟨aa,0,none⟩) (Kd.R_mono a8.out (fun k_ hk=>(⟨hk,hk.2⟩:_∧k_≠aa))) (fun _ hk=>hk.2) (.string ((rd_T34 a2 a3).f0))) (fun _ hk=>hk.2) (.string ((rd_T34 a2 a3).f1))) (fun _ hk=>hk.2) (.bool ((rd_T34 a2 a3).f2))) (fun _ hk=>hk.2) (.string (((rd_T34 a2 a3).f0).extract ((a9):Int).toNat ((rd_T34 a2 a3).f0).size))) (fun _ hk=>hk.1.2)));(case aS=>exact (below_size (bf HB.out)));(case aL=>have:=b3.out;omega);intro v485 w27 ho hb hg hat;rw [←b4.out] at ho;refine Ya6 (blk_grown (g:=aR) (o:=.cells #[.slice (some aU) a2.length ah] 50 (0,0)) (bkf a4.out am.out) hg (Kd.R_ne a8.out a4.out (by decide))) (blk_grown (g:=au) (o:=.cells #[.slice none 0 0] 50 (0,0)) (bkf a5.out an.out) hg (Kd.R_ne a8.out a5.out (by decide))) (blk_grown (g:=aD) (o:=.cells #[ag] 50 (0,0)) (bkf a6.out ao.out) hg (Kd.R_ne a8.out a6.out (by decide))) (blk_grown (g:=aa) (o:=.cells #[.string (((rd_T34 a2 a3).f0).extract ((a9):Int).toNat ((rd_T34 a2 a3).f0).size),.string ((rd_T34 a2 a3).f1),.bool ((rd_T34 a2 a3).f2)] 34 (0,0)) (bp ae.out) hg (Kd.R_away a8.out (fun _ hk=>hk.2))) (hb) (ho) ?_;clear a4 a5 a6 ae HB a8;intro a4 a5 a6 ae HB aV;clear ho hb hg hat;obtain ⟨aW,aX,ba⟩:=Kd.R_slice aV.out;subst ba;have ⟨bw,bz⟩:=Yc1 a6.out))
         go_roundg k1
         case measure=>have:=HK1.out;omega
         case rel=>exact ⟨(wrap64 (a3+1)),(az),(.slice aW az.length aX),Ye1,H',⟨by have:=HK1.out;omega⟩,⟨by (with_reducible repeat (first|apply Kd.R_alloc|apply Kd.R_drewN|apply Kd.R_drew));exact Kd.R_mono (Kd.R_far (p:=⟨aD,0,none⟩) (Kd.R_types aV.out a6.out (by decide)) (fun _ hk=>hk.2) (.slice aW az.length aX)) (fun _ hk=>trivial)⟩,⟨bkf a4.out af.out⟩,⟨bkf a5.out ai.out⟩,⟨bp a6.out⟩,⟨bf HB.out⟩⟩
        ·rw [if_neg ay] at H
         exact absurd H (by simp)
       ·rw [if_neg ak] at H
        exact absurd H (by simp)
      ·rw [if_neg aj] at H
       exact absurd H (by simp)
     ·replace aw:=Bool.eq_false_iff.mpr aw;subst aw
      have H1:(spec_l9Under.l0 k1 a1 (wrap64 (a3+1)) a2 a7)=some r:=by rw [if_neg (show ¬(false=true) by decide)] at H;exact H
      clear H;have H:=H1;clear H1;have H':=Aside0.mk H;clear H;have hnb30:=aA.out;have hnc30:=aC.out;have hnb31:=af.out;have hnc31:=av.out;have ⟨bA,bB⟩:=Yc1 a4.out;have ac:0≤(a3:Int):=oda;have ad:a3<(a2.length:Int):=oda;obtain ⟨aU,aH,b5,b6,b7⟩:=at_T34 (Kd.C_below aQ.out HB.out) a3 ac ad
      cases aH
      replace ac:=eq_true ac;replace ad:=eq_true ad
      go_wp2_with (first|((with_reducible refine gd 7 rfl ?_);refine bx 7 34 (#[.string (⟨#[]⟩:ByteArray),.string (⟨#[]⟩:ByteArray),.bool false]) ?_;intro aa hg w33 hbox hb;refine Ya14 (Kd.R_below (Kd.R_elderB (kr a8.out) aa (Nat.le_of_eq hg.symm)) hb) (bb a4 hb) (bb a5 hb) (bb a6 hb) (below_step (bf HB.out) hb) (hbox) (bs hg (bf HB.out)) (bs hg (bf HB.out)) (bl hg a4) (br hg a4) (bl hg a5) (br hg a5) (bl hg a6) (br hg a6) ?_;clear a8 a4 a5 a6 HB;intro a8 a4 a5 a6 HB ae b8 b9 am aI an aJ ao aK;clear hb hbox hg;have hnb34:=aI.out;have hnc34:=am.out;have hnb35:=aJ.out;have hnc35:=an.out;have hnb36:=aK.out;have hnc36:=ao.out;have ⟨bC,bD,bE,bF,bG,bH⟩:=Yc3 ae.out)|((with_reducible refine gc 87 rfl ?_);refine gl (some 24) _ (#[.string a1,.string ((rd_T34 a2 a3).f0)]) Tryd.func87 ?_;(with_reducible refine (spec_l5Begins.calls a1 ((rd_T34 a2 a3).f0) false _ aG.out).mono ?_);rintro e w' ⟨rfl,⟨nd,rfl⟩⟩;refine ⟨_,rfl,?_⟩))
      go_roundg k1
      case measure=>have:=HK1.out;omega
      case rel=>exact ⟨(wrap64 (a3+1)),(a7),(ag),Ye1,H',⟨by have:=HK1.out;omega⟩,⟨by (with_reducible repeat (first|apply Kd.R_alloc|apply Kd.R_drewN|apply Kd.R_drew));exact Kd.R_mono (Kd.R_far (p:=⟨aa,2,none⟩) (Kd.R_far (p:=⟨aa,1,none⟩) (Kd.R_far (p:=⟨aa,0,none⟩) (Kd.R_mono a8.out (fun k_ hk=>(⟨hk,hk.2⟩:_∧k_≠aa))) (fun _ hk=>hk.2) (.string ((rd_T34 a2 a3).f0))) (fun _ hk=>hk.2) (.string ((rd_T34 a2 a3).f1))) (fun _ hk=>hk.2) (.bool ((rd_T34 a2 a3).f2))) (fun _ hk=>trivial)⟩,⟨bkf a4.out am.out⟩,⟨bkf a5.out an.out⟩,⟨bkf a6.out ao.out⟩,⟨bf HB.out⟩⟩
    ·rw [if_neg c10] at H
     exact absurd H (by simp)
   ·rw [if_neg c9] at H
    have b2:decide (a3<(a2.length:Int))=false:=decide_eq_false c9;clear c9;obtain rfl:=Option.some.inj H;have hnb38:=aA.out;have hnc38:=aC.out;have hnb39:=af.out;have hnc39:=av.out;have ⟨bI,bJ⟩:=Yc1 a4.out;have hnb41:=aE.out;have hnc41:=ai.out;have ⟨bK,bL⟩:=Yc1 a6.out;obtain ⟨aY,aZ,bd⟩:=Kd.R_slice a8.out;subst bd;have ⟨bM,bN⟩:=Yc1 a5.out
    go_wp2
    refine bodyPost_ret (results_cell_row rfl _ _ au 50 #[.slice aY a7.length aZ] (0,0) _ rfl (bp a5.out) Tryd.underlying50 rfl (by kernel_rfl)) rfl ?_;exact ⟨_,Ye2,by (with_reducible repeat (first|apply Kd.R_alloc|apply Kd.R_drewN|apply Kd.R_drew));exact Kd.R_mono (Kd.R_far (p:=⟨au,0,none⟩) (Kd.R_types a8.out a5.out (by decide)) (fun _ hk=>hk.2) (.slice aY a7.length aZ)) (fun _ hk=>trivial),(bf HB.out)⟩

end Go.Proofs.YtkmfnmeilooogaaDoor.P


namespace Go.Proofs.YtkmfnmeilooogaaDoor.P
open Go.RowKit Go.Proofs.YtkmfnmeilooogaaDoorW.PrintWords Go.Proofs.YtkmfnmeilooogaaDoorW.PrintLast Go.Proofs.YtkmfnmeilooogaaDoorW.PrintMore
attribute [local go_sem] max2_int min2_int max_two min_two max_three min_three max_four min_four
set_option linter.unusedVariables false
set_option linter.unusedSimpArgs false

mutual
def spec_l9Dir.l0:Nat→Int→List ByteArray→Int→List (S34)→Option (ByteArray)
 | 0,_,_,_,_=>none
 | k+1,x1,x5,x6,aT=>if x6<(aT.length:Int) then (if 0≤x6 then ((spec_l4Parts.f k ((rd_T34 aT x6).f0)).bind fun aE=>(if 0<(aE.length:Int) then ((spec_l6Name.f k x5 (rdOf ByteArray.empty aE 0)).bind fun b3=>(spec_l9Dir.l0 k x1 b3 (wrap64 (x6+1)) aT)) else (none))) else (none)) else (spec_l9Dir.l1 k x1 x5 (([]:List Int)) 0 aT)
def spec_l9Dir.l1:Nat→Int→List ByteArray→List Int→Int→List (S34)→Option (ByteArray)
 | 0,_,_,_,_,_=>none
 | k+1,x1,x5,x7,x8,aT=>if x8<(x5.length:Int) then (if 0≤x8 then ((spec_l6At.f k aT (rdOf ByteArray.empty x5 x8)).bind fun bt528=>(if 2+(rdOf ByteArray.empty x5 x8).size≤9223372036854775807 then (if ((⟨#[100,32]⟩:ByteArray)++(rdOf ByteArray.empty x5 x8)).size+1≤9223372036854775807 then ((spec_l9Under.f k aT (rdOf ByteArray.empty x5 x8)).bind fun aA=>((spec_l9Dir.f k aA x1).bind fun ay=>((spec_Sum.f k ay x1).bind fun ax=>((spec_l9Hex.f k ax).bind fun ak=>(if (((⟨#[100,32]⟩:ByteArray)++(rdOf ByteArray.empty x5 x8))++(⟨#[32]⟩:ByteArray)).size+ak.size≤9223372036854775807 then (if bt528.1=true then (if ((⟨#[102,32]⟩:ByteArray)++(rdOf ByteArray.empty x5 x8)).size+1≤9223372036854775807 then (if 5+bt528.2.1.size≤9223372036854775807 then ((spec_Sum.f k ((⟨#[102,105,108,101,32]⟩:ByteArray)++bt528.2.1) x1).bind fun ao=>((spec_l9Hex.f k ao).bind fun a9=>(if (((⟨#[102,32]⟩:ByteArray)++(rdOf ByteArray.empty x5 x8))++(⟨#[32]⟩:ByteArray)).size+a9.size≤9223372036854775807 then (if bt528.2.2=true then (if 1≤(((((⟨#[102,32]⟩:ByteArray)++(rdOf ByteArray.empty x5 x8))++(⟨#[32]⟩:ByteArray))++a9).size:Int) then (if 1+(((((⟨#[102,32]⟩:ByteArray)++(rdOf ByteArray.empty x5 x8))++(⟨#[32]⟩:ByteArray))++a9).extract 1 ((((⟨#[102,32]⟩:ByteArray)++(rdOf ByteArray.empty x5 x8))++(⟨#[32]⟩:ByteArray))++a9).size).size≤9223372036854775807 then (if x7.length+((⟨#[120]⟩:ByteArray)++(((((⟨#[102,32]⟩:ByteArray)++(rdOf ByteArray.empty x5 x8))++(⟨#[32]⟩:ByteArray))++a9).extract 1 ((((⟨#[102,32]⟩:ByteArray)++(rdOf ByteArray.empty x5 x8))++(⟨#[32]⟩:ByteArray))++a9).size)).size<140737488355328 then ((some (x7++bytesOf ((⟨#[120]⟩:ByteArray)++(((((⟨#[102,32]⟩:ByteArray)++(rdOf ByteArray.empty x5 x8))++(⟨#[32]⟩:ByteArray))++a9).extract 1 ((((⟨#[102,32]⟩:ByteArray)++(rdOf ByteArray.empty x5 x8))++(⟨#[32]⟩:ByteArray))++a9).size)):List Int)).bind fun ah=>(if ah.length<140737488355328 then (spec_l9Dir.l1 k x1 x5 (ah ++ [10]) (wrap64 (x8+1)) aT) else (none))) else (none)) else (none)) else (none)) else (if x7.length+((((⟨#[102,32]⟩:ByteArray)++(rdOf ByteArray.empty x5 x8))++(⟨#[32]⟩:ByteArray))++a9).size<140737488355328 then ((some (x7++bytesOf ((((⟨#[102,32]⟩:ByteArray)++(rdOf ByteArray.empty x5 x8))++(⟨#[32]⟩:ByteArray))++a9):List Int)).bind fun ai=>(if ai.length<140737488355328 then (spec_l9Dir.l1 k x1 x5 (ai ++ [10]) (wrap64 (x8+1)) aT) else (none))) else (none))) else (none)))) else (none)) else (none)) else (if x7.length+((((⟨#[100,32]⟩:ByteArray)++(rdOf ByteArray.empty x5 x8))++(⟨#[32]⟩:ByteArray))++ak).size<140737488355328 then ((some (x7++bytesOf ((((⟨#[100,32]⟩:ByteArray)++(rdOf ByteArray.empty x5 x8))++(⟨#[32]⟩:ByteArray))++ak):List Int)).bind fun am=>(if am.length<140737488355328 then (spec_l9Dir.l1 k x1 x5 (am ++ [10]) (wrap64 (x8+1)) aT) else (none))) else (none))) else (none)))))) else (none)) else (none))) else (none)) else (some (strOfNums x7))
def spec_l9Dir.f:Nat→List (S34)→Int→Option (ByteArray)
 | 0,_,_=>none
 | k+1,aa,a1=>spec_l9Dir.l0 k a1 (([]:List ByteArray)) 0 aa
end
theorem spec_l9Dir.mono_l:∀ k,(∀ y0 y1,LeO (spec_l9Dir.f k y0 y1) (spec_l9Dir.f (k+1) y0 y1))∧(∀ y0 y1 y2 y3,LeO (spec_l9Dir.l0 k y0 y1 y2 y3) (spec_l9Dir.l0 (k+1) y0 y1 y2 y3))∧(∀ y0 y1 y2 y3 y4,LeO (spec_l9Dir.l1 k y0 y1 y2 y3 y4) (spec_l9Dir.l1 (k+1) y0 y1 y2 y3 y4))
 | 0=>⟨fun _ _ r h=>by simp [spec_l9Dir.f] at h,fun _ _ _ _ r h=>by simp [spec_l9Dir.l0] at h,fun _ _ _ _ _ r h=>by simp [spec_l9Dir.l1] at h⟩
 | k + 1 => by
  obtain ⟨ih0,ih1,ih2⟩:=spec_l9Dir.mono_l k;refine ⟨?_,?_,?_⟩
  ·intro y0 y1
   unfold spec_l9Dir.f
   repeat' first
   | (with_reducible exact ih0 _ _)
   | (with_reducible exact ih1 _ _ _ _)
   | (with_reducible exact ih2 _ _ _ _ _)
   | (with_reducible exact spec_Sum.mono _ _ _)
   | (with_reducible exact spec_l4Parts.mono _ _)
   | (with_reducible exact spec_l6At.mono _ _ _)
   | (with_reducible exact spec_l6Name.mono _ _ _)
   | (with_reducible exact spec_l9Hex.mono _ _)
   | (with_reducible exact spec_l9Under.mono _ _ _)
   | (with_reducible exact LeO.refl _)
   | (with_reducible exact LeO.none _)
   | (with_reducible refine LeO.ite ?_ ?_)
   | (with_reducible refine LeO.bind ?_ (fun _ => ?_))
   | exact ih0 _ _
   | exact ih1 _ _ _ _
   | exact ih2 _ _ _ _ _
   | exact spec_Sum.mono _ _ _
   | exact spec_l4Parts.mono _ _
   | exact spec_l6At.mono _ _ _
   | exact spec_l6Name.mono _ _ _
   | exact spec_l9Hex.mono _ _
   | exact spec_l9Under.mono _ _ _
   | exact LeO.none _
   | refine LeO.ite ?_ ?_
   | refine LeO.bind ?_ (fun _ => ?_)
  ·intro y0 y1 y2 y3
   unfold spec_l9Dir.l0
   repeat' first
   | (with_reducible exact ih0 _ _)
   | (with_reducible exact ih1 _ _ _ _)
   | (with_reducible exact ih2 _ _ _ _ _)
   | (with_reducible exact spec_Sum.mono _ _ _)
   | (with_reducible exact spec_l4Parts.mono _ _)
   | (with_reducible exact spec_l6At.mono _ _ _)
   | (with_reducible exact spec_l6Name.mono _ _ _)
   | (with_reducible exact spec_l9Hex.mono _ _)
   | (with_reducible exact spec_l9Under.mono _ _ _)
   | (with_reducible exact LeO.refl _)
   | (with_reducible exact LeO.none _)
   | (with_reducible refine LeO.ite ?_ ?_)
   | (with_reducible refine LeO.bind ?_ (fun _ => ?_))
   | exact ih0 _ _
   | exact ih1 _ _ _ _
   | exact ih2 _ _ _ _ _
   | exact spec_Sum.mono _ _ _
   | exact spec_l4Parts.mono _ _
   | exact spec_l6At.mono _ _ _
   | exact spec_l6Name.mono _ _ _
   | exact spec_l9Hex.mono _ _
   | exact spec_l9Under.mono _ _ _
   | exact LeO.none _
   | refine LeO.ite ?_ ?_
   | refine LeO.bind ?_ (fun _ => ?_)
  ·intro y0 y1 y2 y3 y4
   unfold spec_l9Dir.l1
   repeat' first
   | (with_reducible exact ih0 _ _)
   | (with_reducible exact ih1 _ _ _ _)
   | (with_reducible exact ih2 _ _ _ _ _)
   | (with_reducible exact spec_Sum.mono _ _ _)
   | (with_reducible exact spec_l4Parts.mono _ _)
   | (with_reducible exact spec_l6At.mono _ _ _)
   | (with_reducible exact spec_l6Name.mono _ _ _)
   | (with_reducible exact spec_l9Hex.mono _ _)
   | (with_reducible exact spec_l9Under.mono _ _ _)
   | (with_reducible exact LeO.refl _)
   | (with_reducible exact LeO.none _)
   | (with_reducible refine LeO.ite ?_ ?_)
   | (with_reducible refine LeO.bind ?_ (fun _ => ?_))
   | exact ih0 _ _
   | exact ih1 _ _ _ _
   | exact ih2 _ _ _ _ _
   | exact spec_Sum.mono _ _ _
   | exact spec_l4Parts.mono _ _
   | exact spec_l6At.mono _ _ _
   | exact spec_l6Name.mono _ _ _
   | exact spec_l9Hex.mono _ _
   | exact spec_l9Under.mono _ _ _
   | exact LeO.none _
   | refine LeO.ite ?_ ?_
   | refine LeO.bind ?_ (fun _ => ?_)
theorem spec_l9Dir.mono:∀ a0 a1 k,LeO (spec_l9Dir.f k a0 a1) (spec_l9Dir.f (k+1) a0 a1):=by
 intro a0 a1 k;obtain ⟨ih0,ih1,ih2⟩:=spec_l9Dir.mono_l k;exact ih0 a0 a1
def spec_l9Dir.T10:Bool×List (List Nat×List Nat):=(true,[([],[]),([],[]),([],[]),([1,2],[1,2]),([3],[3]),([0,4],[0,4]),([],[]),([6,5,5,0,1,2,3,4,5,6],[5,6])])
def spec_l9Dir.B10:List Nat:=[0,0,0,6,14,31,0,127]
theorem spec_l9Dir.tab10:rtab .any (opsOf Tryd.f55 10)=spec_l9Dir.T10:=by kernel_rfl
theorem spec_l9Dir.bits10:waitsOk spec_l9Dir.T10.2 spec_l9Dir.B10=true:=by kernel_rfl
def spec_l9Dir.T11:Bool×List (List Nat×List Nat):=(true,[([],[]),([],[]),([0,1],[0,1]),([2],[2]),([3],[3]),([4],[4]),([],[]),([],[]),([],[]),([7,8],[7,8]),([9],[9]),([6,10],[6,10]),([],[]),([11,12,11],[11,12]),([],[]),([13,14,13],[13,14]),([15,15],[15]),([5,16],[5,16]),([17,16,0,1,2,3,4,5,6,7,8,9,10,11,12,13,14,15,16,17],[17])])
def spec_l9Dir.B11:List Nat:=[0,0,3,7,15,31,0,0,0,384,896,1984,0,8128,0,32704,65472,131071,262143]
theorem spec_l9Dir.tab11:rtab .any (opsOf Tryd.f55 11)=spec_l9Dir.T11:=by kernel_rfl
theorem spec_l9Dir.bits11:waitsOk spec_l9Dir.T11.2 spec_l9Dir.B11=true:=by kernel_rfl
def spec_l9Dir.T13:Bool×List (List Nat×List Nat):=(true,[([],[]),([],[]),([0,1],[0,1]),([2],[2]),([3],[3]),([4],[4]),([],[]),([6],[6]),([7],[7]),([],[]),([8,9],[8,9]),([10,10],[10]),([5,11],[5,11]),([12,11,0,1,2,3,4,5,6,7,8,9,10,11,12],[12])])
def spec_l9Dir.B13:List Nat:=[0,0,3,7,15,31,0,64,192,0,960,1984,4095,8191]
theorem spec_l9Dir.tab13:rtab .any (opsOf Tryd.f55 13)=spec_l9Dir.T13:=by kernel_rfl
theorem spec_l9Dir.bits13:waitsOk spec_l9Dir.T13.2 spec_l9Dir.B13=true:=by kernel_rfl
set_option maxHeartbeats 8000000 in
set_option maxRecDepth 100000 in
theorem spec_l9Dir.calls (k : Nat) : ∀ (ae : Option Addr) (af : Nat) (aa : List (S34)) (a1 : Int) (r : ByteArray) (w : World) (bY : Kd.C k34 w ae aa.length aa) (bZ : aa.length ≤ af) (h : spec_l9Dir.f k aa a1 = some r),
  Calls Tryd.prog 55 #[.agg #[.slice ae aa.length af],.int .i64 a1] w fun e w'=>e = .returned (.string r)∧Below w.heap.size w w':=by
 induction k using Nat.strongRecOn with
 | _ k ih =>
 intro ae af aa a1 r w bY bZ h
 cases k with
 | zero=>exact absurd h (by simp [spec_l9Dir.f])
 | succ k =>
 simp only [spec_l9Dir.f] at h;have hu50:=Tryd.underlying50;have hu133:=Tryd.underlying133;have aU:=Aside0.mk bY;have aV:=Aside0.mk bZ;clear bY bZ;have HB:=Aside0.mk (Below.refl w.heap.size w);have H:(spec_l9Dir.l0 k a1 (([]:List ByteArray)) 0 aa)=some r:=h;clear h
 obtain ⟨cj,bo⟩:∃ y_:List ByteArray,y_=(([]:List ByteArray)):=⟨_,rfl⟩
 replace H:(spec_l9Dir.l0 k a1 cj 0 aa)=some r:=by first|(rw [bo];with_reducible exact H)|(have H2_:=(Option.bind_some _ _).symm.trans H;rw [bo];with_reducible exact H2_)|(have H2_:=(Option.bind_some _ _).symm.trans H;with_reducible exact H2_)|with_reducible exact H|(rw [bo];exact H)|exact H
 have ck:=Aside0.mk bo;clear bo;have H':=Aside0.mk H;clear H
 go_enter Tryd.func55,Tryd.ntmps55
 go_wp2_with (first|((with_reducible refine gd 2 rfl ?_);refine bx 2 50 (#[.slice ae aa.length af]) ?_;intro ag hg w3 hbox hb;refine Ya4 (below_step (be HB.out) hb) (hbox) (bs hg (be HB.out)) (bs hg (be HB.out)) ?_;clear HB;intro HB a4 GW512 GE512;clear hb hbox hg)|((with_reducible refine gd 11 rfl ?_);refine Kd.R_lit Kd.string _ 9 ?hg (N:=11) ?hd (xs:=([]:List ByteArray)) (inner:=[]) (ok:=fun _=>True) (okp:=fun _=>True) ?hr ?hp (fun _ hk=>hk) trivial (Below.refl _ _) (Nat.le_refl _) (by simp) ?_;(case hd=>rfl);(case hg=>rfl);(case hr=>first|(go_simp;done)|(go_simp;rfl));(case hp=>exact (Reps.none _ _));intro v514 w4 ho5 hb hg_ hnew_;clear hg_ hnew_;(first|rw [←ck.out] at ho5|(simp only [Int.reduceToNat] at ho5;rw [←ck.out] at ho5));refine Ya3 (Kd.R_lower ho5 (below_size (bf HB.out))) (bb a4 hb) (below_step (bf HB.out) hb) ?_;clear a4 HB;intro cG a4 HB;clear hb ho5))
 go_loopg [5,6] k (fun kq v5 v6 w' => ∃ (a3:List ByteArray) (az:Int),v6 = .int .i64 az∧Aside0 (spec_l9Dir.l0 kq a1 a3 az aa=some r)∧Aside0 (kq≤k)∧Aside0 (Kd.R Kd.string 9 w' w.heap.size (fun _=>True) v5 a3)∧Aside0 (w'.heap[ag]? = some (.cells #[(.slice ae aa.length af)] 50 (0,0)))∧Aside0 (Below w.heap.size w w'))
 case atStart=>exact ⟨(cj),(0),Ye1,H',⟨Nat.le_refl _⟩,⟨kr cG.out⟩,⟨bk a4.out⟩,⟨bf HB.out⟩⟩
 case round =>
  clear H';(try clear p2);(try clear c5);obtain ⟨a3,az,rfl,HA,HK1,a5,a4,HB⟩:=hrel
  cases gk with
  | zero=>exact absurd HA.out (by simp [spec_l9Dir.l0])
  | succ k1 =>
   have H:=HA.out;clear HA;simp only [spec_l9Dir.l0] at H
   by_cases c6:az<(aa.length:Int)
   ·rw [if_pos c6] at H
    have cl:decide (az<(aa.length:Int))=true:=decide_eq_true c6;clear c6
    by_cases c7:0≤az
    ·rw [if_pos c7] at H
     have cH:decide (0≤az)=true:=decide_eq_true c7;clear c7;replace H:=Option.bind_eq_some_iff.mp H;obtain ⟨aE,A80,H⟩:=H;replace H:(if 0<(aE.length:Int) then ((spec_l6Name.f k1 a3 (rdOf ByteArray.empty aE 0)).bind fun b3=>(spec_l9Dir.l0 k1 a1 b3 (wrap64 (az+1)) aa)) else (none))=some r:=H;have A8:=Aside0.mk A80;clear A80
     by_cases c9:0<(aE.length:Int)
     ·rw [if_pos c9] at H
      have cI:decide (0<(aE.length:Int))=true:=decide_eq_true c9;have cJ:decide (0<aE.length)=true:=decide_eq_true (by omega);clear c9;replace H:=Option.bind_eq_some_iff.mp H;obtain ⟨b3,cm,H⟩:=H;replace H:(spec_l9Dir.l0 k1 a1 b3 (wrap64 (az+1)) aa)=some r:=H;have A10:=Aside0.mk cm;clear cm;have H':=Aside0.mk H;clear H;have ⟨cK,cL⟩:=Yc1 a4.out;have bK:0≤(az:Int):=oda;have bL:az<(aa.length:Int):=oda;obtain ⟨ad516,cM,cN,cO,cP⟩:=at_T34 (Kd.C_below aU.out HB.out) az bK bL
      cases cM
      replace bK:=eq_true bK;replace bL:=eq_true bL
      go_wp2_with (first|((with_reducible refine gc 42 rfl ?_);refine gl (some 26) _ (#[.string ((rd_T34 aa az).f0)]) Tryd.func42 ?_;(with_reducible refine (spec_l4Parts.calls k1 ((rd_T34 aa az).f0) aE _ A8.out).mono ?_);rintro e w12 ⟨v518,rfl,ho0,hb⟩;refine ⟨_,rfl,?_⟩;refine Ya4 (Kd.R_elder' (kr a5.out) (Kd.R_base ho0) hb) (Kd.R_lower (Kd.R_new' ho0 (Kd.R_lt (kr a5.out))) (below_size (bf HB.out))) (bb a4 hb) (below_step (bf HB.out) hb) ?_;clear a5 a4 HB;intro a5 b6 a4 HB;(try clear hb);(try clear hb2);(try clear hk);(try clear hi);(try clear ho0);obtain ⟨Ao13,co13,cQ⟩:=Kd.R_slice b6.out;subst cQ;have bM:0≤(0:Int):=(by omega);have bN:0<(aE.length:Int):=oda;obtain ⟨ad520,cR,c0⟩:=Kd.at_string (Kd.R_reads' b6.out).2.2 0 bM bN;cases cR;have qi520:(0<aE.length)=True:=eq_true (by omega);(try rw [show ((0:Int)).toNat=0 from rfl] at c0);(try rw [Addr.add_zero'] at c0);replace bM:=eq_true bM;replace bN:=eq_true bN;obtain ⟨cS,cT,cU⟩:=Kd.R_slice a5.out;subst cU)|((with_reducible refine gc 80 rfl ?_);refine gl (some 29) _ (#[.slice cS a3.length cT,.string (rdOf ByteArray.empty aE 0)]) Tryd.func80 ?_;(with_reducible refine (spec_l6Name.calls k1 _ _ a3 (rdOf ByteArray.empty aE 0) b3 _ ?side1 ?side2 A10.out).mono ?_);(case side1=>repeat (first|exact (Kd.R_reads' a5.out).2.2|(with_reducible refine Kd.C_alloc ?_ _)|(with_reducible refine Kd.C_drewN ?_ _)|(with_reducible refine Kd.C_drew ?_)));(case side2=>exact (Kd.R_reads' a5.out).2.1);rintro e w15 ⟨v522,rfl,ho0,hb⟩;refine ⟨_,rfl,?_⟩;refine Ya5 (Kd.R_elder' (kr a5.out) (Kd.R_base ho0) hb) (Kd.R_elder' (kr b6.out) (Kd.R_base ho0) hb) (Kd.R_lower (Kd.R_new' (Kd.R_new' ho0 (Kd.R_lt (kr a5.out))) (Kd.R_lt (kr b6.out))) (below_size (bf HB.out))) (bb a4 hb) (below_step (bf HB.out) hb) ?_;clear a5 b6 a4 HB;intro a5 b6 cV a4 HB;(try clear hb);(try clear hb2);(try clear hk);(try clear hi);(try clear ho0)))
      go_roundg k1
      case measure=>have:=HK1.out;omega
      case rel=>exact ⟨(b3),(wrap64 (az+1)),Ye1,H',⟨by have:=HK1.out;omega⟩,⟨by (with_reducible repeat (first|apply Kd.R_alloc|apply Kd.R_drewN|apply Kd.R_drew));exact Kd.R_mono cV.out (fun _ hk=>trivial)⟩,⟨bk a4.out⟩,⟨bf HB.out⟩⟩
     ·rw [if_neg c9] at H
      exact absurd H (by simp)
    ·rw [if_neg c7] at H
     exact absurd H (by simp)
   ·rw [if_neg c6] at H
    have cl:decide (az<(aa.length:Int))=false:=decide_eq_false c6;clear c6
    obtain ⟨cn,bq⟩:∃ y_:List Int,y_=(([]:List Int)):=⟨_,rfl⟩
    replace H:(spec_l9Dir.l1 k1 a1 a3 cn 0 aa)=some r:=by first|(rw [bq];with_reducible exact H)|(have H2_:=(Option.bind_some _ _).symm.trans H;rw [bq];with_reducible exact H2_)|(have H2_:=(Option.bind_some _ _).symm.trans H;with_reducible exact H2_)|with_reducible exact H|(rw [bq];exact H)|exact H
    have co:=Aside0.mk bq;clear bq;have H':=Aside0.mk H;clear H;have ⟨cW,cX⟩:=Yc1 a4.out
    go_wp2_with (first|((with_reducible refine gd 30 rfl ?_);refine Kd.R_lit (Kd.int .u8) _ 5 ?hg (N:=30) ?hd (xs:=([]:List Int)) (inner:=[]) (ok:=fun _=>True) (okp:=fun _=>True) ?hr ?hp (fun _ hk=>hk) trivial (Below.refl _ _) (Nat.le_refl _) (by simp) ?_;(case hd=>rfl);(case hg=>rfl);(case hr=>first|(go_simp;done)|(go_simp;rfl));(case hp=>exact (Reps.none _ _));intro v525 w17 ho18 hb hg_ hnew_;clear hg_ hnew_;(first|rw [←co.out] at ho18|(simp only [Int.reduceToNat] at ho18;rw [←co.out] at ho18));refine Ya4 (Kd.R_below (kr a5.out) hb) (Kd.R_lower ho18 (below_size (bf HB.out))) (bb a4 hb) (below_step (bf HB.out) hb) ?_;clear a5 a4 HB;intro a5 cY a4 HB;clear hb ho18))
    go_loopg [7,8] k1 (fun kq v7 v8 w' => ∃ (ac:List Int) (a2:Int),v8 = .int .i64 a2∧Aside0 (spec_l9Dir.l1 kq a1 a3 ac a2 aa=some r)∧Aside0 (kq≤k1)∧Aside0 (Kd.R Kd.string 9 w' w.heap.size (fun _=>True) u5 a3)∧Aside0 (Kd.R (Kd.int .u8) 5 w' w.heap.size (fun _=>True) v7 ac)∧Aside0 (w'.heap[ag]? = some (.cells #[(.slice ae aa.length af)] 50 (0,0)))∧Aside0 (Below w.heap.size w w'))
    case atStart=>exact ⟨(cn),(0),Ye1,H',⟨Nat.le_refl _⟩,⟨kr a5.out⟩,⟨kr cY.out⟩,⟨bk a4.out⟩,⟨bf HB.out⟩⟩
    case round =>
     clear H';(try clear p2);(try clear c4);(try clear c5);(try clear p5);(try clear q5);(try clear hx5);(try clear qi5);(try clear c6);(try clear cl);(try clear p6);(try clear c7);(try clear cH);(try clear c8);(try clear c9);(try clear cI);(try clear cJ);(try clear cK);(try clear cW);(try clear cL);(try clear cX);(try clear cN);(try clear cO);(try clear cP);(try clear c0);(try clear p2);(try clear bK);(try clear bM);(try clear bL);(try clear bN);obtain ⟨ac,a2,rfl,HA,HK2,a5,a7,a4,HB⟩:=hrel
     cases gk with
     | zero=>exact absurd HA.out (by simp [spec_l9Dir.l1])
     | succ k2 =>
      have H:=HA.out;clear HA;simp only [spec_l9Dir.l1] at H
      by_cases b7:a2<(a3.length:Int)
      ·rw [if_pos b7] at H
       have cZ:decide (a2<(a3.length:Int))=true:=decide_eq_true b7;clear b7
       by_cases bO:0≤a2
       ·rw [if_pos bO] at H
        have c20b0:decide (0≤a2)=true:=decide_eq_true bO;clear bO;replace H:=Option.bind_eq_some_iff.mp H;obtain ⟨⟨b8,ad,an⟩,cp,H⟩:=H;replace H:(if 2+(rdOf ByteArray.empty a3 a2).size≤9223372036854775807 then (if ((⟨#[100,32]⟩:ByteArray)++(rdOf ByteArray.empty a3 a2)).size+1≤9223372036854775807 then ((spec_l9Under.f k2 aa (rdOf ByteArray.empty a3 a2)).bind fun aA=>((spec_l9Dir.f k2 aA a1).bind fun ay=>((spec_Sum.f k2 ay a1).bind fun ax=>((spec_l9Hex.f k2 ax).bind fun ak=>(if (((⟨#[100,32]⟩:ByteArray)++(rdOf ByteArray.empty a3 a2))++(⟨#[32]⟩:ByteArray)).size+ak.size≤9223372036854775807 then (if b8=true then (if ((⟨#[102,32]⟩:ByteArray)++(rdOf ByteArray.empty a3 a2)).size+1≤9223372036854775807 then (if 5+ad.size≤9223372036854775807 then ((spec_Sum.f k2 ((⟨#[102,105,108,101,32]⟩:ByteArray)++ad) a1).bind fun ao=>((spec_l9Hex.f k2 ao).bind fun a9=>(if (((⟨#[102,32]⟩:ByteArray)++(rdOf ByteArray.empty a3 a2))++(⟨#[32]⟩:ByteArray)).size+a9.size≤9223372036854775807 then (if an=true then (if 1≤(((((⟨#[102,32]⟩:ByteArray)++(rdOf ByteArray.empty a3 a2))++(⟨#[32]⟩:ByteArray))++a9).size:Int) then (if 1+(((((⟨#[102,32]⟩:ByteArray)++(rdOf ByteArray.empty a3 a2))++(⟨#[32]⟩:ByteArray))++a9).extract 1 ((((⟨#[102,32]⟩:ByteArray)++(rdOf ByteArray.empty a3 a2))++(⟨#[32]⟩:ByteArray))++a9).size).size≤9223372036854775807 then (if ac.length+((⟨#[120]⟩:ByteArray)++(((((⟨#[102,32]⟩:ByteArray)++(rdOf ByteArray.empty a3 a2))++(⟨#[32]⟩:ByteArray))++a9).extract 1 ((((⟨#[102,32]⟩:ByteArray)++(rdOf ByteArray.empty a3 a2))++(⟨#[32]⟩:ByteArray))++a9).size)).size<140737488355328 then ((some (ac++bytesOf ((⟨#[120]⟩:ByteArray)++(((((⟨#[102,32]⟩:ByteArray)++(rdOf ByteArray.empty a3 a2))++(⟨#[32]⟩:ByteArray))++a9).extract 1 ((((⟨#[102,32]⟩:ByteArray)++(rdOf ByteArray.empty a3 a2))++(⟨#[32]⟩:ByteArray))++a9).size)):List Int)).bind fun ah=>(if ah.length<140737488355328 then (spec_l9Dir.l1 k2 a1 a3 (ah ++ [10]) (wrap64 (a2+1)) aa) else (none))) else (none)) else (none)) else (none)) else (if ac.length+((((⟨#[102,32]⟩:ByteArray)++(rdOf ByteArray.empty a3 a2))++(⟨#[32]⟩:ByteArray))++a9).size<140737488355328 then ((some (ac++bytesOf ((((⟨#[102,32]⟩:ByteArray)++(rdOf ByteArray.empty a3 a2))++(⟨#[32]⟩:ByteArray))++a9):List Int)).bind fun ai=>(if ai.length<140737488355328 then (spec_l9Dir.l1 k2 a1 a3 (ai ++ [10]) (wrap64 (a2+1)) aa) else (none))) else (none))) else (none)))) else (none)) else (none)) else (if ac.length+((((⟨#[100,32]⟩:ByteArray)++(rdOf ByteArray.empty a3 a2))++(⟨#[32]⟩:ByteArray))++ak).size<140737488355328 then ((some (ac++bytesOf ((((⟨#[100,32]⟩:ByteArray)++(rdOf ByteArray.empty a3 a2))++(⟨#[32]⟩:ByteArray))++ak):List Int)).bind fun am=>(if am.length<140737488355328 then (spec_l9Dir.l1 k2 a1 a3 (am ++ [10]) (wrap64 (a2+1)) aa) else (none))) else (none))) else (none)))))) else (none)) else (none))=some r:=H;have b9:=Aside0.mk cp;clear cp
        by_cases bu:2+(rdOf ByteArray.empty a3 a2).size≤9223372036854775807
        ·rw [if_pos bu] at H
         have c22b0:=eq_true bu;have c22b1:decide (2+(rdOf ByteArray.empty a3 a2).size≤9223372036854775807)=true:=decide_eq_true bu
         try have c22b2:(9223372036854775807<2+(rdOf ByteArray.empty a3 a2).size)=False:=eq_false (Nat.not_lt.2 bu)
         by_cases ba:((⟨#[100,32]⟩:ByteArray)++(rdOf ByteArray.empty a3 a2)).size+1≤9223372036854775807
         ·rw [if_pos ba] at H
          try have c23n:2+(rdOf ByteArray.empty a3 a2).size+1≤9223372036854775807:=(by have h_:=ba;(try simp only [ByteArray.size_append] at h_);(try simp only [ByteArray.size_extract] at h_);(try simp only [show (⟨#[100,32]⟩:ByteArray).size=2 from rfl] at h_);(try omega);(try simpa using h_))
          try have c23m:=eq_true c23n
          try have c23d:=decide_eq_true c23n
          try have c23l:=eq_false (Nat.not_lt.2 c23n)
          (try clear c23n);have c23b0:=eq_true ba;have c23b1:decide (((⟨#[100,32]⟩:ByteArray)++(rdOf ByteArray.empty a3 a2)).size+1≤9223372036854775807)=true:=decide_eq_true ba
          try have c23b2:(9223372036854775807<((⟨#[100,32]⟩:ByteArray)++(rdOf ByteArray.empty a3 a2)).size+1)=False:=eq_false (Nat.not_lt.2 ba)
          replace H:=Option.bind_eq_some_iff.mp H;obtain ⟨aA,cq,H⟩:=H;replace H:((spec_l9Dir.f k2 aA a1).bind fun ay=>((spec_Sum.f k2 ay a1).bind fun ax=>((spec_l9Hex.f k2 ax).bind fun ak=>(if (((⟨#[100,32]⟩:ByteArray)++(rdOf ByteArray.empty a3 a2))++(⟨#[32]⟩:ByteArray)).size+ak.size≤9223372036854775807 then (if b8=true then (if ((⟨#[102,32]⟩:ByteArray)++(rdOf ByteArray.empty a3 a2)).size+1≤9223372036854775807 then (if 5+ad.size≤9223372036854775807 then ((spec_Sum.f k2 ((⟨#[102,105,108,101,32]⟩:ByteArray)++ad) a1).bind fun ao=>((spec_l9Hex.f k2 ao).bind fun a9=>(if (((⟨#[102,32]⟩:ByteArray)++(rdOf ByteArray.empty a3 a2))++(⟨#[32]⟩:ByteArray)).size+a9.size≤9223372036854775807 then (if an=true then (if 1≤(((((⟨#[102,32]⟩:ByteArray)++(rdOf ByteArray.empty a3 a2))++(⟨#[32]⟩:ByteArray))++a9).size:Int) then (if 1+(((((⟨#[102,32]⟩:ByteArray)++(rdOf ByteArray.empty a3 a2))++(⟨#[32]⟩:ByteArray))++a9).extract 1 ((((⟨#[102,32]⟩:ByteArray)++(rdOf ByteArray.empty a3 a2))++(⟨#[32]⟩:ByteArray))++a9).size).size≤9223372036854775807 then (if ac.length+((⟨#[120]⟩:ByteArray)++(((((⟨#[102,32]⟩:ByteArray)++(rdOf ByteArray.empty a3 a2))++(⟨#[32]⟩:ByteArray))++a9).extract 1 ((((⟨#[102,32]⟩:ByteArray)++(rdOf ByteArray.empty a3 a2))++(⟨#[32]⟩:ByteArray))++a9).size)).size<140737488355328 then ((some (ac++bytesOf ((⟨#[120]⟩:ByteArray)++(((((⟨#[102,32]⟩:ByteArray)++(rdOf ByteArray.empty a3 a2))++(⟨#[32]⟩:ByteArray))++a9).extract 1 ((((⟨#[102,32]⟩:ByteArray)++(rdOf ByteArray.empty a3 a2))++(⟨#[32]⟩:ByteArray))++a9).size)):List Int)).bind fun ah=>(if ah.length<140737488355328 then (spec_l9Dir.l1 k2 a1 a3 (ah ++ [10]) (wrap64 (a2+1)) aa) else (none))) else (none)) else (none)) else (none)) else (if ac.length+((((⟨#[102,32]⟩:ByteArray)++(rdOf ByteArray.empty a3 a2))++(⟨#[32]⟩:ByteArray))++a9).size<140737488355328 then ((some (ac++bytesOf ((((⟨#[102,32]⟩:ByteArray)++(rdOf ByteArray.empty a3 a2))++(⟨#[32]⟩:ByteArray))++a9):List Int)).bind fun ai=>(if ai.length<140737488355328 then (spec_l9Dir.l1 k2 a1 a3 (ai ++ [10]) (wrap64 (a2+1)) aa) else (none))) else (none))) else (none)))) else (none)) else (none)) else (if ac.length+((((⟨#[100,32]⟩:ByteArray)++(rdOf ByteArray.empty a3 a2))++(⟨#[32]⟩:ByteArray))++ak).size<140737488355328 then ((some (ac++bytesOf ((((⟨#[100,32]⟩:ByteArray)++(rdOf ByteArray.empty a3 a2))++(⟨#[32]⟩:ByteArray))++ak):List Int)).bind fun am=>(if am.length<140737488355328 then (spec_l9Dir.l1 k2 a1 a3 (am ++ [10]) (wrap64 (a2+1)) aa) else (none))) else (none))) else (none)))))=some r:=H;have c1:=Aside0.mk cq;clear cq;replace H:=Option.bind_eq_some_iff.mp H;obtain ⟨ay,cr,H⟩:=H;replace H:((spec_Sum.f k2 ay a1).bind fun ax=>((spec_l9Hex.f k2 ax).bind fun ak=>(if (((⟨#[100,32]⟩:ByteArray)++(rdOf ByteArray.empty a3 a2))++(⟨#[32]⟩:ByteArray)).size+ak.size≤9223372036854775807 then (if b8=true then (if ((⟨#[102,32]⟩:ByteArray)++(rdOf ByteArray.empty a3 a2)).size+1≤9223372036854775807 then (if 5+ad.size≤9223372036854775807 then ((spec_Sum.f k2 ((⟨#[102,105,108,101,32]⟩:ByteArray)++ad) a1).bind fun ao=>((spec_l9Hex.f k2 ao).bind fun a9=>(if (((⟨#[102,32]⟩:ByteArray)++(rdOf ByteArray.empty a3 a2))++(⟨#[32]⟩:ByteArray)).size+a9.size≤9223372036854775807 then (if an=true then (if 1≤(((((⟨#[102,32]⟩:ByteArray)++(rdOf ByteArray.empty a3 a2))++(⟨#[32]⟩:ByteArray))++a9).size:Int) then (if 1+(((((⟨#[102,32]⟩:ByteArray)++(rdOf ByteArray.empty a3 a2))++(⟨#[32]⟩:ByteArray))++a9).extract 1 ((((⟨#[102,32]⟩:ByteArray)++(rdOf ByteArray.empty a3 a2))++(⟨#[32]⟩:ByteArray))++a9).size).size≤9223372036854775807 then (if ac.length+((⟨#[120]⟩:ByteArray)++(((((⟨#[102,32]⟩:ByteArray)++(rdOf ByteArray.empty a3 a2))++(⟨#[32]⟩:ByteArray))++a9).extract 1 ((((⟨#[102,32]⟩:ByteArray)++(rdOf ByteArray.empty a3 a2))++(⟨#[32]⟩:ByteArray))++a9).size)).size<140737488355328 then ((some (ac++bytesOf ((⟨#[120]⟩:ByteArray)++(((((⟨#[102,32]⟩:ByteArray)++(rdOf ByteArray.empty a3 a2))++(⟨#[32]⟩:ByteArray))++a9).extract 1 ((((⟨#[102,32]⟩:ByteArray)++(rdOf ByteArray.empty a3 a2))++(⟨#[32]⟩:ByteArray))++a9).size)):List Int)).bind fun ah=>(if ah.length<140737488355328 then (spec_l9Dir.l1 k2 a1 a3 (ah ++ [10]) (wrap64 (a2+1)) aa) else (none))) else (none)) else (none)) else (none)) else (if ac.length+((((⟨#[102,32]⟩:ByteArray)++(rdOf ByteArray.empty a3 a2))++(⟨#[32]⟩:ByteArray))++a9).size<140737488355328 then ((some (ac++bytesOf ((((⟨#[102,32]⟩:ByteArray)++(rdOf ByteArray.empty a3 a2))++(⟨#[32]⟩:ByteArray))++a9):List Int)).bind fun ai=>(if ai.length<140737488355328 then (spec_l9Dir.l1 k2 a1 a3 (ai ++ [10]) (wrap64 (a2+1)) aa) else (none))) else (none))) else (none)))) else (none)) else (none)) else (if ac.length+((((⟨#[100,32]⟩:ByteArray)++(rdOf ByteArray.empty a3 a2))++(⟨#[32]⟩:ByteArray))++ak).size<140737488355328 then ((some (ac++bytesOf ((((⟨#[100,32]⟩:ByteArray)++(rdOf ByteArray.empty a3 a2))++(⟨#[32]⟩:ByteArray))++ak):List Int)).bind fun am=>(if am.length<140737488355328 then (spec_l9Dir.l1 k2 a1 a3 (am ++ [10]) (wrap64 (a2+1)) aa) else (none))) else (none))) else (none))))=some r:=H;have ca:=Aside0.mk cr;clear cr;replace H:=Option.bind_eq_some_iff.mp H;obtain ⟨ax,cs,H⟩:=H
          replace H:((spec_l9Hex.f k2 ax).bind fun ak=>(if (((⟨#[100,32]⟩:ByteArray)++(rdOf ByteArray.empty a3 a2))++(⟨#[32]⟩:ByteArray)).size+ak.size≤9223372036854775807 then (if b8=true then (if ((⟨#[102,32]⟩:ByteArray)++(rdOf ByteArray.empty a3 a2)).size+1≤9223372036854775807 then (if 5+ad.size≤9223372036854775807 then ((spec_Sum.f k2 ((⟨#[102,105,108,101,32]⟩:ByteArray)++ad) a1).bind fun ao=>((spec_l9Hex.f k2 ao).bind fun a9=>(if (((⟨#[102,32]⟩:ByteArray)++(rdOf ByteArray.empty a3 a2))++(⟨#[32]⟩:ByteArray)).size+a9.size≤9223372036854775807 then (if an=true then (if 1≤(((((⟨#[102,32]⟩:ByteArray)++(rdOf ByteArray.empty a3 a2))++(⟨#[32]⟩:ByteArray))++a9).size:Int) then (if 1+(((((⟨#[102,32]⟩:ByteArray)++(rdOf ByteArray.empty a3 a2))++(⟨#[32]⟩:ByteArray))++a9).extract 1 ((((⟨#[102,32]⟩:ByteArray)++(rdOf ByteArray.empty a3 a2))++(⟨#[32]⟩:ByteArray))++a9).size).size≤9223372036854775807 then (if ac.length+((⟨#[120]⟩:ByteArray)++(((((⟨#[102,32]⟩:ByteArray)++(rdOf ByteArray.empty a3 a2))++(⟨#[32]⟩:ByteArray))++a9).extract 1 ((((⟨#[102,32]⟩:ByteArray)++(rdOf ByteArray.empty a3 a2))++(⟨#[32]⟩:ByteArray))++a9).size)).size<140737488355328 then ((some (ac++bytesOf ((⟨#[120]⟩:ByteArray)++(((((⟨#[102,32]⟩:ByteArray)++(rdOf ByteArray.empty a3 a2))++(⟨#[32]⟩:ByteArray))++a9).extract 1 ((((⟨#[102,32]⟩:ByteArray)++(rdOf ByteArray.empty a3 a2))++(⟨#[32]⟩:ByteArray))++a9).size)):List Int)).bind fun ah=>(if ah.length<140737488355328 then (spec_l9Dir.l1 k2 a1 a3 (ah ++ [10]) (wrap64 (a2+1)) aa) else (none))) else (none)) else (none)) else (none)) else (if ac.length+((((⟨#[102,32]⟩:ByteArray)++(rdOf ByteArray.empty a3 a2))++(⟨#[32]⟩:ByteArray))++a9).size<140737488355328 then ((some (ac++bytesOf ((((⟨#[102,32]⟩:ByteArray)++(rdOf ByteArray.empty a3 a2))++(⟨#[32]⟩:ByteArray))++a9):List Int)).bind fun ai=>(if ai.length<140737488355328 then (spec_l9Dir.l1 k2 a1 a3 (ai ++ [10]) (wrap64 (a2+1)) aa) else (none))) else (none))) else (none)))) else (none)) else (none)) else (if ac.length+((((⟨#[100,32]⟩:ByteArray)++(rdOf ByteArray.empty a3 a2))++(⟨#[32]⟩:ByteArray))++ak).size<140737488355328 then ((some (ac++bytesOf ((((⟨#[100,32]⟩:ByteArray)++(rdOf ByteArray.empty a3 a2))++(⟨#[32]⟩:ByteArray))++ak):List Int)).bind fun am=>(if am.length<140737488355328 then (spec_l9Dir.l1 k2 a1 a3 (am ++ [10]) (wrap64 (a2+1)) aa) else (none))) else (none))) else (none)))=some r:=H;have cc:=Aside0.mk cs;clear cs;replace H:=Option.bind_eq_some_iff.mp H;obtain ⟨ak,ct,H⟩:=H;replace H:(if (((⟨#[100,32]⟩:ByteArray)++(rdOf ByteArray.empty a3 a2))++(⟨#[32]⟩:ByteArray)).size+ak.size≤9223372036854775807 then (if b8=true then (if ((⟨#[102,32]⟩:ByteArray)++(rdOf ByteArray.empty a3 a2)).size+1≤9223372036854775807 then (if 5+ad.size≤9223372036854775807 then ((spec_Sum.f k2 ((⟨#[102,105,108,101,32]⟩:ByteArray)++ad) a1).bind fun ao=>((spec_l9Hex.f k2 ao).bind fun a9=>(if (((⟨#[102,32]⟩:ByteArray)++(rdOf ByteArray.empty a3 a2))++(⟨#[32]⟩:ByteArray)).size+a9.size≤9223372036854775807 then (if an=true then (if 1≤(((((⟨#[102,32]⟩:ByteArray)++(rdOf ByteArray.empty a3 a2))++(⟨#[32]⟩:ByteArray))++a9).size:Int) then (if 1+(((((⟨#[102,32]⟩:ByteArray)++(rdOf ByteArray.empty a3 a2))++(⟨#[32]⟩:ByteArray))++a9).extract 1 ((((⟨#[102,32]⟩:ByteArray)++(rdOf ByteArray.empty a3 a2))++(⟨#[32]⟩:ByteArray))++a9).size).size≤9223372036854775807 then (if ac.length+((⟨#[120]⟩:ByteArray)++(((((⟨#[102,32]⟩:ByteArray)++(rdOf ByteArray.empty a3 a2))++(⟨#[32]⟩:ByteArray))++a9).extract 1 ((((⟨#[102,32]⟩:ByteArray)++(rdOf ByteArray.empty a3 a2))++(⟨#[32]⟩:ByteArray))++a9).size)).size<140737488355328 then ((some (ac++bytesOf ((⟨#[120]⟩:ByteArray)++(((((⟨#[102,32]⟩:ByteArray)++(rdOf ByteArray.empty a3 a2))++(⟨#[32]⟩:ByteArray))++a9).extract 1 ((((⟨#[102,32]⟩:ByteArray)++(rdOf ByteArray.empty a3 a2))++(⟨#[32]⟩:ByteArray))++a9).size)):List Int)).bind fun ah=>(if ah.length<140737488355328 then (spec_l9Dir.l1 k2 a1 a3 (ah ++ [10]) (wrap64 (a2+1)) aa) else (none))) else (none)) else (none)) else (none)) else (if ac.length+((((⟨#[102,32]⟩:ByteArray)++(rdOf ByteArray.empty a3 a2))++(⟨#[32]⟩:ByteArray))++a9).size<140737488355328 then ((some (ac++bytesOf ((((⟨#[102,32]⟩:ByteArray)++(rdOf ByteArray.empty a3 a2))++(⟨#[32]⟩:ByteArray))++a9):List Int)).bind fun ai=>(if ai.length<140737488355328 then (spec_l9Dir.l1 k2 a1 a3 (ai ++ [10]) (wrap64 (a2+1)) aa) else (none))) else (none))) else (none)))) else (none)) else (none)) else (if ac.length+((((⟨#[100,32]⟩:ByteArray)++(rdOf ByteArray.empty a3 a2))++(⟨#[32]⟩:ByteArray))++ak).size<140737488355328 then ((some (ac++bytesOf ((((⟨#[100,32]⟩:ByteArray)++(rdOf ByteArray.empty a3 a2))++(⟨#[32]⟩:ByteArray))++ak):List Int)).bind fun am=>(if am.length<140737488355328 then (spec_l9Dir.l1 k2 a1 a3 (am ++ [10]) (wrap64 (a2+1)) aa) else (none))) else (none))) else (none))=some r:=H;have cd:=Aside0.mk ct;clear ct
          by_cases bd:(((⟨#[100,32]⟩:ByteArray)++(rdOf ByteArray.empty a3 a2))++(⟨#[32]⟩:ByteArray)).size+ak.size≤9223372036854775807
          ·rw [if_pos bd] at H
           try have c28n:2+(rdOf ByteArray.empty a3 a2).size+1+ak.size≤9223372036854775807:=(by have h_:=bd;(try simp only [ByteArray.size_append] at h_);(try simp only [ByteArray.size_extract] at h_);(try simp only [show (⟨#[100,32]⟩:ByteArray).size=2 from rfl,show (⟨#[32]⟩:ByteArray).size=1 from rfl] at h_);(try omega);(try simpa using h_))
           try have c28m:=eq_true c28n
           try have c28d:=decide_eq_true c28n
           try have c28l:=eq_false (Nat.not_lt.2 c28n)
           (try clear c28n);have c28b0:=eq_true bd;have c28b1:decide ((((⟨#[100,32]⟩:ByteArray)++(rdOf ByteArray.empty a3 a2))++(⟨#[32]⟩:ByteArray)).size+ak.size≤9223372036854775807)=true:=decide_eq_true bd
           try have c28b2:(9223372036854775807<(((⟨#[100,32]⟩:ByteArray)++(rdOf ByteArray.empty a3 a2))++(⟨#[32]⟩:ByteArray)).size+ak.size)=False:=eq_false (Nat.not_lt.2 bd)
           by_cases bP:b8=true
           ·subst bP
            have H1:(if ((⟨#[102,32]⟩:ByteArray)++(rdOf ByteArray.empty a3 a2)).size+1≤9223372036854775807 then (if 5+ad.size≤9223372036854775807 then ((spec_Sum.f k2 ((⟨#[102,105,108,101,32]⟩:ByteArray)++ad) a1).bind fun ao=>((spec_l9Hex.f k2 ao).bind fun a9=>(if (((⟨#[102,32]⟩:ByteArray)++(rdOf ByteArray.empty a3 a2))++(⟨#[32]⟩:ByteArray)).size+a9.size≤9223372036854775807 then (if an=true then (if 1≤(((((⟨#[102,32]⟩:ByteArray)++(rdOf ByteArray.empty a3 a2))++(⟨#[32]⟩:ByteArray))++a9).size:Int) then (if 1+(((((⟨#[102,32]⟩:ByteArray)++(rdOf ByteArray.empty a3 a2))++(⟨#[32]⟩:ByteArray))++a9).extract 1 ((((⟨#[102,32]⟩:ByteArray)++(rdOf ByteArray.empty a3 a2))++(⟨#[32]⟩:ByteArray))++a9).size).size≤9223372036854775807 then (if ac.length+((⟨#[120]⟩:ByteArray)++(((((⟨#[102,32]⟩:ByteArray)++(rdOf ByteArray.empty a3 a2))++(⟨#[32]⟩:ByteArray))++a9).extract 1 ((((⟨#[102,32]⟩:ByteArray)++(rdOf ByteArray.empty a3 a2))++(⟨#[32]⟩:ByteArray))++a9).size)).size<140737488355328 then ((some (ac++bytesOf ((⟨#[120]⟩:ByteArray)++(((((⟨#[102,32]⟩:ByteArray)++(rdOf ByteArray.empty a3 a2))++(⟨#[32]⟩:ByteArray))++a9).extract 1 ((((⟨#[102,32]⟩:ByteArray)++(rdOf ByteArray.empty a3 a2))++(⟨#[32]⟩:ByteArray))++a9).size)):List Int)).bind fun ah=>(if ah.length<140737488355328 then (spec_l9Dir.l1 k2 a1 a3 (ah ++ [10]) (wrap64 (a2+1)) aa) else (none))) else (none)) else (none)) else (none)) else (if ac.length+((((⟨#[102,32]⟩:ByteArray)++(rdOf ByteArray.empty a3 a2))++(⟨#[32]⟩:ByteArray))++a9).size<140737488355328 then ((some (ac++bytesOf ((((⟨#[102,32]⟩:ByteArray)++(rdOf ByteArray.empty a3 a2))++(⟨#[32]⟩:ByteArray))++a9):List Int)).bind fun ai=>(if ai.length<140737488355328 then (spec_l9Dir.l1 k2 a1 a3 (ai ++ [10]) (wrap64 (a2+1)) aa) else (none))) else (none))) else (none)))) else (none)) else (none))=some r:=by rw [if_pos rfl] at H;exact H
            clear H;have H:=H1;clear H1
            by_cases bg:((⟨#[102,32]⟩:ByteArray)++(rdOf ByteArray.empty a3 a2)).size+1≤9223372036854775807
            ·rw [if_pos bg] at H
             try have c30n:2+(rdOf ByteArray.empty a3 a2).size+1≤9223372036854775807:=(by have h_:=bg;(try simp only [ByteArray.size_append] at h_);(try simp only [ByteArray.size_extract] at h_);(try simp only [show (⟨#[102,32]⟩:ByteArray).size=2 from rfl] at h_);(try omega);(try simpa using h_))
             try have c30m:=eq_true c30n
             try have c30d:=decide_eq_true c30n
             try have c30l:=eq_false (Nat.not_lt.2 c30n)
             (try clear c30n);have c30b0:=eq_true bg;have c30b1:decide (((⟨#[102,32]⟩:ByteArray)++(rdOf ByteArray.empty a3 a2)).size+1≤9223372036854775807)=true:=decide_eq_true bg
             try have c30b2:(9223372036854775807<((⟨#[102,32]⟩:ByteArray)++(rdOf ByteArray.empty a3 a2)).size+1)=False:=eq_false (Nat.not_lt.2 bg)
             by_cases bv:5+ad.size≤9223372036854775807
             ·rw [if_pos bv] at H
              have c31b0:=eq_true bv;have c31b1:decide (5+ad.size≤9223372036854775807)=true:=decide_eq_true bv
              try have c31b2:(9223372036854775807<5+ad.size)=False:=eq_false (Nat.not_lt.2 bv)
              replace H:=Option.bind_eq_some_iff.mp H;obtain ⟨ao,cu,H⟩:=H;replace H:((spec_l9Hex.f k2 ao).bind fun a9=>(if (((⟨#[102,32]⟩:ByteArray)++(rdOf ByteArray.empty a3 a2))++(⟨#[32]⟩:ByteArray)).size+a9.size≤9223372036854775807 then (if an=true then (if 1≤(((((⟨#[102,32]⟩:ByteArray)++(rdOf ByteArray.empty a3 a2))++(⟨#[32]⟩:ByteArray))++a9).size:Int) then (if 1+(((((⟨#[102,32]⟩:ByteArray)++(rdOf ByteArray.empty a3 a2))++(⟨#[32]⟩:ByteArray))++a9).extract 1 ((((⟨#[102,32]⟩:ByteArray)++(rdOf ByteArray.empty a3 a2))++(⟨#[32]⟩:ByteArray))++a9).size).size≤9223372036854775807 then (if ac.length+((⟨#[120]⟩:ByteArray)++(((((⟨#[102,32]⟩:ByteArray)++(rdOf ByteArray.empty a3 a2))++(⟨#[32]⟩:ByteArray))++a9).extract 1 ((((⟨#[102,32]⟩:ByteArray)++(rdOf ByteArray.empty a3 a2))++(⟨#[32]⟩:ByteArray))++a9).size)).size<140737488355328 then ((some (ac++bytesOf ((⟨#[120]⟩:ByteArray)++(((((⟨#[102,32]⟩:ByteArray)++(rdOf ByteArray.empty a3 a2))++(⟨#[32]⟩:ByteArray))++a9).extract 1 ((((⟨#[102,32]⟩:ByteArray)++(rdOf ByteArray.empty a3 a2))++(⟨#[32]⟩:ByteArray))++a9).size)):List Int)).bind fun ah=>(if ah.length<140737488355328 then (spec_l9Dir.l1 k2 a1 a3 (ah ++ [10]) (wrap64 (a2+1)) aa) else (none))) else (none)) else (none)) else (none)) else (if ac.length+((((⟨#[102,32]⟩:ByteArray)++(rdOf ByteArray.empty a3 a2))++(⟨#[32]⟩:ByteArray))++a9).size<140737488355328 then ((some (ac++bytesOf ((((⟨#[102,32]⟩:ByteArray)++(rdOf ByteArray.empty a3 a2))++(⟨#[32]⟩:ByteArray))++a9):List Int)).bind fun ai=>(if ai.length<140737488355328 then (spec_l9Dir.l1 k2 a1 a3 (ai ++ [10]) (wrap64 (a2+1)) aa) else (none))) else (none))) else (none)))=some r:=H;have A32:=Aside0.mk cu;clear cu;replace H:=Option.bind_eq_some_iff.mp H;obtain ⟨a9,cv,H⟩:=H;replace H:(if (((⟨#[102,32]⟩:ByteArray)++(rdOf ByteArray.empty a3 a2))++(⟨#[32]⟩:ByteArray)).size+a9.size≤9223372036854775807 then (if an=true then (if 1≤(((((⟨#[102,32]⟩:ByteArray)++(rdOf ByteArray.empty a3 a2))++(⟨#[32]⟩:ByteArray))++a9).size:Int) then (if 1+(((((⟨#[102,32]⟩:ByteArray)++(rdOf ByteArray.empty a3 a2))++(⟨#[32]⟩:ByteArray))++a9).extract 1 ((((⟨#[102,32]⟩:ByteArray)++(rdOf ByteArray.empty a3 a2))++(⟨#[32]⟩:ByteArray))++a9).size).size≤9223372036854775807 then (if ac.length+((⟨#[120]⟩:ByteArray)++(((((⟨#[102,32]⟩:ByteArray)++(rdOf ByteArray.empty a3 a2))++(⟨#[32]⟩:ByteArray))++a9).extract 1 ((((⟨#[102,32]⟩:ByteArray)++(rdOf ByteArray.empty a3 a2))++(⟨#[32]⟩:ByteArray))++a9).size)).size<140737488355328 then ((some (ac++bytesOf ((⟨#[120]⟩:ByteArray)++(((((⟨#[102,32]⟩:ByteArray)++(rdOf ByteArray.empty a3 a2))++(⟨#[32]⟩:ByteArray))++a9).extract 1 ((((⟨#[102,32]⟩:ByteArray)++(rdOf ByteArray.empty a3 a2))++(⟨#[32]⟩:ByteArray))++a9).size)):List Int)).bind fun ah=>(if ah.length<140737488355328 then (spec_l9Dir.l1 k2 a1 a3 (ah ++ [10]) (wrap64 (a2+1)) aa) else (none))) else (none)) else (none)) else (none)) else (if ac.length+((((⟨#[102,32]⟩:ByteArray)++(rdOf ByteArray.empty a3 a2))++(⟨#[32]⟩:ByteArray))++a9).size<140737488355328 then ((some (ac++bytesOf ((((⟨#[102,32]⟩:ByteArray)++(rdOf ByteArray.empty a3 a2))++(⟨#[32]⟩:ByteArray))++a9):List Int)).bind fun ai=>(if ai.length<140737488355328 then (spec_l9Dir.l1 k2 a1 a3 (ai ++ [10]) (wrap64 (a2+1)) aa) else (none))) else (none))) else (none))=some r:=H;have A33:=Aside0.mk cv;clear cv
              by_cases bh:(((⟨#[102,32]⟩:ByteArray)++(rdOf ByteArray.empty a3 a2))++(⟨#[32]⟩:ByteArray)).size+a9.size≤9223372036854775807
              ·rw [if_pos bh] at H
               try have c34n:2+(rdOf ByteArray.empty a3 a2).size+1+a9.size≤9223372036854775807:=(by have h_:=bh;(try simp only [ByteArray.size_append] at h_);(try simp only [ByteArray.size_extract] at h_);(try simp only [show (⟨#[102,32]⟩:ByteArray).size=2 from rfl,show (⟨#[32]⟩:ByteArray).size=1 from rfl] at h_);(try omega);(try simpa using h_))
               try have c34m:=eq_true c34n
               try have c34d:=decide_eq_true c34n
               try have c34l:=eq_false (Nat.not_lt.2 c34n)
               (try clear c34n)
               obtain ⟨LN_,hLN_⟩:∃ L_:ByteArray,L_=((((⟨#[102,32]⟩:ByteArray)++(rdOf ByteArray.empty a3 a2))++(⟨#[32]⟩:ByteArray))++a9):=⟨_,rfl⟩
               rw [←hLN_] at H
               have NLN_:=Aside0.mk hLN_;clear hLN_;have c34b0:=eq_true bh;have c34b1:decide ((((⟨#[102,32]⟩:ByteArray)++(rdOf ByteArray.empty a3 a2))++(⟨#[32]⟩:ByteArray)).size+a9.size≤9223372036854775807)=true:=decide_eq_true bh
               try have c34b2:(9223372036854775807<(((⟨#[102,32]⟩:ByteArray)++(rdOf ByteArray.empty a3 a2))++(⟨#[32]⟩:ByteArray)).size+a9.size)=False:=eq_false (Nat.not_lt.2 bh)
               by_cases bQ:an=true
               ·subst bQ
                have H1:(if 1≤(LN_.size:Int) then (if 1+(LN_.extract 1 LN_.size).size≤9223372036854775807 then (if ac.length+((⟨#[120]⟩:ByteArray)++(LN_.extract 1 LN_.size)).size<140737488355328 then ((some (ac++bytesOf ((⟨#[120]⟩:ByteArray)++(LN_.extract 1 LN_.size)):List Int)).bind fun ah=>(if ah.length<140737488355328 then (spec_l9Dir.l1 k2 a1 a3 (ah ++ [10]) (wrap64 (a2+1)) aa) else (none))) else (none)) else (none)) else (none))=some r:=by rw [if_pos rfl] at H;exact H
                clear H;have H:=H1;clear H1
                by_cases bR:1≤(LN_.size:Int)
                ·rw [if_pos bR] at H
                 have c36b0:=eq_true bR;have c36b1:decide (1≤(LN_.size:Int))=true:=decide_eq_true bR
                 by_cases bi:1+(LN_.extract 1 LN_.size).size≤9223372036854775807
                 ·rw [if_pos bi] at H
                  try have c37n:1+(LN_.size - 1)≤9223372036854775807:=(by have h_:=bi;(try simp only [ByteArray.size_append] at h_);(try simp only [ByteArray.size_extract] at h_);omega)
                  try have c37p:=eq_true c37n
                  try have c37q:=decide_eq_true c37n
                  try have c37r:=eq_false (Nat.not_lt.2 c37n)
                  (try clear c37n);have c37b0:=eq_true bi;have c37b1:decide (1+(LN_.extract 1 LN_.size).size≤9223372036854775807)=true:=decide_eq_true bi
                  try have c37b2:(9223372036854775807<1+(LN_.extract 1 LN_.size).size)=False:=eq_false (Nat.not_lt.2 bi)
                  by_cases bS:ac.length+((⟨#[120]⟩:ByteArray)++(LN_.extract 1 LN_.size)).size<140737488355328
                  ·rw [if_pos bS] at H
                   have d0:=Aside0.mk bS;clear bS
                   obtain ⟨ah,bw⟩:∃ y_:List Int,y_=(ac++bytesOf ((⟨#[120]⟩:ByteArray)++(LN_.extract 1 LN_.size))):=⟨_,rfl⟩
                   replace H:(if ah.length<140737488355328 then (spec_l9Dir.l1 k2 a1 a3 (ah ++ [10]) (wrap64 (a2+1)) aa) else (none))=some r:=by first|(rw [bw];with_reducible exact H)|(have H2_:=(Option.bind_some _ _).symm.trans H;rw [bw];with_reducible exact H2_)|(have H2_:=(Option.bind_some _ _).symm.trans H;with_reducible exact H2_)|with_reducible exact H|(rw [bw];exact H)|exact H
                   have d1:=Aside0.mk bw;clear bw
                   by_cases bT:ah.length<140737488355328
                   ·rw [if_pos bT] at H
                    have d2:=Aside0.mk bT;clear bT
                    obtain ⟨cw,bz⟩:∃ y_:List Int,y_=(ah ++ [10]):=⟨_,rfl⟩
                    replace H:(spec_l9Dir.l1 k2 a1 a3 cw (wrap64 (a2+1)) aa)=some r:=by first|(rw [bz];with_reducible exact H)|(have H2_:=(Option.bind_some _ _).symm.trans H;rw [bz];with_reducible exact H2_)|(have H2_:=(Option.bind_some _ _).symm.trans H;with_reducible exact H2_)|with_reducible exact H|(rw [bz];exact H)|exact H
                    have d3:=Aside0.mk bz;clear bz;have H':=Aside0.mk H;clear H;obtain ⟨Ao40,ce,d4⟩:=Kd.R_slice a5.out;subst d4
                    try go_wp2
                    refine Ya4 (Kd.R_drew a5.out) (Kd.R_drew a7.out) (blk_drew a4.out) (below_drew1 HB.out) ?_;clear a5 a7 a4 HB;intro a5 a7 a4 HB;have aJ:0≤(a2:Int):=oda;have aK:a2<(a3.length:Int):=oda;obtain ⟨aj,bA,aW⟩:=Kd.at_string (Kd.R_reads' a5.out).2.2 a2 aJ aK
                    cases bA
                    replace aJ:=eq_true aJ;replace aK:=eq_true aK;refine start_ (n:=8) (S:=fun w'=>w'.cell? ⟨ag,0,none⟩=some (.slice ae aa.length af)∧w'.cell? (aj.add (a2).toNat)=some (.string (rdOf ByteArray.empty a3 a2))) (ds:=[]) (fb 8 0) (by kernel_rfl) rfl rfl ⟨bc a4 0,aW⟩ (fun hHeld => ?_);refine with_tabW spec_l9Dir.tab10 spec_l9Dir.bits10 (fun HT_ HW_ => ?_);generalize wr.drew=w41 at a5 a7 a4 HB aW hHeld ⊢; refine pu 1 38 (fb 8 2) HT_ ?_;refine pu 2 39 (fb 8 6) HT_ ?_;refine pu 3 40 (fb 8 14) HT_ ?_;refine tk 0 37 (fb 8 15) HT_ HW_ hHeld ?_;refine tk 4 41 (fb 8 31) HT_ HW_ hHeld ?_;refine join_ (σ:=Nat) 1 (fb 8 127) (fun s_ => [(42,.agg #[.bool true,.string ad,.bool true]),(9,.pointer (some ⟨s_,0,none⟩))]) (fun s_ w'=>(w'.cell? ⟨ag,0,none⟩=some (.slice ae aa.length af)∧w'.cell? (aj.add (a2).toNat)=some (.string (rdOf ByteArray.empty a3 a2)))∧(Kd.R Kd.string 9 w' w.heap.size (fun _=>True) (.slice (some aj) a3.length ce) a3)∧(Kd.R (Kd.int .u8) 5 w' w.heap.size (fun _=>True) u7 ac)∧(w'.heap[ag]? = some (.cells #[.slice ae aa.length af] 50 (0,0)))∧(w'.heap[s_]? = some (.cells #[.bool false,.string (⟨#[]⟩:ByteArray),.bool false] 133 (0,0)))∧(w.heap.size≤s_)∧(w.heap.size≤s_)∧(ag≠s_)∧(s_≠ag)∧(Below w.heap.size w w')) ?_ ?_;rotate_left
                    ·intro hCont;refine two_ (i:=5) (j:=6) (Ni:=some 42) (Nj:=some 9) (fb 8 63) (fb 8 95) rfl rfl rfl rfl (two_of HT_.out (by kernel_rfl)) (by decide) (by decide) (fun K hK => ?_) (fun K hK => ?_)
                     ·skip
                      refine gs _ (#[.agg #[.slice ae aa.length af],.string (rdOf ByteArray.empty a3 a2)]) Tryd.func81 ?_;(with_reducible refine (spec_l6At.calls k2 _ _ aa (rdOf ByteArray.empty a3 a2) true ad true _ ?side1 ?side2 b9.out).mono ?_);(case side1=>exact cb (Kd.C_below aU.out HB.out));(case side2=>exact aV.out);rintro e w42 ⟨rfl,hb⟩;have HS1_:=(hb.cell (World.block_lt_of_cell? _ _ (hHeld.2))).trans (hHeld.2);refine ⟨_,rfl,?_⟩;refine Ya4 (Kd.R_below (kr a5.out) hb) (Kd.R_below (kr a7.out) hb) (bb a4 hb) (below_step (bf HB.out) hb) ?_;clear a5 a7 a4 HB;intro a5 a7 a4 HB;(try clear hb);(try clear hb2);(try clear hk);(try clear hi);refine hK.out _ _ ⟨bc a4 0,HS1_⟩ (fun hHeld => ?_);clear hK K;refine nm 42 ?_;refine o1 6 (some 9) (fb 8 127) HT_ (fun K hK => ?_);refine bst 9 133 (#[.bool false,.string (⟨#[]⟩:ByteArray),.bool false]) ?_;intro a8 hg w43 hbox hb;have HS1_:=(hb.cell (World.block_lt_of_cell? _ _ (hHeld.2))).trans (hHeld.2);refine Ya9 (Kd.R_below (kr a5.out) hb) (Kd.R_below (kr a7.out) hb) (bb a4 hb) (below_step (bf HB.out) hb) (hbox) (bs hg (bf HB.out)) (bs hg (bf HB.out)) (bl hg a4) (br hg a4) ?_;clear a5 a7 a4 HB;intro a5 a7 a4 HB a6 aC aD al ap;clear hb hbox hg;refine hK.out _ _ ⟨bc a4 0,HS1_⟩ (fun hHeld => ?_);clear hK K;refine nm 9 ?_;exact nc (hCont (a8) _ ⟨hHeld,(kr a5.out),(kr a7.out),(bk a4.out),(bk a6.out),aC.out,aD.out,al.out,ap.out,(bf HB.out)⟩)
                     ·skip
                      refine bst 9 133 (#[.bool false,.string (⟨#[]⟩:ByteArray),.bool false]) ?_;intro a8 hg w42 hbox hb;have HS1_:=(hb.cell (World.block_lt_of_cell? _ _ (hHeld.2))).trans (hHeld.2);refine Ya9 (Kd.R_below (kr a5.out) hb) (Kd.R_below (kr a7.out) hb) (bb a4 hb) (below_step (bf HB.out) hb) (hbox) (bs hg (bf HB.out)) (bs hg (bf HB.out)) (bl hg a4) (br hg a4) ?_;clear a5 a7 a4 HB;intro a5 a7 a4 HB a6 aC aD al ap;clear hb hbox hg;refine hK.out _ _ ⟨bc a4 0,HS1_⟩ (fun hHeld => ?_);clear hK K;refine nm 9 ?_;refine o1 5 (some 42) (fb 8 127) HT_ (fun K hK => ?_);refine gs _ (#[.agg #[.slice ae aa.length af],.string (rdOf ByteArray.empty a3 a2)]) Tryd.func81 ?_;(with_reducible refine (spec_l6At.calls k2 _ _ aa (rdOf ByteArray.empty a3 a2) true ad true _ ?side1 ?side2 b9.out).mono ?_);(case side1=>exact cb (Kd.C_below aU.out HB.out));(case side2=>exact aV.out);rintro e w43 ⟨rfl,hb⟩;have HS1_:=(hb.cell (World.block_lt_of_cell? _ _ (hHeld.2))).trans (hHeld.2);refine ⟨_,rfl,?_⟩;refine Ya5 (Kd.R_below (kr a5.out) hb) (Kd.R_below (kr a7.out) hb) (bb a4 hb) (bb a6 hb) (below_step (bf HB.out) hb) ?_;clear a5 a7 a4 a6 HB;intro a5 a7 a4 a6 HB;(try clear hb);(try clear hb2);(try clear hk);(try clear hi);refine hK.out _ _ ⟨bc a4 0,HS1_⟩ (fun hHeld => ?_);clear hK K;refine nm 42 ?_;exact nc (hCont (a8) _ ⟨hHeld,(kr a5.out),(kr a7.out),(bk a4.out),(bk a6.out),aC.out,aD.out,al.out,ap.out,(bf HB.out)⟩)
                    rintro a8 aG ⟨hS_,h0_,h1_,h2_,h3_,h4_,h5_,h6_,h7_,h8_⟩
                    have aq:Aside0 (Kd.R Kd.string 9 aG w.heap.size (fun _=>True) (.slice (some aj) a3.length ce) a3):=⟨h0_⟩
                    have ar:Aside0 (Kd.R (Kd.int .u8) 5 aG w.heap.size (fun _=>True) u7 ac):=⟨h1_⟩
                    have au:Aside0 (aG.heap[ag]? = some (.cells #[.slice ae aa.length af] 50 (0,0))):=⟨h2_⟩
                    have av:Aside0 (aG.heap[a8]? = some (.cells #[.bool false,.string (⟨#[]⟩:ByteArray),.bool false] 133 (0,0))):=⟨h3_⟩
                    have aw:Aside0 (w.heap.size≤a8):=⟨h4_⟩
                    have aX:Aside0 (w.heap.size≤a8):=⟨h5_⟩
                    have aY:Aside0 (ag≠a8):=⟨h6_⟩
                    have aZ:Aside0 (a8≠ag):=⟨h7_⟩
                    have b0:Aside0 (Below w.heap.size w aG):=⟨h8_⟩
                    clear a5;clear a7;clear a4;clear HB;clear h0_ h1_ h2_ h3_ h4_ h5_ h6_ h7_ h8_;have a5:=aq;have a7:=ar;have a4:=au;have a6:=av;have aC:=aw;have aD:=aX;have al:=aY;have ap:=aZ;have HB:=b0;clear aq ar au av aw aX aY aZ b0;have hHeld:aG.cell? ⟨ag,0,none⟩=some (.slice ae aa.length af)∧aG.cell? (aj.add (a2).toNat)=some (.string (rdOf ByteArray.empty a3 a2)):=hS_;refine norm_ (a':=?_) ?_ ?_;rotate_left
                    ·simp only [putAll,Act.put,List.setIfInBounds_toArray,List.set_cons_zero,List.set_cons_succ];rfl
                    refine o1 7 none (fb 8 255) HT_ (fun K hK => ?_);have ⟨hs45,hs46,hs47,hfs45,hfs46,hfs47⟩:=Yc3 a6.out;have dr:=al.out;have dt:=ap.out;refine skip_ (w1:=?_) (by rfl) rfl ?_ ?_;rotate_left
                    ·go_simp;rfl
                    refine hK.out _ _ ⟨((cell_far (p:=⟨a8,_,none⟩) al.out _).trans (((cell_far (p:=⟨a8,_,none⟩) al.out _).trans (((cell_far (p:=⟨a8,_,none⟩) al.out _).trans (hHeld.1)))))),((cell_far (p:=⟨a8,_,none⟩) (by first|exact Kd.own_blk (Kd.R_ne a5.out a6.out (by decide))|(rw [add_block];exact Kd.own_blk (Kd.R_ne a5.out a6.out (by decide)))|(show (Addr.add _ _).block≠_;rw [add_block];exact Kd.own_blk (Kd.R_ne a5.out a6.out (by decide)))|(dsimp only;exact Kd.own_blk (Kd.R_ne a5.out a6.out (by decide)))) _).trans (((cell_far (p:=⟨a8,_,none⟩) (by first|exact Kd.own_blk (Kd.R_ne a5.out a6.out (by decide))|(rw [add_block];exact Kd.own_blk (Kd.R_ne a5.out a6.out (by decide)))|(show (Addr.add _ _).block≠_;rw [add_block];exact Kd.own_blk (Kd.R_ne a5.out a6.out (by decide)))|(dsimp only;exact Kd.own_blk (Kd.R_ne a5.out a6.out (by decide)))) _).trans (((cell_far (p:=⟨a8,_,none⟩) (by first|exact Kd.own_blk (Kd.R_ne a5.out a6.out (by decide))|(rw [add_block];exact Kd.own_blk (Kd.R_ne a5.out a6.out (by decide)))|(show (Addr.add _ _).block≠_;rw [add_block];exact Kd.own_blk (Kd.R_ne a5.out a6.out (by decide)))|(dsimp only;exact Kd.own_blk (Kd.R_ne a5.out a6.out (by decide)))) _).trans (hHeld.2))))))⟩ (fun hHeld => ?_);clear hK K;refine done_ (done_of HT_.out (by kernel_rfl)) ?_
                    try go_wp2
                    have aq:Aside0 (Kd.R Kd.string 9 (((aG.setCell ⟨a8,0,none⟩ (.bool true)).setCell ⟨a8,1,none⟩ (.string ad)).setCell ⟨a8,2,none⟩ (.bool true)) w.heap.size (fun _=>True) (.slice (some aj) a3.length ce) a3):=⟨by (with_reducible repeat (first|apply Kd.R_alloc|apply Kd.R_drewN|apply Kd.R_drew));exact Kd.R_mono (Kd.R_far (p:=⟨a8,2,none⟩) (Kd.R_far (p:=⟨a8,1,none⟩) (Kd.R_far (p:=⟨a8,0,none⟩) (Kd.R_types a5.out a6.out (by decide)) (fun _ hk=>hk.2) (.bool true)) (fun _ hk=>hk.2) (.string ad)) (fun _ hk=>hk.2) (.bool true)) (fun _ hk=>trivial)⟩
                    have ar:Aside0 (Kd.R (Kd.int .u8) 5 (((aG.setCell ⟨a8,0,none⟩ (.bool true)).setCell ⟨a8,1,none⟩ (.string ad)).setCell ⟨a8,2,none⟩ (.bool true)) w.heap.size (fun _=>True) u7 ac):=⟨by (with_reducible repeat (first|apply Kd.R_alloc|apply Kd.R_drewN|apply Kd.R_drew));exact Kd.R_mono (Kd.R_far (p:=⟨a8,2,none⟩) (Kd.R_far (p:=⟨a8,1,none⟩) (Kd.R_far (p:=⟨a8,0,none⟩) (Kd.R_types a7.out a6.out (by decide)) (fun _ hk=>hk.2) (.bool true)) (fun _ hk=>hk.2) (.string ad)) (fun _ hk=>hk.2) (.bool true)) (fun _ hk=>trivial)⟩
                    have au:Aside0 ((((aG.setCell ⟨a8,0,none⟩ (.bool true)).setCell ⟨a8,1,none⟩ (.string ad)).setCell ⟨a8,2,none⟩ (.bool true)).heap[ag]? = some (.cells #[.slice ae aa.length af] 50 (0,0))):=⟨bkf a4.out al.out⟩
                    have av:Aside0 ((((aG.setCell ⟨a8,0,none⟩ (.bool true)).setCell ⟨a8,1,none⟩ (.string ad)).setCell ⟨a8,2,none⟩ (.bool true)).heap[a8]? = some (.cells #[.bool true,.string ad,.bool true] 133 (0,0))):=⟨bp a6.out⟩
                    have aw:Aside0 (Below w.heap.size w (((aG.setCell ⟨a8,0,none⟩ (.bool true)).setCell ⟨a8,1,none⟩ (.string ad)).setCell ⟨a8,2,none⟩ (.bool true))):=⟨bf HB.out⟩
                    (try clear a5);(try clear a7);(try clear a4);(try clear a6);(try clear HB);generalize (((aG.setCell ⟨a8,0,none⟩ (.bool true)).setCell ⟨a8,1,none⟩ (.string ad)).setCell ⟨a8,2,none⟩ (.bool true))=w48 at aq ar au av aw ⊢; have a5:=aq;have a7:=ar;have a4:=au;have a6:=av;have HB:=aw;clear aq ar au av aw;refine Ya5 (Kd.R_drew a5.out) (Kd.R_drew a7.out) (blk_drew a4.out) (blk_drew a6.out) (below_drew1 HB.out) ?_;clear a5 a7 a4 a6 HB;intro a5 a7 a4 a6 HB;have aM:0≤(a2:Int):=oda;have aN:a2<(a3.length:Int):=oda;obtain ⟨bB,bC,b1⟩:=Kd.at_string (Kd.R_reads' a5.out).2.2 a2 aM aN
                    obtain rfl:aj=bB:=(by injection bC)
                    replace aM:=eq_true aM;replace aN:=eq_true aN;have aQ:0≤(a2:Int):=oda;have aR:a2<(a3.length:Int):=oda;obtain ⟨bD,bE,b2⟩:=Kd.at_string (Kd.R_reads' a5.out).2.2 a2 aQ aR
                    obtain rfl:aj=bD:=(by injection bE)
                    replace aQ:=eq_true aQ;replace aR:=eq_true aR;refine start_ (n:=19) (S:=fun w'=>w'.cell? ⟨ag,0,none⟩=some (.slice ae aa.length af)∧w'.cell? (aj.add (a2).toNat)=some (.string (rdOf ByteArray.empty a3 a2))∧w'.cell? (aj.add (a2).toNat)=some (.string (rdOf ByteArray.empty a3 a2))) (ds:=[]) (fb 19 0) (by kernel_rfl) rfl rfl ⟨bc a4 0,b1,b2⟩ (fun hHeld => ?_);refine with_tabW spec_l9Dir.tab11 spec_l9Dir.bits11 (fun HT_ HW_ => ?_);generalize w48.drew=w49 at a5 a7 a4 a6 HB b1 b2 hHeld ⊢; refine pu 0 43 (fb 19 1) HT_ ?_;refine pu 1 44 (fb 19 3) HT_ ?_;refine pu 2 45 (fb 19 7) HT_ ?_;refine pu 7 50 (fb 19 135) HT_ ?_;refine pu 8 51 (fb 19 391) HT_ ?_;refine pu 9 52 (fb 19 903) HT_ ?_;refine pu 12 55 (fb 19 4999) HT_ ?_;refine pu 14 57 (fb 19 21383) HT_ ?_;refine tk 3 46 (fb 19 21391) HT_ HW_ hHeld ?_;refine pu 4 47 (fb 19 21407) HT_ ?_;refine pu 5 48 (fb 19 21439) HT_ ?_;refine tk 6 49 (fb 19 21503) HT_ HW_ hHeld ?_;refine tk 10 53 (fb 19 22527) HT_ HW_ hHeld ?_;refine o1 11 (some 54) (fb 19 24575) HT_ (fun K hK => ?_);refine gs _ (#[.agg #[.slice ae aa.length af],.string (rdOf ByteArray.empty a3 a2)]) Tryd.func60 ?_;(with_reducible refine (spec_l9Under.calls k2 _ _ aa (rdOf ByteArray.empty a3 a2) aA _ ?side1 ?side2 c1.out).mono ?_);(case side1=>exact cb (Kd.C_below aU.out HB.out));(case side2=>exact aV.out);rintro e w50 ⟨cx,rfl,ho0,hb⟩;have HS1_:=(hb.cell (World.block_lt_of_cell? _ _ (hHeld.2.1))).trans (hHeld.2.1);have HS2_:=(hb.cell (World.block_lt_of_cell? _ _ (hHeld.2.2))).trans (hHeld.2.2);refine ⟨_,rfl,?_⟩;refine Ya6 (Kd.R_below (kr a5.out) hb) (Kd.R_below (kr a7.out) hb) (Kd.R_lower ho0 (below_size (bf HB.out))) (bb a4 hb) (bb a6 hb) (below_step (bf HB.out) hb) ?_;clear a5 a7 a4 a6 HB;intro a5 a7 ab a4 a6 HB;(try clear hb);(try clear hb2);(try clear hk);(try clear hi);(try clear ho0);obtain ⟨d5,d6,cy⟩:=Kd.R_slice ab.out;(first|subst cy|(injection cy with f1_ f2_ f3_;have f4_:=f1_.symm;have f5_:=f3_.symm;clear f1_ f2_ f3_;subst f4_;subst f5_));refine hK.out _ _ ⟨bc a4 0,HS1_,HS2_⟩ (fun hHeld => ?_);clear hK K;refine nm 54 ?_;refine o1 13 (some 56) (fb 19 32767) HT_ (fun K hK => ?_);refine gs _ (#[.agg #[.slice d5 aA.length d6],.int .i64 a1]) Tryd.func55 ?_;(with_reducible refine (ih k2 (by have:=HK1.out;have:=HK2.out;omega) _ _ aA a1 ay _ ?side1 ?side2 ca.out).mono ?_);(case side1=>repeat (first|exact (Kd.R_reads' ab.out).2.2|(with_reducible refine Kd.C_alloc ?_ _)|(with_reducible refine Kd.C_drewN ?_ _)|(with_reducible refine Kd.C_drew ?_)));(case side2=>exact (Kd.R_reads' ab.out).2.1);rintro e w52 ⟨rfl,hb⟩;have HS1_:=(hb.cell (World.block_lt_of_cell? _ _ (hHeld.2.1))).trans (hHeld.2.1);have HS2_:=(hb.cell (World.block_lt_of_cell? _ _ (hHeld.2.2))).trans (hHeld.2.2);refine ⟨_,rfl,?_⟩;refine Ya6 (Kd.R_below (kr a5.out) hb) (Kd.R_below (kr a7.out) hb) (Kd.R_below (kr ab.out) hb) (bb a4 hb) (bb a6 hb) (below_step (bf HB.out) hb) ?_;clear a5 a7 ab a4 a6 HB;intro a5 a7 ab a4 a6 HB;(try clear hb);(try clear hb2);(try clear hk);(try clear hi);refine hK.out _ _ ⟨bc a4 0,HS1_,HS2_⟩ (fun hHeld => ?_);clear hK K;refine nm 56 ?_;refine o1 15 (some 58) (fb 19 65535) HT_ (fun K hK => ?_);refine gs _ (#[.string ay,.int .i64 a1]) Tryd.func41 ?_;(with_reducible refine (spec_Sum.calls k2 ay a1 ax _ cc.out).mono ?_);rintro e w53 ⟨rfl,hb⟩;have HS1_:=(hb.cell (World.block_lt_of_cell? _ _ (hHeld.2.1))).trans (hHeld.2.1);have HS2_:=(hb.cell (World.block_lt_of_cell? _ _ (hHeld.2.2))).trans (hHeld.2.2);refine ⟨_,rfl,?_⟩;refine Ya6 (Kd.R_below (kr a5.out) hb) (Kd.R_below (kr a7.out) hb) (Kd.R_below (kr ab.out) hb) (bb a4 hb) (bb a6 hb) (below_step (bf HB.out) hb) ?_;clear a5 a7 ab a4 a6 HB;intro a5 a7 ab a4 a6 HB;(try clear hb);(try clear hb2);(try clear hk);(try clear hi);refine hK.out _ _ ⟨bc a4 0,HS1_,HS2_⟩ (fun hHeld => ?_);clear hK K;refine nm 58 ?_;refine o1 16 (some 59) (fb 19 131071) HT_ (fun K hK => ?_);refine gs _ (#[.string ax]) Tryd.func44 ?_;(with_reducible refine (spec_l9Hex.calls k2 ax ak _ cd.out).mono ?_);rintro e w54 ⟨rfl,hb⟩;have HS1_:=(hb.cell (World.block_lt_of_cell? _ _ (hHeld.2.1))).trans (hHeld.2.1);have HS2_:=(hb.cell (World.block_lt_of_cell? _ _ (hHeld.2.2))).trans (hHeld.2.2);refine ⟨_,rfl,?_⟩;refine Ya6 (Kd.R_below (kr a5.out) hb) (Kd.R_below (kr a7.out) hb) (Kd.R_below (kr ab.out) hb) (bb a4 hb) (bb a6 hb) (below_step (bf HB.out) hb) ?_;clear a5 a7 ab a4 a6 HB;intro a5 a7 ab a4 a6 HB;(try clear hb);(try clear hb2);(try clear hk);(try clear hi);refine hK.out _ _ ⟨bc a4 0,HS1_,HS2_⟩ (fun hHeld => ?_);clear hK K;refine nm 59 ?_;refine pu 17 60 (fb 19 262143) HT_ ?_;refine pu 18 10 (fb 19 524287) HT_ ?_;refine done_ (done_of HT_.out (by kernel_rfl)) ?_;have hnb55:=ap.out;have hnc55:=al.out;have ⟨du,dv,dw,dx,dy,dA⟩:=Yc3 a6.out
                    try go_wp2
                    refine Ya6 (Kd.R_drew a5.out) (Kd.R_drew a7.out) (Kd.R_drew ab.out) (blk_drew a4.out) (blk_drew a6.out) (below_drew1 HB.out) ?_;clear a5 a7 ab a4 a6 HB;intro a5 a7 ab a4 a6 HB;have b4:0≤(a2:Int):=oda;have b5:a2<(a3.length:Int):=oda;obtain ⟨cf,cg,bF⟩:=Kd.at_string (Kd.R_reads' a5.out).2.2 a2 b4 b5
                    obtain rfl:aj=cf:=(by injection cg)
                    replace b4:=eq_true b4;replace b5:=eq_true b5;refine start_ (n:=14) (S:=fun w'=>w'.cell? ⟨a8,0,none⟩=some (.bool true)∧w'.cell? ⟨a8,1,none⟩=some (.string ad)∧w'.cell? ⟨a8,2,none⟩=some (.bool true)∧w'.cell? (aj.add (a2).toNat)=some (.string (rdOf ByteArray.empty a3 a2))) (ds:=[]) (fb 14 0) (by kernel_rfl) rfl rfl ⟨bc a6 0,bc a6 1,bc a6 2,bF⟩ (fun hHeld => ?_);refine with_tabW spec_l9Dir.tab13 spec_l9Dir.bits13 (fun HT_ HW_ => ?_);generalize w54.drew=w57 at a5 a7 ab a4 a6 HB bF hHeld ⊢; refine pu 0 63 (fb 14 1) HT_ ?_;refine pu 1 64 (fb 14 3) HT_ ?_;refine pu 2 65 (fb 14 7) HT_ ?_;refine pu 6 69 (fb 14 71) HT_ ?_;refine pu 9 72 (fb 14 583) HT_ ?_;refine tk 3 66 (fb 14 591) HT_ HW_ hHeld ?_;refine pu 4 67 (fb 14 607) HT_ ?_;refine pu 5 68 (fb 14 639) HT_ ?_;refine tk 7 70 (fb 14 767) HT_ HW_ hHeld ?_;refine pu 8 71 (fb 14 1023) HT_ ?_;refine o1 10 (some 73) (fb 14 2047) HT_ (fun K hK => ?_);refine gs _ (#[.string ((⟨#[102,105,108,101,32]⟩:ByteArray)++ad),.int .i64 a1]) Tryd.func41 ?_;(with_reducible refine (spec_Sum.calls k2 ((⟨#[102,105,108,101,32]⟩:ByteArray)++ad) a1 ao _ A32.out).mono ?_);rintro e w58 ⟨rfl,hb⟩;have HS3_:=(hb.cell (World.block_lt_of_cell? _ _ (hHeld.2.2.2))).trans (hHeld.2.2.2);refine ⟨_,rfl,?_⟩;refine Ya6 (Kd.R_below (kr a5.out) hb) (Kd.R_below (kr a7.out) hb) (Kd.R_below (kr ab.out) hb) (bb a4 hb) (bb a6 hb) (below_step (bf HB.out) hb) ?_;clear a5 a7 ab a4 a6 HB;intro a5 a7 ab a4 a6 HB;(try clear hb);(try clear hb2);(try clear hk);(try clear hi);refine hK.out _ _ ⟨bc a6 0,bc a6 1,bc a6 2,HS3_⟩ (fun hHeld => ?_);clear hK K;refine nm 73 ?_;refine o1 11 (some 74) (fb 14 4095) HT_ (fun K hK => ?_);refine gs _ (#[.string ao]) Tryd.func44 ?_;(with_reducible refine (spec_l9Hex.calls k2 ao a9 _ A33.out).mono ?_);rintro e w59 ⟨rfl,hb⟩;have HS3_:=(hb.cell (World.block_lt_of_cell? _ _ (hHeld.2.2.2))).trans (hHeld.2.2.2);refine ⟨_,rfl,?_⟩;refine Ya6 (Kd.R_below (kr a5.out) hb) (Kd.R_below (kr a7.out) hb) (Kd.R_below (kr ab.out) hb) (bb a4 hb) (bb a6 hb) (below_step (bf HB.out) hb) ?_;clear a5 a7 ab a4 a6 HB;intro a5 a7 ab a4 a6 HB;(try clear hb);(try clear hb2);(try clear hk);(try clear hi);refine hK.out _ _ ⟨bc a6 0,bc a6 1,bc a6 2,HS3_⟩ (fun hHeld => ?_);clear hK K;refine nm 74 ?_;refine pu 12 75 (fb 14 8191) HT_ ?_;refine pu 13 10 (fb 14 16383) HT_ ?_;refine done_ (done_of HT_.out (by kernel_rfl)) ?_;have ⟨dB,dC,dD,dE,dF,dG⟩:=Yc3 a6.out;(try rw [←NLN_.out])
                    try go_wp2_with (first|(at_builtin;refine print_append_str (w0:=w) w.heap.size rfl (.tmp 81) _ 25 9 5 rfl Tryd.underlying25 Tryd.underlying9 info5 u7 ac ((⟨#[120]⟩:ByteArray)++(LN_.extract 1 LN_.size)) rfl rfl ?aO ?aB ?aS ?aL ?_;(case aB=>exact (bf HB.out));(case aO=>exact (Kd.own_of_R (kr a7.out)));(case aS=>exact (below_size (bf HB.out)));(case aL=>have:=d0.out;omega);intro cz w61 ho0 hb hg;have ho:=Kd.R_of_own (h1:=fun _=>rfl) (ok:=fun _=>True) ho0 (fun _ _=>trivial);clear ho0;have hat:=True.intro;rw [←d1.out] at ho;change Kd.R (Kd.int .u8) 5 w61 w.heap.size (fun _=>True) cz ah at ho;refine Ya6 (Kd.R_over' (kr a5.out) (Kd.R_typed (kr a7.out)) (by decide) hg) (blk_grown (g:=ag) (o:=.cells #[.slice ae aa.length af] 50 (0,0)) (bk a4.out) hg (Kd.R_ne a7.out a4.out (by decide))) (blk_grown (g:=a8) (o:=.cells #[.bool true,.string ad,.bool true] 133 (0,0)) (bk a6.out) hg (Kd.R_ne a7.out a6.out (by decide))) (Kd.R_over' (kr ab.out) (Kd.R_typed (kr a7.out)) (by decide) hg) (hb) (ho) ?_;clear a5 a4 a6 ab HB a7;intro a5 a4 a6 ab HB bj;clear ho hb hg hat)|((with_reducible refine gate_builtin (b:=.append) (xs:=#[.tmp 84,.tmp 85]) rfl ?_);at_builtin;refine Kd.R_append (Kd.int .u8) (w0:=w) w.heap.size rfl (.tmp 84) (.tmp 85) 25 5 (.int .u8 0) 1 rfl Tryd.underlying25 info5 rfl (by decide) (by omega) cz ah 10 [.int .u8 10] (fun _=>True) (fun _=>False) rfl rfl ?aP (fun _ hk=>hk.elim) ?aF ?aO ?aB ?aS ?aL ?_;(case aP=>exact rfl);(case aB=>exact (bf HB.out));(case aF=>exact (fun _ _=>trivial));(case aO=>exact (kr bj.out));(case aS=>exact (below_size (bf HB.out)));(case aL=>have:=d2.out;omega);intro v547 w62 ho hb hg hat;rw [←d3.out] at ho;refine Ya6 (Kd.R_over' (kr a5.out) (Kd.R_typed (kr bj.out)) (by decide) hg) (blk_grown (g:=ag) (o:=.cells #[.slice ae aa.length af] 50 (0,0)) (bk a4.out) hg (Kd.R_ne bj.out a4.out (by decide))) (blk_grown (g:=a8) (o:=.cells #[.bool true,.string ad,.bool true] 133 (0,0)) (bk a6.out) hg (Kd.R_ne bj.out a6.out (by decide))) (Kd.R_over' (kr ab.out) (Kd.R_typed (kr bj.out)) (by decide) hg) (hb) (ho) ?_;clear a5 a4 a6 ab HB bj;intro a5 a4 a6 ab HB d7;clear ho hb hg hat))
                    go_roundg k2
                    case measure=>have:=HK1.out;have:=HK2.out;omega
                    case rel=>exact ⟨(cw),(wrap64 (a2+1)),Ye1,H',⟨by have:=HK1.out;have:=HK2.out;omega⟩,⟨kr a5.out⟩,⟨kr d7.out⟩,⟨bk a4.out⟩,⟨bf HB.out⟩⟩
                   ·rw [if_neg bT] at H
                    exact absurd H (by simp)
                  ·rw [if_neg bS] at H
                   exact absurd H (by simp)
                 ·rw [if_neg bi] at H
                  exact absurd H (by simp)
                ·rw [if_neg bR] at H
                 exact absurd H (by simp)
               ·replace bQ:=Bool.eq_false_iff.mpr bQ;subst bQ
                have H1:(if ac.length+LN_.size<140737488355328 then ((some (ac++bytesOf LN_:List Int)).bind fun ai=>(if ai.length<140737488355328 then (spec_l9Dir.l1 k2 a1 a3 (ai ++ [10]) (wrap64 (a2+1)) aa) else (none))) else (none))=some r:=by rw [if_neg (show ¬(false=true) by decide)] at H;exact H
                clear H;have H:=H1;clear H1
                by_cases bU:ac.length+LN_.size<140737488355328
                ·rw [if_pos bU] at H
                 have d8:=Aside0.mk bU;clear bU
                 obtain ⟨ai,bG⟩:∃ y_:List Int,y_=(ac++bytesOf LN_):=⟨_,rfl⟩
                 replace H:(if ai.length<140737488355328 then (spec_l9Dir.l1 k2 a1 a3 (ai ++ [10]) (wrap64 (a2+1)) aa) else (none))=some r:=by first|(rw [bG];with_reducible exact H)|(have H2_:=(Option.bind_some _ _).symm.trans H;rw [bG];with_reducible exact H2_)|(have H2_:=(Option.bind_some _ _).symm.trans H;with_reducible exact H2_)|with_reducible exact H|(rw [bG];exact H)|exact H
                 have d9:=Aside0.mk bG;clear bG
                 by_cases bV:ai.length<140737488355328
                 ·rw [if_pos bV] at H
                  have da:=Aside0.mk bV;clear bV
                  obtain ⟨cA,bH⟩:∃ y_:List Int,y_=(ai ++ [10]):=⟨_,rfl⟩
                  replace H:(spec_l9Dir.l1 k2 a1 a3 cA (wrap64 (a2+1)) aa)=some r:=by first|(rw [bH];with_reducible exact H)|(have H2_:=(Option.bind_some _ _).symm.trans H;rw [bH];with_reducible exact H2_)|(have H2_:=(Option.bind_some _ _).symm.trans H;with_reducible exact H2_)|with_reducible exact H|(rw [bH];exact H)|exact H
                  have db:=Aside0.mk bH;clear bH;have H':=Aside0.mk H;clear H;obtain ⟨Ao65,ch,dc⟩:=Kd.R_slice a5.out;subst dc
                  try go_wp2
                  refine Ya4 (Kd.R_drew a5.out) (Kd.R_drew a7.out) (blk_drew a4.out) (below_drew1 HB.out) ?_;clear a5 a7 a4 HB;intro a5 a7 a4 HB;have aJ:0≤(a2:Int):=oda;have aK:a2<(a3.length:Int):=oda;obtain ⟨aj,bA,aW⟩:=Kd.at_string (Kd.R_reads' a5.out).2.2 a2 aJ aK
                  cases bA
                  replace aJ:=eq_true aJ;replace aK:=eq_true aK;refine start_ (n:=8) (S:=fun w'=>w'.cell? ⟨ag,0,none⟩=some (.slice ae aa.length af)∧w'.cell? (aj.add (a2).toNat)=some (.string (rdOf ByteArray.empty a3 a2))) (ds:=[]) (fb 8 0) (by kernel_rfl) rfl rfl ⟨bc a4 0,aW⟩ (fun hHeld => ?_);refine with_tabW spec_l9Dir.tab10 spec_l9Dir.bits10 (fun HT_ HW_ => ?_);generalize wr.drew=w66 at a5 a7 a4 HB aW hHeld ⊢; refine pu 1 38 (fb 8 2) HT_ ?_;refine pu 2 39 (fb 8 6) HT_ ?_;refine pu 3 40 (fb 8 14) HT_ ?_;refine tk 0 37 (fb 8 15) HT_ HW_ hHeld ?_;refine tk 4 41 (fb 8 31) HT_ HW_ hHeld ?_;refine join_ (σ:=Nat) 1 (fb 8 127) (fun s_ => [(42,.agg #[.bool true,.string ad,.bool false]),(9,.pointer (some ⟨s_,0,none⟩))]) (fun s_ w'=>(w'.cell? ⟨ag,0,none⟩=some (.slice ae aa.length af)∧w'.cell? (aj.add (a2).toNat)=some (.string (rdOf ByteArray.empty a3 a2)))∧(Kd.R Kd.string 9 w' w.heap.size (fun _=>True) (.slice (some aj) a3.length ch) a3)∧(Kd.R (Kd.int .u8) 5 w' w.heap.size (fun _=>True) u7 ac)∧(w'.heap[ag]? = some (.cells #[.slice ae aa.length af] 50 (0,0)))∧(w'.heap[s_]? = some (.cells #[.bool false,.string (⟨#[]⟩:ByteArray),.bool false] 133 (0,0)))∧(w.heap.size≤s_)∧(w.heap.size≤s_)∧(ag≠s_)∧(s_≠ag)∧(Below w.heap.size w w')) ?_ ?_;rotate_left
                  ·intro hCont;refine two_ (i:=5) (j:=6) (Ni:=some 42) (Nj:=some 9) (fb 8 63) (fb 8 95) rfl rfl rfl rfl (two_of HT_.out (by kernel_rfl)) (by decide) (by decide) (fun K hK => ?_) (fun K hK => ?_)
                   ·skip
                    refine gs _ (#[.agg #[.slice ae aa.length af],.string (rdOf ByteArray.empty a3 a2)]) Tryd.func81 ?_;(with_reducible refine (spec_l6At.calls k2 _ _ aa (rdOf ByteArray.empty a3 a2) true ad false _ ?side1 ?side2 b9.out).mono ?_);(case side1=>exact cb (Kd.C_below aU.out HB.out));(case side2=>exact aV.out);rintro e w67 ⟨rfl,hb⟩;have HS1_:=(hb.cell (World.block_lt_of_cell? _ _ (hHeld.2))).trans (hHeld.2);refine ⟨_,rfl,?_⟩;refine Ya4 (Kd.R_below (kr a5.out) hb) (Kd.R_below (kr a7.out) hb) (bb a4 hb) (below_step (bf HB.out) hb) ?_;clear a5 a7 a4 HB;intro a5 a7 a4 HB;(try clear hb);(try clear hb2);(try clear hk);(try clear hi);refine hK.out _ _ ⟨bc a4 0,HS1_⟩ (fun hHeld => ?_);clear hK K;refine nm 42 ?_;refine o1 6 (some 9) (fb 8 127) HT_ (fun K hK => ?_);refine bst 9 133 (#[.bool false,.string (⟨#[]⟩:ByteArray),.bool false]) ?_;intro a8 hg w68 hbox hb;have HS1_:=(hb.cell (World.block_lt_of_cell? _ _ (hHeld.2))).trans (hHeld.2);refine Ya9 (Kd.R_below (kr a5.out) hb) (Kd.R_below (kr a7.out) hb) (bb a4 hb) (below_step (bf HB.out) hb) (hbox) (bs hg (bf HB.out)) (bs hg (bf HB.out)) (bl hg a4) (br hg a4) ?_;clear a5 a7 a4 HB;intro a5 a7 a4 HB a6 aC aD al ap;clear hb hbox hg;refine hK.out _ _ ⟨bc a4 0,HS1_⟩ (fun hHeld => ?_);clear hK K;refine nm 9 ?_;exact nc (hCont (a8) _ ⟨hHeld,(kr a5.out),(kr a7.out),(bk a4.out),(bk a6.out),aC.out,aD.out,al.out,ap.out,(bf HB.out)⟩)
                   ·skip
                    refine bst 9 133 (#[.bool false,.string (⟨#[]⟩:ByteArray),.bool false]) ?_;intro a8 hg w67 hbox hb;have HS1_:=(hb.cell (World.block_lt_of_cell? _ _ (hHeld.2))).trans (hHeld.2);refine Ya9 (Kd.R_below (kr a5.out) hb) (Kd.R_below (kr a7.out) hb) (bb a4 hb) (below_step (bf HB.out) hb) (hbox) (bs hg (bf HB.out)) (bs hg (bf HB.out)) (bl hg a4) (br hg a4) ?_;clear a5 a7 a4 HB;intro a5 a7 a4 HB a6 aC aD al ap;clear hb hbox hg;refine hK.out _ _ ⟨bc a4 0,HS1_⟩ (fun hHeld => ?_);clear hK K;refine nm 9 ?_;refine o1 5 (some 42) (fb 8 127) HT_ (fun K hK => ?_);refine gs _ (#[.agg #[.slice ae aa.length af],.string (rdOf ByteArray.empty a3 a2)]) Tryd.func81 ?_;(with_reducible refine (spec_l6At.calls k2 _ _ aa (rdOf ByteArray.empty a3 a2) true ad false _ ?side1 ?side2 b9.out).mono ?_);(case side1=>exact cb (Kd.C_below aU.out HB.out));(case side2=>exact aV.out);rintro e w68 ⟨rfl,hb⟩;have HS1_:=(hb.cell (World.block_lt_of_cell? _ _ (hHeld.2))).trans (hHeld.2);refine ⟨_,rfl,?_⟩;refine Ya5 (Kd.R_below (kr a5.out) hb) (Kd.R_below (kr a7.out) hb) (bb a4 hb) (bb a6 hb) (below_step (bf HB.out) hb) ?_;clear a5 a7 a4 a6 HB;intro a5 a7 a4 a6 HB;(try clear hb);(try clear hb2);(try clear hk);(try clear hi);refine hK.out _ _ ⟨bc a4 0,HS1_⟩ (fun hHeld => ?_);clear hK K;refine nm 42 ?_;exact nc (hCont (a8) _ ⟨hHeld,(kr a5.out),(kr a7.out),(bk a4.out),(bk a6.out),aC.out,aD.out,al.out,ap.out,(bf HB.out)⟩)
                  rintro a8 aH ⟨hS_,h0_,h1_,h2_,h3_,h4_,h5_,h6_,h7_,h8_⟩
                  have aq:Aside0 (Kd.R Kd.string 9 aH w.heap.size (fun _=>True) (.slice (some aj) a3.length ch) a3):=⟨h0_⟩
                  have ar:Aside0 (Kd.R (Kd.int .u8) 5 aH w.heap.size (fun _=>True) u7 ac):=⟨h1_⟩
                  have au:Aside0 (aH.heap[ag]? = some (.cells #[.slice ae aa.length af] 50 (0,0))):=⟨h2_⟩
                  have av:Aside0 (aH.heap[a8]? = some (.cells #[.bool false,.string (⟨#[]⟩:ByteArray),.bool false] 133 (0,0))):=⟨h3_⟩
                  have aw:Aside0 (w.heap.size≤a8):=⟨h4_⟩
                  have aX:Aside0 (w.heap.size≤a8):=⟨h5_⟩
                  have aY:Aside0 (ag≠a8):=⟨h6_⟩
                  have aZ:Aside0 (a8≠ag):=⟨h7_⟩
                  have b0:Aside0 (Below w.heap.size w aH):=⟨h8_⟩
                  clear a5;clear a7;clear a4;clear HB;clear h0_ h1_ h2_ h3_ h4_ h5_ h6_ h7_ h8_;have a5:=aq;have a7:=ar;have a4:=au;have a6:=av;have aC:=aw;have aD:=aX;have al:=aY;have ap:=aZ;have HB:=b0;clear aq ar au av aw aX aY aZ b0;have hHeld:aH.cell? ⟨ag,0,none⟩=some (.slice ae aa.length af)∧aH.cell? (aj.add (a2).toNat)=some (.string (rdOf ByteArray.empty a3 a2)):=hS_;refine norm_ (a':=?_) ?_ ?_;rotate_left
                  ·simp only [putAll,Act.put,List.setIfInBounds_toArray,List.set_cons_zero,List.set_cons_succ];rfl
                  refine o1 7 none (fb 8 255) HT_ (fun K hK => ?_);have ⟨hs70,hs71,hs72,hfs70,hfs71,hfs72⟩:=Yc3 a6.out;have dH:=al.out;have dI:=ap.out;refine skip_ (w1:=?_) (by rfl) rfl ?_ ?_;rotate_left
                  ·go_simp;rfl
                  refine hK.out _ _ ⟨((cell_far (p:=⟨a8,_,none⟩) al.out _).trans (((cell_far (p:=⟨a8,_,none⟩) al.out _).trans (((cell_far (p:=⟨a8,_,none⟩) al.out _).trans (hHeld.1)))))),((cell_far (p:=⟨a8,_,none⟩) (by first|exact Kd.own_blk (Kd.R_ne a5.out a6.out (by decide))|(rw [add_block];exact Kd.own_blk (Kd.R_ne a5.out a6.out (by decide)))|(show (Addr.add _ _).block≠_;rw [add_block];exact Kd.own_blk (Kd.R_ne a5.out a6.out (by decide)))|(dsimp only;exact Kd.own_blk (Kd.R_ne a5.out a6.out (by decide)))) _).trans (((cell_far (p:=⟨a8,_,none⟩) (by first|exact Kd.own_blk (Kd.R_ne a5.out a6.out (by decide))|(rw [add_block];exact Kd.own_blk (Kd.R_ne a5.out a6.out (by decide)))|(show (Addr.add _ _).block≠_;rw [add_block];exact Kd.own_blk (Kd.R_ne a5.out a6.out (by decide)))|(dsimp only;exact Kd.own_blk (Kd.R_ne a5.out a6.out (by decide)))) _).trans (((cell_far (p:=⟨a8,_,none⟩) (by first|exact Kd.own_blk (Kd.R_ne a5.out a6.out (by decide))|(rw [add_block];exact Kd.own_blk (Kd.R_ne a5.out a6.out (by decide)))|(show (Addr.add _ _).block≠_;rw [add_block];exact Kd.own_blk (Kd.R_ne a5.out a6.out (by decide)))|(dsimp only;exact Kd.own_blk (Kd.R_ne a5.out a6.out (by decide)))) _).trans (hHeld.2))))))⟩ (fun hHeld => ?_);clear hK K;refine done_ (done_of HT_.out (by kernel_rfl)) ?_
                  try go_wp2
                  have aq:Aside0 (Kd.R Kd.string 9 (((aH.setCell ⟨a8,0,none⟩ (.bool true)).setCell ⟨a8,1,none⟩ (.string ad)).setCell ⟨a8,2,none⟩ (.bool false)) w.heap.size (fun _=>True) (.slice (some aj) a3.length ch) a3):=⟨by (with_reducible repeat (first|apply Kd.R_alloc|apply Kd.R_drewN|apply Kd.R_drew));exact Kd.R_mono (Kd.R_far (p:=⟨a8,2,none⟩) (Kd.R_far (p:=⟨a8,1,none⟩) (Kd.R_far (p:=⟨a8,0,none⟩) (Kd.R_types a5.out a6.out (by decide)) (fun _ hk=>hk.2) (.bool true)) (fun _ hk=>hk.2) (.string ad)) (fun _ hk=>hk.2) (.bool false)) (fun _ hk=>trivial)⟩
                  have ar:Aside0 (Kd.R (Kd.int .u8) 5 (((aH.setCell ⟨a8,0,none⟩ (.bool true)).setCell ⟨a8,1,none⟩ (.string ad)).setCell ⟨a8,2,none⟩ (.bool false)) w.heap.size (fun _=>True) u7 ac):=⟨by (with_reducible repeat (first|apply Kd.R_alloc|apply Kd.R_drewN|apply Kd.R_drew));exact Kd.R_mono (Kd.R_far (p:=⟨a8,2,none⟩) (Kd.R_far (p:=⟨a8,1,none⟩) (Kd.R_far (p:=⟨a8,0,none⟩) (Kd.R_types a7.out a6.out (by decide)) (fun _ hk=>hk.2) (.bool true)) (fun _ hk=>hk.2) (.string ad)) (fun _ hk=>hk.2) (.bool false)) (fun _ hk=>trivial)⟩
                  have au:Aside0 ((((aH.setCell ⟨a8,0,none⟩ (.bool true)).setCell ⟨a8,1,none⟩ (.string ad)).setCell ⟨a8,2,none⟩ (.bool false)).heap[ag]? = some (.cells #[.slice ae aa.length af] 50 (0,0))):=⟨bkf a4.out al.out⟩
                  have av:Aside0 ((((aH.setCell ⟨a8,0,none⟩ (.bool true)).setCell ⟨a8,1,none⟩ (.string ad)).setCell ⟨a8,2,none⟩ (.bool false)).heap[a8]? = some (.cells #[.bool true,.string ad,.bool false] 133 (0,0))):=⟨bp a6.out⟩
                  have aw:Aside0 (Below w.heap.size w (((aH.setCell ⟨a8,0,none⟩ (.bool true)).setCell ⟨a8,1,none⟩ (.string ad)).setCell ⟨a8,2,none⟩ (.bool false))):=⟨bf HB.out⟩
                  (try clear a5);(try clear a7);(try clear a4);(try clear a6);(try clear HB);generalize (((aH.setCell ⟨a8,0,none⟩ (.bool true)).setCell ⟨a8,1,none⟩ (.string ad)).setCell ⟨a8,2,none⟩ (.bool false))=w73 at aq ar au av aw ⊢; have a5:=aq;have a7:=ar;have a4:=au;have a6:=av;have HB:=aw;clear aq ar au av aw;refine Ya5 (Kd.R_drew a5.out) (Kd.R_drew a7.out) (blk_drew a4.out) (blk_drew a6.out) (below_drew1 HB.out) ?_;clear a5 a7 a4 a6 HB;intro a5 a7 a4 a6 HB;have aM:0≤(a2:Int):=oda;have aN:a2<(a3.length:Int):=oda;obtain ⟨bB,bC,b1⟩:=Kd.at_string (Kd.R_reads' a5.out).2.2 a2 aM aN
                  obtain rfl:aj=bB:=(by injection bC)
                  replace aM:=eq_true aM;replace aN:=eq_true aN;have aQ:0≤(a2:Int):=oda;have aR:a2<(a3.length:Int):=oda;obtain ⟨bD,bE,b2⟩:=Kd.at_string (Kd.R_reads' a5.out).2.2 a2 aQ aR
                  obtain rfl:aj=bD:=(by injection bE)
                  replace aQ:=eq_true aQ;replace aR:=eq_true aR;refine start_ (n:=19) (S:=fun w'=>w'.cell? ⟨ag,0,none⟩=some (.slice ae aa.length af)∧w'.cell? (aj.add (a2).toNat)=some (.string (rdOf ByteArray.empty a3 a2))∧w'.cell? (aj.add (a2).toNat)=some (.string (rdOf ByteArray.empty a3 a2))) (ds:=[]) (fb 19 0) (by kernel_rfl) rfl rfl ⟨bc a4 0,b1,b2⟩ (fun hHeld => ?_);refine with_tabW spec_l9Dir.tab11 spec_l9Dir.bits11 (fun HT_ HW_ => ?_);generalize w73.drew=w74 at a5 a7 a4 a6 HB b1 b2 hHeld ⊢; refine pu 0 43 (fb 19 1) HT_ ?_;refine pu 1 44 (fb 19 3) HT_ ?_;refine pu 2 45 (fb 19 7) HT_ ?_;refine pu 7 50 (fb 19 135) HT_ ?_;refine pu 8 51 (fb 19 391) HT_ ?_;refine pu 9 52 (fb 19 903) HT_ ?_;refine pu 12 55 (fb 19 4999) HT_ ?_;refine pu 14 57 (fb 19 21383) HT_ ?_;refine tk 3 46 (fb 19 21391) HT_ HW_ hHeld ?_;refine pu 4 47 (fb 19 21407) HT_ ?_;refine pu 5 48 (fb 19 21439) HT_ ?_;refine tk 6 49 (fb 19 21503) HT_ HW_ hHeld ?_;refine tk 10 53 (fb 19 22527) HT_ HW_ hHeld ?_;refine o1 11 (some 54) (fb 19 24575) HT_ (fun K hK => ?_);refine gs _ (#[.agg #[.slice ae aa.length af],.string (rdOf ByteArray.empty a3 a2)]) Tryd.func60 ?_;(with_reducible refine (spec_l9Under.calls k2 _ _ aa (rdOf ByteArray.empty a3 a2) aA _ ?side1 ?side2 c1.out).mono ?_);(case side1=>exact cb (Kd.C_below aU.out HB.out));(case side2=>exact aV.out);rintro e w75 ⟨cx,rfl,ho0,hb⟩;have HS1_:=(hb.cell (World.block_lt_of_cell? _ _ (hHeld.2.1))).trans (hHeld.2.1);have HS2_:=(hb.cell (World.block_lt_of_cell? _ _ (hHeld.2.2))).trans (hHeld.2.2);refine ⟨_,rfl,?_⟩;refine Ya6 (Kd.R_below (kr a5.out) hb) (Kd.R_below (kr a7.out) hb) (Kd.R_lower ho0 (below_size (bf HB.out))) (bb a4 hb) (bb a6 hb) (below_step (bf HB.out) hb) ?_;clear a5 a7 a4 a6 HB;intro a5 a7 ab a4 a6 HB;(try clear hb);(try clear hb2);(try clear hk);(try clear hi);(try clear ho0);obtain ⟨dd,de,cB⟩:=Kd.R_slice ab.out;(first|subst cB|(injection cB with f1_ f2_ f3_;have f4_:=f1_.symm;have f5_:=f3_.symm;clear f1_ f2_ f3_;subst f4_;subst f5_));refine hK.out _ _ ⟨bc a4 0,HS1_,HS2_⟩ (fun hHeld => ?_);clear hK K;refine nm 54 ?_;refine o1 13 (some 56) (fb 19 32767) HT_ (fun K hK => ?_);refine gs _ (#[.agg #[.slice dd aA.length de],.int .i64 a1]) Tryd.func55 ?_;(with_reducible refine (ih k2 (by have:=HK1.out;have:=HK2.out;omega) _ _ aA a1 ay _ ?side1 ?side2 ca.out).mono ?_);(case side1=>repeat (first|exact (Kd.R_reads' ab.out).2.2|(with_reducible refine Kd.C_alloc ?_ _)|(with_reducible refine Kd.C_drewN ?_ _)|(with_reducible refine Kd.C_drew ?_)));(case side2=>exact (Kd.R_reads' ab.out).2.1);rintro e w77 ⟨rfl,hb⟩;have HS1_:=(hb.cell (World.block_lt_of_cell? _ _ (hHeld.2.1))).trans (hHeld.2.1);have HS2_:=(hb.cell (World.block_lt_of_cell? _ _ (hHeld.2.2))).trans (hHeld.2.2);refine ⟨_,rfl,?_⟩;refine Ya6 (Kd.R_below (kr a5.out) hb) (Kd.R_below (kr a7.out) hb) (Kd.R_below (kr ab.out) hb) (bb a4 hb) (bb a6 hb) (below_step (bf HB.out) hb) ?_;clear a5 a7 ab a4 a6 HB;intro a5 a7 ab a4 a6 HB;(try clear hb);(try clear hb2);(try clear hk);(try clear hi);refine hK.out _ _ ⟨bc a4 0,HS1_,HS2_⟩ (fun hHeld => ?_);clear hK K;refine nm 56 ?_;refine o1 15 (some 58) (fb 19 65535) HT_ (fun K hK => ?_);refine gs _ (#[.string ay,.int .i64 a1]) Tryd.func41 ?_;(with_reducible refine (spec_Sum.calls k2 ay a1 ax _ cc.out).mono ?_);rintro e w78 ⟨rfl,hb⟩;have HS1_:=(hb.cell (World.block_lt_of_cell? _ _ (hHeld.2.1))).trans (hHeld.2.1);have HS2_:=(hb.cell (World.block_lt_of_cell? _ _ (hHeld.2.2))).trans (hHeld.2.2);refine ⟨_,rfl,?_⟩;refine Ya6 (Kd.R_below (kr a5.out) hb) (Kd.R_below (kr a7.out) hb) (Kd.R_below (kr ab.out) hb) (bb a4 hb) (bb a6 hb) (below_step (bf HB.out) hb) ?_;clear a5 a7 ab a4 a6 HB;intro a5 a7 ab a4 a6 HB;(try clear hb);(try clear hb2);(try clear hk);(try clear hi);refine hK.out _ _ ⟨bc a4 0,HS1_,HS2_⟩ (fun hHeld => ?_);clear hK K;refine nm 58 ?_;refine o1 16 (some 59) (fb 19 131071) HT_ (fun K hK => ?_);refine gs _ (#[.string ax]) Tryd.func44 ?_;(with_reducible refine (spec_l9Hex.calls k2 ax ak _ cd.out).mono ?_);rintro e w79 ⟨rfl,hb⟩;have HS1_:=(hb.cell (World.block_lt_of_cell? _ _ (hHeld.2.1))).trans (hHeld.2.1);have HS2_:=(hb.cell (World.block_lt_of_cell? _ _ (hHeld.2.2))).trans (hHeld.2.2);refine ⟨_,rfl,?_⟩;refine Ya6 (Kd.R_below (kr a5.out) hb) (Kd.R_below (kr a7.out) hb) (Kd.R_below (kr ab.out) hb) (bb a4 hb) (bb a6 hb) (below_step (bf HB.out) hb) ?_;clear a5 a7 ab a4 a6 HB;intro a5 a7 ab a4 a6 HB;(try clear hb);(try clear hb2);(try clear hk);(try clear hi);refine hK.out _ _ ⟨bc a4 0,HS1_,HS2_⟩ (fun hHeld => ?_);clear hK K;refine nm 59 ?_;refine pu 17 60 (fb 19 262143) HT_ ?_;refine pu 18 10 (fb 19 524287) HT_ ?_;refine done_ (done_of HT_.out (by kernel_rfl)) ?_;have hnb80:=ap.out;have hnc80:=al.out;have ⟨dJ,dK,dL,dM,dN,dO⟩:=Yc3 a6.out
                  try go_wp2
                  refine Ya6 (Kd.R_drew a5.out) (Kd.R_drew a7.out) (Kd.R_drew ab.out) (blk_drew a4.out) (blk_drew a6.out) (below_drew1 HB.out) ?_;clear a5 a7 ab a4 a6 HB;intro a5 a7 ab a4 a6 HB;have b4:0≤(a2:Int):=oda;have b5:a2<(a3.length:Int):=oda;obtain ⟨cf,cg,bF⟩:=Kd.at_string (Kd.R_reads' a5.out).2.2 a2 b4 b5
                  obtain rfl:aj=cf:=(by injection cg)
                  replace b4:=eq_true b4;replace b5:=eq_true b5;refine start_ (n:=14) (S:=fun w'=>w'.cell? ⟨a8,0,none⟩=some (.bool true)∧w'.cell? ⟨a8,1,none⟩=some (.string ad)∧w'.cell? ⟨a8,2,none⟩=some (.bool false)∧w'.cell? (aj.add (a2).toNat)=some (.string (rdOf ByteArray.empty a3 a2))) (ds:=[]) (fb 14 0) (by kernel_rfl) rfl rfl ⟨bc a6 0,bc a6 1,bc a6 2,bF⟩ (fun hHeld => ?_);refine with_tabW spec_l9Dir.tab13 spec_l9Dir.bits13 (fun HT_ HW_ => ?_);generalize w79.drew=w82 at a5 a7 ab a4 a6 HB bF hHeld ⊢; refine pu 0 63 (fb 14 1) HT_ ?_;refine pu 1 64 (fb 14 3) HT_ ?_;refine pu 2 65 (fb 14 7) HT_ ?_;refine pu 6 69 (fb 14 71) HT_ ?_;refine pu 9 72 (fb 14 583) HT_ ?_;refine tk 3 66 (fb 14 591) HT_ HW_ hHeld ?_;refine pu 4 67 (fb 14 607) HT_ ?_;refine pu 5 68 (fb 14 639) HT_ ?_;refine tk 7 70 (fb 14 767) HT_ HW_ hHeld ?_;refine pu 8 71 (fb 14 1023) HT_ ?_;refine o1 10 (some 73) (fb 14 2047) HT_ (fun K hK => ?_);refine gs _ (#[.string ((⟨#[102,105,108,101,32]⟩:ByteArray)++ad),.int .i64 a1]) Tryd.func41 ?_;(with_reducible refine (spec_Sum.calls k2 ((⟨#[102,105,108,101,32]⟩:ByteArray)++ad) a1 ao _ A32.out).mono ?_);rintro e w83 ⟨rfl,hb⟩;have HS3_:=(hb.cell (World.block_lt_of_cell? _ _ (hHeld.2.2.2))).trans (hHeld.2.2.2);refine ⟨_,rfl,?_⟩;refine Ya6 (Kd.R_below (kr a5.out) hb) (Kd.R_below (kr a7.out) hb) (Kd.R_below (kr ab.out) hb) (bb a4 hb) (bb a6 hb) (below_step (bf HB.out) hb) ?_;clear a5 a7 ab a4 a6 HB;intro a5 a7 ab a4 a6 HB;(try clear hb);(try clear hb2);(try clear hk);(try clear hi);refine hK.out _ _ ⟨bc a6 0,bc a6 1,bc a6 2,HS3_⟩ (fun hHeld => ?_);clear hK K;refine nm 73 ?_;refine o1 11 (some 74) (fb 14 4095) HT_ (fun K hK => ?_);refine gs _ (#[.string ao]) Tryd.func44 ?_;(with_reducible refine (spec_l9Hex.calls k2 ao a9 _ A33.out).mono ?_);rintro e w84 ⟨rfl,hb⟩;have HS3_:=(hb.cell (World.block_lt_of_cell? _ _ (hHeld.2.2.2))).trans (hHeld.2.2.2);refine ⟨_,rfl,?_⟩;refine Ya6 (Kd.R_below (kr a5.out) hb) (Kd.R_below (kr a7.out) hb) (Kd.R_below (kr ab.out) hb) (bb a4 hb) (bb a6 hb) (below_step (bf HB.out) hb) ?_;clear a5 a7 ab a4 a6 HB;intro a5 a7 ab a4 a6 HB;(try clear hb);(try clear hb2);(try clear hk);(try clear hi);refine hK.out _ _ ⟨bc a6 0,bc a6 1,bc a6 2,HS3_⟩ (fun hHeld => ?_);clear hK K;refine nm 74 ?_;refine pu 12 75 (fb 14 8191) HT_ ?_;refine pu 13 10 (fb 14 16383) HT_ ?_;refine done_ (done_of HT_.out (by kernel_rfl)) ?_;have ⟨dP,dQ,dR,dS,dT,dU⟩:=Yc3 a6.out;(try rw [←NLN_.out])
                  try go_wp2_with (first|(at_builtin;refine print_append_str (w0:=w) w.heap.size rfl (.tmp 81) _ 25 9 5 rfl Tryd.underlying25 Tryd.underlying9 info5 u7 ac LN_ rfl rfl ?aO ?aB ?aS ?aL ?_;(case aB=>exact (bf HB.out));(case aO=>exact (Kd.own_of_R (kr a7.out)));(case aS=>exact (below_size (bf HB.out)));(case aL=>have:=d8.out;omega);intro cC w86 ho0 hb hg;have ho:=Kd.R_of_own (h1:=fun _=>rfl) (ok:=fun _=>True) ho0 (fun _ _=>trivial);clear ho0;have hat:=True.intro;rw [←d9.out] at ho;change Kd.R (Kd.int .u8) 5 w86 w.heap.size (fun _=>True) cC ai at ho;refine Ya6 (Kd.R_over' (kr a5.out) (Kd.R_typed (kr a7.out)) (by decide) hg) (blk_grown (g:=ag) (o:=.cells #[.slice ae aa.length af] 50 (0,0)) (bk a4.out) hg (Kd.R_ne a7.out a4.out (by decide))) (blk_grown (g:=a8) (o:=.cells #[.bool true,.string ad,.bool false] 133 (0,0)) (bk a6.out) hg (Kd.R_ne a7.out a6.out (by decide))) (Kd.R_over' (kr ab.out) (Kd.R_typed (kr a7.out)) (by decide) hg) (hb) (ho) ?_;clear a5 a4 a6 ab HB a7;intro a5 a4 a6 ab HB bm;clear ho hb hg hat)|((with_reducible refine gate_builtin (b:=.append) (xs:=#[.tmp 84,.tmp 85]) rfl ?_);at_builtin;refine Kd.R_append (Kd.int .u8) (w0:=w) w.heap.size rfl (.tmp 84) (.tmp 85) 25 5 (.int .u8 0) 1 rfl Tryd.underlying25 info5 rfl (by decide) (by omega) cC ai 10 [.int .u8 10] (fun _=>True) (fun _=>False) rfl rfl ?aP (fun _ hk=>hk.elim) ?aF ?aO ?aB ?aS ?aL ?_;(case aP=>exact rfl);(case aB=>exact (bf HB.out));(case aF=>exact (fun _ _=>trivial));(case aO=>exact (kr bm.out));(case aS=>exact (below_size (bf HB.out)));(case aL=>have:=da.out;omega);intro v553 w87 ho hb hg hat;rw [←db.out] at ho;refine Ya6 (Kd.R_over' (kr a5.out) (Kd.R_typed (kr bm.out)) (by decide) hg) (blk_grown (g:=ag) (o:=.cells #[.slice ae aa.length af] 50 (0,0)) (bk a4.out) hg (Kd.R_ne bm.out a4.out (by decide))) (blk_grown (g:=a8) (o:=.cells #[.bool true,.string ad,.bool false] 133 (0,0)) (bk a6.out) hg (Kd.R_ne bm.out a6.out (by decide))) (Kd.R_over' (kr ab.out) (Kd.R_typed (kr bm.out)) (by decide) hg) (hb) (ho) ?_;clear a5 a4 a6 ab HB bm;intro a5 a4 a6 ab HB df;clear ho hb hg hat))
                  go_roundg k2
                  case measure=>have:=HK1.out;have:=HK2.out;omega
                  case rel=>exact ⟨(cA),(wrap64 (a2+1)),Ye1,H',⟨by have:=HK1.out;have:=HK2.out;omega⟩,⟨kr a5.out⟩,⟨kr df.out⟩,⟨bk a4.out⟩,⟨bf HB.out⟩⟩
                 ·rw [if_neg bV] at H
                  exact absurd H (by simp)
                ·rw [if_neg bU] at H
                 exact absurd H (by simp)
              ·rw [if_neg bh] at H
               exact absurd H (by simp)
             ·rw [if_neg bv] at H
              exact absurd H (by simp)
            ·rw [if_neg bg] at H
             exact absurd H (by simp)
           ·replace bP:=Bool.eq_false_iff.mpr bP;subst bP
            have H1:(if ac.length+((((⟨#[100,32]⟩:ByteArray)++(rdOf ByteArray.empty a3 a2))++(⟨#[32]⟩:ByteArray))++ak).size<140737488355328 then ((some (ac++bytesOf ((((⟨#[100,32]⟩:ByteArray)++(rdOf ByteArray.empty a3 a2))++(⟨#[32]⟩:ByteArray))++ak):List Int)).bind fun am=>(if am.length<140737488355328 then (spec_l9Dir.l1 k2 a1 a3 (am ++ [10]) (wrap64 (a2+1)) aa) else (none))) else (none))=some r:=by rw [if_neg (show ¬(false=true) by decide)] at H;exact H
            clear H;have H:=H1;clear H1
            by_cases bW:ac.length+((((⟨#[100,32]⟩:ByteArray)++(rdOf ByteArray.empty a3 a2))++(⟨#[32]⟩:ByteArray))++ak).size<140737488355328
            ·rw [if_pos bW] at H
             have dg:=Aside0.mk bW;clear bW
             obtain ⟨am,bI⟩:∃ y_:List Int,y_=(ac++bytesOf ((((⟨#[100,32]⟩:ByteArray)++(rdOf ByteArray.empty a3 a2))++(⟨#[32]⟩:ByteArray))++ak)):=⟨_,rfl⟩
             replace H:(if am.length<140737488355328 then (spec_l9Dir.l1 k2 a1 a3 (am ++ [10]) (wrap64 (a2+1)) aa) else (none))=some r:=by first|(rw [bI];with_reducible exact H)|(have H2_:=(Option.bind_some _ _).symm.trans H;rw [bI];with_reducible exact H2_)|(have H2_:=(Option.bind_some _ _).symm.trans H;with_reducible exact H2_)|with_reducible exact H|(rw [bI];exact H)|exact H
             have dh:=Aside0.mk bI;clear bI
             by_cases bX:am.length<140737488355328
             ·rw [if_pos bX] at H
              have di:=Aside0.mk bX;clear bX
              obtain ⟨cD,bJ⟩:∃ y_:List Int,y_=(am ++ [10]):=⟨_,rfl⟩
              replace H:(spec_l9Dir.l1 k2 a1 a3 cD (wrap64 (a2+1)) aa)=some r:=by first|(rw [bJ];with_reducible exact H)|(have H2_:=(Option.bind_some _ _).symm.trans H;rw [bJ];with_reducible exact H2_)|(have H2_:=(Option.bind_some _ _).symm.trans H;with_reducible exact H2_)|with_reducible exact H|(rw [bJ];exact H)|exact H
              have dj:=Aside0.mk bJ;clear bJ;have H':=Aside0.mk H;clear H;obtain ⟨Ao90,ci,dk⟩:=Kd.R_slice a5.out;subst dk
              try go_wp2
              refine Ya4 (Kd.R_drew a5.out) (Kd.R_drew a7.out) (blk_drew a4.out) (below_drew1 HB.out) ?_;clear a5 a7 a4 HB;intro a5 a7 a4 HB;have aJ:0≤(a2:Int):=oda;have aK:a2<(a3.length:Int):=oda;obtain ⟨aj,bA,aW⟩:=Kd.at_string (Kd.R_reads' a5.out).2.2 a2 aJ aK
              cases bA
              replace aJ:=eq_true aJ;replace aK:=eq_true aK;refine start_ (n:=8) (S:=fun w'=>w'.cell? ⟨ag,0,none⟩=some (.slice ae aa.length af)∧w'.cell? (aj.add (a2).toNat)=some (.string (rdOf ByteArray.empty a3 a2))) (ds:=[]) (fb 8 0) (by kernel_rfl) rfl rfl ⟨bc a4 0,aW⟩ (fun hHeld => ?_);refine with_tabW spec_l9Dir.tab10 spec_l9Dir.bits10 (fun HT_ HW_ => ?_);generalize wr.drew=w91 at a5 a7 a4 HB aW hHeld ⊢; refine pu 1 38 (fb 8 2) HT_ ?_;refine pu 2 39 (fb 8 6) HT_ ?_;refine pu 3 40 (fb 8 14) HT_ ?_;refine tk 0 37 (fb 8 15) HT_ HW_ hHeld ?_;refine tk 4 41 (fb 8 31) HT_ HW_ hHeld ?_;refine join_ (σ:=Nat) 1 (fb 8 127) (fun s_ => [(42,.agg #[.bool false,.string ad,.bool an]),(9,.pointer (some ⟨s_,0,none⟩))]) (fun s_ w'=>(w'.cell? ⟨ag,0,none⟩=some (.slice ae aa.length af)∧w'.cell? (aj.add (a2).toNat)=some (.string (rdOf ByteArray.empty a3 a2)))∧(Kd.R Kd.string 9 w' w.heap.size (fun _=>True) (.slice (some aj) a3.length ci) a3)∧(Kd.R (Kd.int .u8) 5 w' w.heap.size (fun _=>True) u7 ac)∧(w'.heap[ag]? = some (.cells #[.slice ae aa.length af] 50 (0,0)))∧(w'.heap[s_]? = some (.cells #[.bool false,.string (⟨#[]⟩:ByteArray),.bool false] 133 (0,0)))∧(w.heap.size≤s_)∧(w.heap.size≤s_)∧(ag≠s_)∧(s_≠ag)∧(Below w.heap.size w w')) ?_ ?_;rotate_left
              ·intro hCont;refine two_ (i:=5) (j:=6) (Ni:=some 42) (Nj:=some 9) (fb 8 63) (fb 8 95) rfl rfl rfl rfl (two_of HT_.out (by kernel_rfl)) (by decide) (by decide) (fun K hK => ?_) (fun K hK => ?_)
               ·skip
                refine gs _ (#[.agg #[.slice ae aa.length af],.string (rdOf ByteArray.empty a3 a2)]) Tryd.func81 ?_;(with_reducible refine (spec_l6At.calls k2 _ _ aa (rdOf ByteArray.empty a3 a2) false ad an _ ?side1 ?side2 b9.out).mono ?_);(case side1=>exact cb (Kd.C_below aU.out HB.out));(case side2=>exact aV.out);rintro e w92 ⟨rfl,hb⟩;have HS1_:=(hb.cell (World.block_lt_of_cell? _ _ (hHeld.2))).trans (hHeld.2);refine ⟨_,rfl,?_⟩;refine Ya4 (Kd.R_below (kr a5.out) hb) (Kd.R_below (kr a7.out) hb) (bb a4 hb) (below_step (bf HB.out) hb) ?_;clear a5 a7 a4 HB;intro a5 a7 a4 HB;(try clear hb);(try clear hb2);(try clear hk);(try clear hi);refine hK.out _ _ ⟨bc a4 0,HS1_⟩ (fun hHeld => ?_);clear hK K;refine nm 42 ?_;refine o1 6 (some 9) (fb 8 127) HT_ (fun K hK => ?_);refine bst 9 133 (#[.bool false,.string (⟨#[]⟩:ByteArray),.bool false]) ?_;intro a8 hg w93 hbox hb;have HS1_:=(hb.cell (World.block_lt_of_cell? _ _ (hHeld.2))).trans (hHeld.2);refine Ya9 (Kd.R_below (kr a5.out) hb) (Kd.R_below (kr a7.out) hb) (bb a4 hb) (below_step (bf HB.out) hb) (hbox) (bs hg (bf HB.out)) (bs hg (bf HB.out)) (bl hg a4) (br hg a4) ?_;clear a5 a7 a4 HB;intro a5 a7 a4 HB a6 aC aD al ap;clear hb hbox hg;refine hK.out _ _ ⟨bc a4 0,HS1_⟩ (fun hHeld => ?_);clear hK K;refine nm 9 ?_;exact nc (hCont (a8) _ ⟨hHeld,(kr a5.out),(kr a7.out),(bk a4.out),(bk a6.out),aC.out,aD.out,al.out,ap.out,(bf HB.out)⟩)
               ·skip
                refine bst 9 133 (#[.bool false,.string (⟨#[]⟩:ByteArray),.bool false]) ?_;intro a8 hg w92 hbox hb;have HS1_:=(hb.cell (World.block_lt_of_cell? _ _ (hHeld.2))).trans (hHeld.2);refine Ya9 (Kd.R_below (kr a5.out) hb) (Kd.R_below (kr a7.out) hb) (bb a4 hb) (below_step (bf HB.out) hb) (hbox) (bs hg (bf HB.out)) (bs hg (bf HB.out)) (bl hg a4) (br hg a4) ?_;clear a5 a7 a4 HB;intro a5 a7 a4 HB a6 aC aD al ap;clear hb hbox hg;refine hK.out _ _ ⟨bc a4 0,HS1_⟩ (fun hHeld => ?_);clear hK K;refine nm 9 ?_;refine o1 5 (some 42) (fb 8 127) HT_ (fun K hK => ?_);refine gs _ (#[.agg #[.slice ae aa.length af],.string (rdOf ByteArray.empty a3 a2)]) Tryd.func81 ?_;(with_reducible refine (spec_l6At.calls k2 _ _ aa (rdOf ByteArray.empty a3 a2) false ad an _ ?side1 ?side2 b9.out).mono ?_);(case side1=>exact cb (Kd.C_below aU.out HB.out));(case side2=>exact aV.out);rintro e w93 ⟨rfl,hb⟩;have HS1_:=(hb.cell (World.block_lt_of_cell? _ _ (hHeld.2))).trans (hHeld.2);refine ⟨_,rfl,?_⟩;refine Ya5 (Kd.R_below (kr a5.out) hb) (Kd.R_below (kr a7.out) hb) (bb a4 hb) (bb a6 hb) (below_step (bf HB.out) hb) ?_;clear a5 a7 a4 a6 HB;intro a5 a7 a4 a6 HB;(try clear hb);(try clear hb2);(try clear hk);(try clear hi);refine hK.out _ _ ⟨bc a4 0,HS1_⟩ (fun hHeld => ?_);clear hK K;refine nm 42 ?_;exact nc (hCont (a8) _ ⟨hHeld,(kr a5.out),(kr a7.out),(bk a4.out),(bk a6.out),aC.out,aD.out,al.out,ap.out,(bf HB.out)⟩)
              rintro a8 aI ⟨hS_,h0_,h1_,h2_,h3_,h4_,h5_,h6_,h7_,h8_⟩
              have aq:Aside0 (Kd.R Kd.string 9 aI w.heap.size (fun _=>True) (.slice (some aj) a3.length ci) a3):=⟨h0_⟩
              have ar:Aside0 (Kd.R (Kd.int .u8) 5 aI w.heap.size (fun _=>True) u7 ac):=⟨h1_⟩
              have au:Aside0 (aI.heap[ag]? = some (.cells #[.slice ae aa.length af] 50 (0,0))):=⟨h2_⟩
              have av:Aside0 (aI.heap[a8]? = some (.cells #[.bool false,.string (⟨#[]⟩:ByteArray),.bool false] 133 (0,0))):=⟨h3_⟩
              have aw:Aside0 (w.heap.size≤a8):=⟨h4_⟩
              have aX:Aside0 (w.heap.size≤a8):=⟨h5_⟩
              have aY:Aside0 (ag≠a8):=⟨h6_⟩
              have aZ:Aside0 (a8≠ag):=⟨h7_⟩
              have b0:Aside0 (Below w.heap.size w aI):=⟨h8_⟩
              clear a5;clear a7;clear a4;clear HB;clear h0_ h1_ h2_ h3_ h4_ h5_ h6_ h7_ h8_;have a5:=aq;have a7:=ar;have a4:=au;have a6:=av;have aC:=aw;have aD:=aX;have al:=aY;have ap:=aZ;have HB:=b0;clear aq ar au av aw aX aY aZ b0;have hHeld:aI.cell? ⟨ag,0,none⟩=some (.slice ae aa.length af)∧aI.cell? (aj.add (a2).toNat)=some (.string (rdOf ByteArray.empty a3 a2)):=hS_;refine norm_ (a':=?_) ?_ ?_;rotate_left
              ·simp only [putAll,Act.put,List.setIfInBounds_toArray,List.set_cons_zero,List.set_cons_succ];rfl
              refine o1 7 none (fb 8 255) HT_ (fun K hK => ?_);have ⟨hs95,hs96,hs97,hfs95,hfs96,hfs97⟩:=Yc3 a6.out;have dV:=al.out;have dW:=ap.out;refine skip_ (w1:=?_) (by rfl) rfl ?_ ?_;rotate_left
              ·go_simp;rfl
              refine hK.out _ _ ⟨((cell_far (p:=⟨a8,_,none⟩) al.out _).trans (((cell_far (p:=⟨a8,_,none⟩) al.out _).trans (((cell_far (p:=⟨a8,_,none⟩) al.out _).trans (hHeld.1)))))),((cell_far (p:=⟨a8,_,none⟩) (by first|exact Kd.own_blk (Kd.R_ne a5.out a6.out (by decide))|(rw [add_block];exact Kd.own_blk (Kd.R_ne a5.out a6.out (by decide)))|(show (Addr.add _ _).block≠_;rw [add_block];exact Kd.own_blk (Kd.R_ne a5.out a6.out (by decide)))|(dsimp only;exact Kd.own_blk (Kd.R_ne a5.out a6.out (by decide)))) _).trans (((cell_far (p:=⟨a8,_,none⟩) (by first|exact Kd.own_blk (Kd.R_ne a5.out a6.out (by decide))|(rw [add_block];exact Kd.own_blk (Kd.R_ne a5.out a6.out (by decide)))|(show (Addr.add _ _).block≠_;rw [add_block];exact Kd.own_blk (Kd.R_ne a5.out a6.out (by decide)))|(dsimp only;exact Kd.own_blk (Kd.R_ne a5.out a6.out (by decide)))) _).trans (((cell_far (p:=⟨a8,_,none⟩) (by first|exact Kd.own_blk (Kd.R_ne a5.out a6.out (by decide))|(rw [add_block];exact Kd.own_blk (Kd.R_ne a5.out a6.out (by decide)))|(show (Addr.add _ _).block≠_;rw [add_block];exact Kd.own_blk (Kd.R_ne a5.out a6.out (by decide)))|(dsimp only;exact Kd.own_blk (Kd.R_ne a5.out a6.out (by decide)))) _).trans (hHeld.2))))))⟩ (fun hHeld => ?_);clear hK K;refine done_ (done_of HT_.out (by kernel_rfl)) ?_
              try go_wp2
              have aq:Aside0 (Kd.R Kd.string 9 (((aI.setCell ⟨a8,0,none⟩ (.bool false)).setCell ⟨a8,1,none⟩ (.string ad)).setCell ⟨a8,2,none⟩ (.bool an)) w.heap.size (fun _=>True) (.slice (some aj) a3.length ci) a3):=⟨by (with_reducible repeat (first|apply Kd.R_alloc|apply Kd.R_drewN|apply Kd.R_drew));exact Kd.R_mono (Kd.R_far (p:=⟨a8,2,none⟩) (Kd.R_far (p:=⟨a8,1,none⟩) (Kd.R_far (p:=⟨a8,0,none⟩) (Kd.R_types a5.out a6.out (by decide)) (fun _ hk=>hk.2) (.bool false)) (fun _ hk=>hk.2) (.string ad)) (fun _ hk=>hk.2) (.bool an)) (fun _ hk=>trivial)⟩
              have ar:Aside0 (Kd.R (Kd.int .u8) 5 (((aI.setCell ⟨a8,0,none⟩ (.bool false)).setCell ⟨a8,1,none⟩ (.string ad)).setCell ⟨a8,2,none⟩ (.bool an)) w.heap.size (fun _=>True) u7 ac):=⟨by (with_reducible repeat (first|apply Kd.R_alloc|apply Kd.R_drewN|apply Kd.R_drew));exact Kd.R_mono (Kd.R_far (p:=⟨a8,2,none⟩) (Kd.R_far (p:=⟨a8,1,none⟩) (Kd.R_far (p:=⟨a8,0,none⟩) (Kd.R_types a7.out a6.out (by decide)) (fun _ hk=>hk.2) (.bool false)) (fun _ hk=>hk.2) (.string ad)) (fun _ hk=>hk.2) (.bool an)) (fun _ hk=>trivial)⟩
              have au:Aside0 ((((aI.setCell ⟨a8,0,none⟩ (.bool false)).setCell ⟨a8,1,none⟩ (.string ad)).setCell ⟨a8,2,none⟩ (.bool an)).heap[ag]? = some (.cells #[.slice ae aa.length af] 50 (0,0))):=⟨bkf a4.out al.out⟩
              have av:Aside0 ((((aI.setCell ⟨a8,0,none⟩ (.bool false)).setCell ⟨a8,1,none⟩ (.string ad)).setCell ⟨a8,2,none⟩ (.bool an)).heap[a8]? = some (.cells #[.bool false,.string ad,.bool an] 133 (0,0))):=⟨bp a6.out⟩
              have aw:Aside0 (Below w.heap.size w (((aI.setCell ⟨a8,0,none⟩ (.bool false)).setCell ⟨a8,1,none⟩ (.string ad)).setCell ⟨a8,2,none⟩ (.bool an))):=⟨bf HB.out⟩
              (try clear a5);(try clear a7);(try clear a4);(try clear a6);(try clear HB);generalize (((aI.setCell ⟨a8,0,none⟩ (.bool false)).setCell ⟨a8,1,none⟩ (.string ad)).setCell ⟨a8,2,none⟩ (.bool an))=w98 at aq ar au av aw ⊢; have a5:=aq;have a7:=ar;have a4:=au;have a6:=av;have HB:=aw;clear aq ar au av aw;refine Ya5 (Kd.R_drew a5.out) (Kd.R_drew a7.out) (blk_drew a4.out) (blk_drew a6.out) (below_drew1 HB.out) ?_;clear a5 a7 a4 a6 HB;intro a5 a7 a4 a6 HB;have aM:0≤(a2:Int):=oda;have aN:a2<(a3.length:Int):=oda;obtain ⟨bB,bC,b1⟩:=Kd.at_string (Kd.R_reads' a5.out).2.2 a2 aM aN
              obtain rfl:aj=bB:=(by injection bC)
              replace aM:=eq_true aM;replace aN:=eq_true aN;have aQ:0≤(a2:Int):=oda;have aR:a2<(a3.length:Int):=oda;obtain ⟨bD,bE,b2⟩:=Kd.at_string (Kd.R_reads' a5.out).2.2 a2 aQ aR
              obtain rfl:aj=bD:=(by injection bE)
              replace aQ:=eq_true aQ;replace aR:=eq_true aR;refine start_ (n:=19) (S:=fun w'=>w'.cell? ⟨ag,0,none⟩=some (.slice ae aa.length af)∧w'.cell? (aj.add (a2).toNat)=some (.string (rdOf ByteArray.empty a3 a2))∧w'.cell? (aj.add (a2).toNat)=some (.string (rdOf ByteArray.empty a3 a2))) (ds:=[]) (fb 19 0) (by kernel_rfl) rfl rfl ⟨bc a4 0,b1,b2⟩ (fun hHeld => ?_);refine with_tabW spec_l9Dir.tab11 spec_l9Dir.bits11 (fun HT_ HW_ => ?_);generalize w98.drew=w99 at a5 a7 a4 a6 HB b1 b2 hHeld ⊢; refine pu 0 43 (fb 19 1) HT_ ?_;refine pu 1 44 (fb 19 3) HT_ ?_;refine pu 2 45 (fb 19 7) HT_ ?_;refine pu 7 50 (fb 19 135) HT_ ?_;refine pu 8 51 (fb 19 391) HT_ ?_;refine pu 9 52 (fb 19 903) HT_ ?_;refine pu 12 55 (fb 19 4999) HT_ ?_;refine pu 14 57 (fb 19 21383) HT_ ?_;refine tk 3 46 (fb 19 21391) HT_ HW_ hHeld ?_;refine pu 4 47 (fb 19 21407) HT_ ?_;refine pu 5 48 (fb 19 21439) HT_ ?_;refine tk 6 49 (fb 19 21503) HT_ HW_ hHeld ?_;refine tk 10 53 (fb 19 22527) HT_ HW_ hHeld ?_;refine o1 11 (some 54) (fb 19 24575) HT_ (fun K hK => ?_);refine gs _ (#[.agg #[.slice ae aa.length af],.string (rdOf ByteArray.empty a3 a2)]) Tryd.func60 ?_;(with_reducible refine (spec_l9Under.calls k2 _ _ aa (rdOf ByteArray.empty a3 a2) aA _ ?side1 ?side2 c1.out).mono ?_);(case side1=>exact cb (Kd.C_below aU.out HB.out));(case side2=>exact aV.out);rintro e w100 ⟨cx,rfl,ho0,hb⟩;have HS1_:=(hb.cell (World.block_lt_of_cell? _ _ (hHeld.2.1))).trans (hHeld.2.1);have HS2_:=(hb.cell (World.block_lt_of_cell? _ _ (hHeld.2.2))).trans (hHeld.2.2);refine ⟨_,rfl,?_⟩;refine Ya6 (Kd.R_below (kr a5.out) hb) (Kd.R_below (kr a7.out) hb) (Kd.R_lower ho0 (below_size (bf HB.out))) (bb a4 hb) (bb a6 hb) (below_step (bf HB.out) hb) ?_;clear a5 a7 a4 a6 HB;intro a5 a7 ab a4 a6 HB;(try clear hb);(try clear hb2);(try clear hk);(try clear hi);(try clear ho0);obtain ⟨dl,dm,cE⟩:=Kd.R_slice ab.out;(first|subst cE|(injection cE with f1_ f2_ f3_;have f4_:=f1_.symm;have f5_:=f3_.symm;clear f1_ f2_ f3_;subst f4_;subst f5_));refine hK.out _ _ ⟨bc a4 0,HS1_,HS2_⟩ (fun hHeld => ?_);clear hK K;refine nm 54 ?_;refine o1 13 (some 56) (fb 19 32767) HT_ (fun K hK => ?_);refine gs _ (#[.agg #[.slice dl aA.length dm],.int .i64 a1]) Tryd.func55 ?_;(with_reducible refine (ih k2 (by have:=HK1.out;have:=HK2.out;omega) _ _ aA a1 ay _ ?side1 ?side2 ca.out).mono ?_);(case side1=>repeat (first|exact (Kd.R_reads' ab.out).2.2|(with_reducible refine Kd.C_alloc ?_ _)|(with_reducible refine Kd.C_drewN ?_ _)|(with_reducible refine Kd.C_drew ?_)));(case side2=>exact (Kd.R_reads' ab.out).2.1);rintro e w102 ⟨rfl,hb⟩;have HS1_:=(hb.cell (World.block_lt_of_cell? _ _ (hHeld.2.1))).trans (hHeld.2.1);have HS2_:=(hb.cell (World.block_lt_of_cell? _ _ (hHeld.2.2))).trans (hHeld.2.2);refine ⟨_,rfl,?_⟩;refine Ya6 (Kd.R_below (kr a5.out) hb) (Kd.R_below (kr a7.out) hb) (Kd.R_below (kr ab.out) hb) (bb a4 hb) (bb a6 hb) (below_step (bf HB.out) hb) ?_;clear a5 a7 ab a4 a6 HB;intro a5 a7 ab a4 a6 HB;(try clear hb);(try clear hb2);(try clear hk);(try clear hi);refine hK.out _ _ ⟨bc a4 0,HS1_,HS2_⟩ (fun hHeld => ?_);clear hK K;refine nm 56 ?_;refine o1 15 (some 58) (fb 19 65535) HT_ (fun K hK => ?_);refine gs _ (#[.string ay,.int .i64 a1]) Tryd.func41 ?_;(with_reducible refine (spec_Sum.calls k2 ay a1 ax _ cc.out).mono ?_);rintro e w103 ⟨rfl,hb⟩;have HS1_:=(hb.cell (World.block_lt_of_cell? _ _ (hHeld.2.1))).trans (hHeld.2.1);have HS2_:=(hb.cell (World.block_lt_of_cell? _ _ (hHeld.2.2))).trans (hHeld.2.2);refine ⟨_,rfl,?_⟩;refine Ya6 (Kd.R_below (kr a5.out) hb) (Kd.R_below (kr a7.out) hb) (Kd.R_below (kr ab.out) hb) (bb a4 hb) (bb a6 hb) (below_step (bf HB.out) hb) ?_;clear a5 a7 ab a4 a6 HB;intro a5 a7 ab a4 a6 HB;(try clear hb);(try clear hb2);(try clear hk);(try clear hi);refine hK.out _ _ ⟨bc a4 0,HS1_,HS2_⟩ (fun hHeld => ?_);clear hK K;refine nm 58 ?_;refine o1 16 (some 59) (fb 19 131071) HT_ (fun K hK => ?_);refine gs _ (#[.string ax]) Tryd.func44 ?_;(with_reducible refine (spec_l9Hex.calls k2 ax ak _ cd.out).mono ?_);rintro e w104 ⟨rfl,hb⟩;have HS1_:=(hb.cell (World.block_lt_of_cell? _ _ (hHeld.2.1))).trans (hHeld.2.1);have HS2_:=(hb.cell (World.block_lt_of_cell? _ _ (hHeld.2.2))).trans (hHeld.2.2);refine ⟨_,rfl,?_⟩;refine Ya6 (Kd.R_below (kr a5.out) hb) (Kd.R_below (kr a7.out) hb) (Kd.R_below (kr ab.out) hb) (bb a4 hb) (bb a6 hb) (below_step (bf HB.out) hb) ?_;clear a5 a7 ab a4 a6 HB;intro a5 a7 ab a4 a6 HB;(try clear hb);(try clear hb2);(try clear hk);(try clear hi);refine hK.out _ _ ⟨bc a4 0,HS1_,HS2_⟩ (fun hHeld => ?_);clear hK K;refine nm 59 ?_;refine pu 17 60 (fb 19 262143) HT_ ?_;refine pu 18 10 (fb 19 524287) HT_ ?_;refine done_ (done_of HT_.out (by kernel_rfl)) ?_;have dX:=ap.out;have dY:=al.out;have ⟨dZ,e0,e1,e2,e3,e4⟩:=Yc3 a6.out
              try go_wp2_with (first|(at_builtin;refine print_append_str (w0:=w) w.heap.size rfl (.tmp 81) _ 25 9 5 rfl Tryd.underlying25 Tryd.underlying9 info5 u7 ac ((((⟨#[100,32]⟩:ByteArray)++(rdOf ByteArray.empty a3 a2))++(⟨#[32]⟩:ByteArray))++ak) rfl rfl ?aO ?aB ?aS ?aL ?_;(case aB=>exact (bf HB.out));(case aO=>exact (Kd.own_of_R (kr a7.out)));(case aS=>exact (below_size (bf HB.out)));(case aL=>have:=dg.out;omega);intro cF dn ho0 hb hg;have ho:=Kd.R_of_own (h1:=fun _=>rfl) (ok:=fun _=>True) ho0 (fun _ _=>trivial);clear ho0;have hat:=True.intro;rw [←dh.out] at ho;change Kd.R (Kd.int .u8) 5 dn w.heap.size (fun _=>True) cF am at ho;refine Ya6 (Kd.R_over' (kr a5.out) (Kd.R_typed (kr a7.out)) (by decide) hg) (blk_grown (g:=ag) (o:=.cells #[.slice ae aa.length af] 50 (0,0)) (bk a4.out) hg (Kd.R_ne a7.out a4.out (by decide))) (blk_grown (g:=a8) (o:=.cells #[.bool false,.string ad,.bool an] 133 (0,0)) (bk a6.out) hg (Kd.R_ne a7.out a6.out (by decide))) (Kd.R_over' (kr ab.out) (Kd.R_typed (kr a7.out)) (by decide) hg) (hb) (ho) ?_;clear a5 a4 a6 ab HB a7;intro a5 a4 a6 ab HB bn;clear ho hb hg hat)|((with_reducible refine gate_builtin (b:=.append) (xs:=#[.tmp 84,.tmp 85]) rfl ?_);at_builtin;refine Kd.R_append (Kd.int .u8) (w0:=w) w.heap.size rfl (.tmp 84) (.tmp 85) 25 5 (.int .u8 0) 1 rfl Tryd.underlying25 info5 rfl (by decide) (by omega) cF am 10 [.int .u8 10] (fun _=>True) (fun _=>False) rfl rfl ?aP (fun _ hk=>hk.elim) ?aF ?aO ?aB ?aS ?aL ?_;(case aP=>exact rfl);(case aB=>exact (bf HB.out));(case aF=>exact (fun _ _=>trivial));(case aO=>exact (kr bn.out));(case aS=>exact (below_size (bf HB.out)));(case aL=>have:=di.out;omega);intro v559 w108 ho hb hg hat;rw [←dj.out] at ho;refine Ya6 (Kd.R_over' (kr a5.out) (Kd.R_typed (kr bn.out)) (by decide) hg) (blk_grown (g:=ag) (o:=.cells #[.slice ae aa.length af] 50 (0,0)) (bk a4.out) hg (Kd.R_ne bn.out a4.out (by decide))) (blk_grown (g:=a8) (o:=.cells #[.bool false,.string ad,.bool an] 133 (0,0)) (bk a6.out) hg (Kd.R_ne bn.out a6.out (by decide))) (Kd.R_over' (kr ab.out) (Kd.R_typed (kr bn.out)) (by decide) hg) (hb) (ho) ?_;clear a5 a4 a6 ab HB bn;intro a5 a4 a6 ab HB dp;clear ho hb hg hat))
              go_roundg k2
              case measure=>have:=HK1.out;have:=HK2.out;omega
              case rel=>exact ⟨(cD),(wrap64 (a2+1)),Ye1,H',⟨by have:=HK1.out;have:=HK2.out;omega⟩,⟨kr a5.out⟩,⟨kr dp.out⟩,⟨bk a4.out⟩,⟨bf HB.out⟩⟩
             ·rw [if_neg bX] at H
              exact absurd H (by simp)
            ·rw [if_neg bW] at H
             exact absurd H (by simp)
          ·rw [if_neg bd] at H
           exact absurd H (by simp)
         ·rw [if_neg ba] at H
          exact absurd H (by simp)
        ·rw [if_neg bu] at H
         exact absurd H (by simp)
       ·rw [if_neg bO] at H
        exact absurd H (by simp)
      ·rw [if_neg b7] at H
       have cZ:decide (a2<(a3.length:Int))=false:=decide_eq_false b7;clear b7;obtain rfl:=Option.some.inj H;obtain ⟨Ao109,co109,dq⟩:=Kd.R_slice a5.out;subst dq;have hcv110:=own_string (P:=Tryd.prog) Tryd.underlying25 Tryd.underlying5 Tryd.underlying9 (Kd.own_of_R a7.out)
       go_wp2
       go_ret
       exact ⟨Ye2,(bf HB.out)⟩

end Go.Proofs.YtkmfnmeilooogaaDoor.P


namespace Go.Proofs.YtkmfnmeilooogaaDoor.P
open Go.RowKit Go.Proofs.YtkmfnmeilooogaaDoorW.PrintWords Go.Proofs.YtkmfnmeilooogaaDoorW.PrintLast Go.Proofs.YtkmfnmeilooogaaDoorW.PrintMore
attribute [local go_sem] max2_int min2_int max_two min_two max_three min_three max_four min_four
set_option linter.unusedVariables false
set_option linter.unusedSimpArgs false

def spec_l9Good.f (k:Nat) (a2:List (S34)) (a1:Int):Option (Bool):=(spec_ValidTree.f k a2).bind fun a5=>(if a5=true then ((spec_l1In.f a1 1 8).bind fun a3=>(some a3)) else (some false))
theorem spec_l9Good.mono:∀ a0 a1 k,LeO (spec_l9Good.f k a0 a1) (spec_l9Good.f (k+1) a0 a1):=by
 intro a0 a1 k
 unfold spec_l9Good.f
 repeat' first
   | (with_reducible exact spec_ValidTree.mono _ _)
   | (with_reducible exact LeO.refl _)
   | (with_reducible exact LeO.none _)
   | (with_reducible refine LeO.ite ?_ ?_)
   | (with_reducible refine LeO.bind ?_ (fun _ => ?_))
   | exact spec_ValidTree.mono _ _
   | exact LeO.none _
   | refine LeO.ite ?_ ?_
   | refine LeO.bind ?_ (fun _ => ?_)
set_option maxHeartbeats 8000000 in
set_option maxRecDepth 100000 in
theorem spec_l9Good.calls (k:Nat) (a6:Option Addr) (a7:Nat) (a2:List (S34)) (a1:Int) (r:Bool) (w:World) (a8:Kd.C k34 w a6 a2.length a2) (a9:a2.length≤a7) (h:spec_l9Good.f k a2 a1=some r) :
  Calls Tryd.prog 54 #[.agg #[.slice a6 a2.length a7],.int .i64 a1] w fun e w'=>e = .returned (.bool r)∧Below w.heap.size w w':=by
 have hu50:=Tryd.underlying50;have aa:=Aside0.mk a8;have ab:=Aside0.mk a9;clear a8 a9;have HB:=Aside0.mk (Below.refl w.heap.size w);have H:((spec_ValidTree.f k a2).bind fun a5=>(if a5=true then ((spec_l1In.f a1 1 8).bind fun a3=>(some a3)) else (some false)))=some r:=h;clear h;replace H:=Option.bind_eq_some_iff.mp H;obtain ⟨a5,A30,H⟩:=H;replace H:(if a5=true then ((spec_l1In.f a1 1 8).bind fun a3=>(some a3)) else (some false))=some r:=H;have A3:=Aside0.mk A30;clear A30
 by_cases c4:a5=true
 ·subst c4
  have H1:((spec_l1In.f a1 1 8).bind fun a3=>(some a3))=some r:=by rw [if_pos rfl] at H;exact H
  clear H;have H:=H1;clear H1;replace H:=Option.bind_eq_some_iff.mp H;obtain ⟨a3,A50,H⟩:=H;replace H:(some a3)=some r:=H;have A5:=Aside0.mk A50;clear A50;obtain rfl:=Option.some.inj H
  go_enter Tryd.func54,Tryd.ntmps54
  go_wp2_with (first|((with_reducible refine gd 2 rfl ?_);refine bx 2 50 (#[.slice a6 a2.length a7]) ?_;intro ac hg w6 hbox hb;refine Ya4 (below_step (be HB.out) hb) (hbox) (bs hg (be HB.out)) (bs hg (be HB.out)) ?_;clear HB;intro HB a4 ad ae;clear hb hbox hg;have ⟨af,ag⟩:=Yc1 a4.out)|((with_reducible refine gc 79 rfl ?_);refine gl (some 6) _ (#[.agg #[.slice a6 a2.length a7]]) Tryd.func79 ?_;(with_reducible refine (spec_ValidTree.calls k _ _ a2 true _ ?side1 ?side2 A3.out).mono ?_);(case side1=>exact cb (Kd.C_below aa.out HB.out));(case side2=>exact ab.out);rintro e w8 ⟨rfl,hb⟩;refine ⟨_,rfl,?_⟩;refine Ya2 (bb a4 hb) (below_step (bf HB.out) hb) ?_;clear a4 HB;intro a4 HB;(try clear hb);(try clear hb2);(try clear hk);(try clear hi))|(go_at_call 39;(with_reducible refine (spec_l1In.calls a1 1 8 a3 _ A5.out).mono ?_);rintro e w' ⟨rfl,⟨nd,rfl⟩⟩))
  go_ret
  exact ⟨Ye2,(bf HB.out)⟩
 ·replace c4:=Bool.eq_false_iff.mpr c4;subst c4
  have H1:(some false)=some r:=by rw [if_neg (show ¬(false=true) by decide)] at H;exact H
  clear H;have H:=H1;clear H1;obtain rfl:=Option.some.inj H
  go_enter Tryd.func54,Tryd.ntmps54
  go_wp2_with (first|((with_reducible refine gd 2 rfl ?_);refine bx 2 50 (#[.slice a6 a2.length a7]) ?_;intro ac hg w9 hbox hb;refine Ya4 (below_step (be HB.out) hb) (hbox) (bs hg (be HB.out)) (bs hg (be HB.out)) ?_;clear HB;intro HB a4 ad ae;clear hb hbox hg;have ⟨ah,ai⟩:=Yc1 a4.out)|((with_reducible refine gc 79 rfl ?_);refine gl (some 6) _ (#[.agg #[.slice a6 a2.length a7]]) Tryd.func79 ?_;(with_reducible refine (spec_ValidTree.calls k _ _ a2 false _ ?side1 ?side2 A3.out).mono ?_);(case side1=>exact cb (Kd.C_below aa.out HB.out));(case side2=>exact ab.out);rintro e w11 ⟨rfl,hb⟩;refine ⟨_,rfl,?_⟩;refine Ya2 (bb a4 hb) (below_step (bf HB.out) hb) ?_;clear a4 HB;intro a4 HB;(try clear hb);(try clear hb2);(try clear hk);(try clear hi)))
  go_ret
  exact ⟨Ye2,(bf HB.out)⟩

end Go.Proofs.YtkmfnmeilooogaaDoor.P


namespace Go.Proofs.YtkmfnmeilooogaaDoor.P
open Go.RowKit Go.Proofs.YtkmfnmeilooogaaDoorW.PrintWords Go.Proofs.YtkmfnmeilooogaaDoorW.PrintLast Go.Proofs.YtkmfnmeilooogaaDoorW.PrintMore
attribute [local go_sem] max2_int min2_int max_two min_two max_three min_three max_four min_four
set_option linter.unusedVariables false
set_option linter.unusedSimpArgs false

def spec_DirText.j0:Nat→ByteArray→Int→Bool→List (S34)→Option (ByteArray)
 | 0,_,_,_,_=>none
 | k+1,x1,x2,x19,al=>if x19=true then (some (⟨#[]⟩:ByteArray)) else (if x1.toList=([]:List UInt8) then ((spec_l9Dir.f k al x2).bind fun ac=>(some ac)) else ((spec_l9Under.f k al x1).bind fun a8=>((spec_l9Dir.f k a8 x2).bind fun a9=>(some a9))))
def spec_DirText.f (k:Nat) (a3:List (S34)) (a1:ByteArray) (a2:Int):Option (ByteArray):=(spec_l9Good.f k a3 a2).bind fun ad=>(if ad=true then (if a1.toList=([]:List UInt8) then (spec_DirText.j0 k a1 a2 false a3) else ((spec_ValidPath.f k a1).bind fun a5=>(spec_DirText.j0 k a1 a2 (!a5) a3))) else (spec_DirText.j0 k a1 a2 true a3))
theorem spec_DirText.mono_l:∀ k,(∀ y0 y1 y2 y3,LeO (spec_DirText.j0 k y0 y1 y2 y3) (spec_DirText.j0 (k+1) y0 y1 y2 y3))
 | 0=>fun _ _ _ _ r h=>by simp [spec_DirText.j0] at h
 | k + 1 => by
  have ih0:=spec_DirText.mono_l k
  ·intro y0 y1 y2 y3
   unfold spec_DirText.j0
   repeat' first
   | (with_reducible exact ih0 _ _ _ _)
   | (with_reducible exact spec_ValidPath.mono _ _)
   | (with_reducible exact spec_l9Dir.mono _ _ _)
   | (with_reducible exact spec_l9Good.mono _ _ _)
   | (with_reducible exact spec_l9Under.mono _ _ _)
   | (with_reducible exact LeO.refl _)
   | (with_reducible exact LeO.none _)
   | (with_reducible refine LeO.ite ?_ ?_)
   | (with_reducible refine LeO.bind ?_ (fun _ => ?_))
   | exact ih0 _ _ _ _
   | exact spec_ValidPath.mono _ _
   | exact spec_l9Dir.mono _ _ _
   | exact spec_l9Good.mono _ _ _
   | exact spec_l9Under.mono _ _ _
   | exact LeO.none _
   | refine LeO.ite ?_ ?_
   | refine LeO.bind ?_ (fun _ => ?_)
theorem spec_DirText.mono:∀ a0 a1 a2 k,LeO (spec_DirText.f k a0 a1 a2) (spec_DirText.f (k+1) a0 a1 a2):=by
 intro a0 a1 a2 k;have ih0:=spec_DirText.mono_l k
 unfold spec_DirText.f
 repeat' first
   | (with_reducible exact ih0 _ _ _ _)
   | (with_reducible exact spec_ValidPath.mono _ _)
   | (with_reducible exact spec_l9Dir.mono _ _ _)
   | (with_reducible exact spec_l9Good.mono _ _ _)
   | (with_reducible exact spec_l9Under.mono _ _ _)
   | (with_reducible exact LeO.refl _)
   | (with_reducible exact LeO.none _)
   | (with_reducible refine LeO.ite ?_ ?_)
   | (with_reducible refine LeO.bind ?_ (fun _ => ?_))
   | exact ih0 _ _ _ _
   | exact spec_ValidPath.mono _ _
   | exact spec_l9Dir.mono _ _ _
   | exact spec_l9Good.mono _ _ _
   | exact spec_l9Under.mono _ _ _
   | exact LeO.none _
   | refine LeO.ite ?_ ?_
   | refine LeO.bind ?_ (fun _ => ?_)
set_option maxHeartbeats 8000000 in
set_option maxRecDepth 100000 in
theorem spec_DirText.calls (k:Nat) (a6:Option Addr) (a7:Nat) (a3:List (S34)) (a1:ByteArray) (a2:Int) (r:ByteArray) (w:World) (am:Kd.C k34 w a6 a3.length a3) (an:a3.length≤a7) (h:spec_DirText.f k a3 a1 a2=some r) :
  Calls Tryd.prog 22 #[.agg #[.slice a6 a3.length a7],.string a1,.int .i64 a2] w fun e w'=>e = .returned (.string r)∧Below w.heap.size w w':=by
 have hu50:=Tryd.underlying50;have ag:=Aside0.mk am;have ah:=Aside0.mk an;clear am an;have HB:=Aside0.mk (Below.refl w.heap.size w);have H:((spec_l9Good.f k a3 a2).bind fun ad=>(if ad=true then (if a1.toList=([]:List UInt8) then (spec_DirText.j0 k a1 a2 false a3) else ((spec_ValidPath.f k a1).bind fun a5=>(spec_DirText.j0 k a1 a2 (!a5) a3))) else (spec_DirText.j0 k a1 a2 true a3)))=some r:=h;clear h;have ak:=Aside0.mk H;clear H
 go_enter Tryd.func22,Tryd.ntmps22
 go_upto_region 1 with (first|((with_reducible refine gd 3 rfl ?_);refine bx 3 50 (#[.slice a6 a3.length a7]) ?_;intro av hg w5 hbox hb;refine Ya4 (below_step (be HB.out) hb) (hbox) (bs hg (be HB.out)) (bs hg (be HB.out)) ?_;clear HB;intro HB a4 GW748 GE748;clear hb hbox hg))
 (try simp only [Act.put,List.setIfInBounds_toArray,List.set_cons_zero,List.set_cons_succ])
 go_cut [19] (fun v19 wc => ∃ (kq:Nat) (ai:Bool),v19 = .bool ai∧Aside0 (spec_DirText.j0 kq a1 a2 ai a3=some r)∧Aside0 (kq≤k)∧Aside0 (wc.heap[av]? = some (.cells #[(.slice a6 a3.length a7)] 50 (0,0)))∧Aside0 (Below w.heap.size w wc))
 case first =>
  have H:=ak.out;clear ak;replace H:=Option.bind_eq_some_iff.mp H;obtain ⟨ad,A60,H⟩:=H;replace H:(if ad=true then (if a1.toList=([]:List UInt8) then (spec_DirText.j0 k a1 a2 false a3) else ((spec_ValidPath.f k a1).bind fun a5=>(spec_DirText.j0 k a1 a2 (!a5) a3))) else (spec_DirText.j0 k a1 a2 true a3))=some r:=H;have A6:=Aside0.mk A60;clear A60
  by_cases c7:ad=true
  ·subst c7
   have H1:(if a1.toList=([]:List UInt8) then (spec_DirText.j0 k a1 a2 false a3) else ((spec_ValidPath.f k a1).bind fun a5=>(spec_DirText.j0 k a1 a2 (!a5) a3)))=some r:=by rw [if_pos rfl] at H;exact H
   clear H;have H:=H1;clear H1
   by_cases c8:a1.toList=([]:List UInt8)
   ·rw [if_pos c8] at H
    have ae:(a1.toList==([]:List UInt8))=true:=beq_iff_eq.mpr c8;have ao:(a1.toList != ([]:List UInt8))=false:=bne_eq_false_iff_eq.mpr c8;clear c8;(first|rw [ae]|(simp only [i64_w,i32_w];rw [ae])|skip);have H':=Aside0.mk H;clear H;have ⟨aw,ax⟩:=Yc1 a4.out
    go_wp2_with (first|((with_reducible refine gc 54 rfl ?_);refine gl (some 9) _ (#[.agg #[.slice a6 a3.length a7],.int .i64 a2]) Tryd.func54 ?_;(with_reducible refine (spec_l9Good.calls k _ _ a3 a2 true _ ?side1 ?side2 A6.out).mono ?_);(case side1=>exact cb (Kd.C_below ag.out HB.out));(case side2=>exact ah.out);rintro e w10 ⟨rfl,hb⟩;refine ⟨_,rfl,?_⟩;refine Ya2 (bb a4 hb) (below_step (bf HB.out) hb) ?_;clear a4 HB;intro a4 HB;(try clear hb);(try clear hb2);(try clear hk);(try clear hi)))
    go_meet
    case rel=>exact ⟨_,(false),Ye1,H',⟨by first|omega|exact Nat.le_refl _⟩,⟨bk a4.out⟩,⟨bf HB.out⟩⟩
   ·rw [if_neg c8] at H
    have ae:(a1.toList==([]:List UInt8))=false:=beq_eq_false_iff_ne.mpr c8;have ao:(a1.toList != ([]:List UInt8))=true:=bne_iff_ne.mpr c8;(first|rw [ae]|(simp only [i64_w,i32_w];rw [ae])|skip);replace H:=Option.bind_eq_some_iff.mp H;obtain ⟨a5,ap,H⟩:=H;replace H:(spec_DirText.j0 k a1 a2 (!a5) a3)=some r:=H;have A11:=Aside0.mk ap;clear ap;have H':=Aside0.mk H;clear H;have ⟨ay,az⟩:=Yc1 a4.out
    go_wp2_with (first|((with_reducible refine gc 54 rfl ?_);refine gl (some 9) _ (#[.agg #[.slice a6 a3.length a7],.int .i64 a2]) Tryd.func54 ?_;(with_reducible refine (spec_l9Good.calls k _ _ a3 a2 true _ ?side1 ?side2 A6.out).mono ?_);(case side1=>exact cb (Kd.C_below ag.out HB.out));(case side2=>exact ah.out);rintro e w13 ⟨rfl,hb⟩;refine ⟨_,rfl,?_⟩;refine Ya2 (bb a4 hb) (below_step (bf HB.out) hb) ?_;clear a4 HB;intro a4 HB;(try clear hb);(try clear hb2);(try clear hk);(try clear hi))|(go_at_call 38;(with_reducible refine (spec_ValidPath.calls k a1 a5 _ A11.out).mono ?_);rintro e w14 ⟨rfl,hb⟩;refine Ya2 (bb a4 hb) (below_step (bf HB.out) hb) ?_;clear a4 HB;intro a4 HB;(try clear hb);(try clear hb2);(try clear hk);(try clear hi)))
    go_meet
    case rel=>exact ⟨_,(!a5),Ye1,H',⟨by first|omega|exact Nat.le_refl _⟩,⟨bk a4.out⟩,⟨bf HB.out⟩⟩
  ·replace c7:=Bool.eq_false_iff.mpr c7;subst c7
   have H1:(spec_DirText.j0 k a1 a2 true a3)=some r:=by rw [if_neg (show ¬(false=true) by decide)] at H;exact H
   clear H;have H:=H1;clear H1;have H':=Aside0.mk H;clear H;have ⟨aA,aB⟩:=Yc1 a4.out
   go_wp2_with (first|((with_reducible refine gc 54 rfl ?_);refine gl (some 9) _ (#[.agg #[.slice a6 a3.length a7],.int .i64 a2]) Tryd.func54 ?_;(with_reducible refine (spec_l9Good.calls k _ _ a3 a2 false _ ?side1 ?side2 A6.out).mono ?_);(case side1=>exact cb (Kd.C_below ag.out HB.out));(case side2=>exact ah.out);rintro e w16 ⟨rfl,hb⟩;refine ⟨_,rfl,?_⟩;refine Ya2 (bb a4 hb) (below_step (bf HB.out) hb) ?_;clear a4 HB;intro a4 HB;(try clear hb);(try clear hb2);(try clear hk);(try clear hi)))
   go_meet
   case rel=>exact ⟨_,(true),Ye1,H',⟨by first|omega|exact Nat.le_refl _⟩,⟨bk a4.out⟩,⟨bf HB.out⟩⟩
 case rest =>
  clear ak;(try clear c2);(try clear p2);(try clear c5);(try clear c7);(try clear c8);(try clear ae);(try clear ao);(try clear ay);(try clear aA);(try clear aw);(try clear az);(try clear aB);(try clear ax);obtain ⟨kq,ai,rfl,HA,HJ3,a4,HB⟩:=hcut
  cases kq with
  | zero=>exact absurd HA.out (by simp [spec_DirText.j0])
  | succ aa =>
   have H:=HA.out;clear HA;simp only [spec_DirText.j0] at H
   by_cases aj:ai=true
   ·subst aj
    have H1:(some (⟨#[]⟩:ByteArray))=some r:=by rw [if_pos rfl] at H;exact H
    clear H;have H:=H1;clear H1;obtain rfl:=Option.some.inj H
    go_wp2
    go_ret
    exact ⟨Ye2,(bf HB.out)⟩
   ·replace aj:=Bool.eq_false_iff.mpr aj;subst aj
    have H1:(if a1.toList=([]:List UInt8) then ((spec_l9Dir.f aa a3 a2).bind fun ac=>(some ac)) else ((spec_l9Under.f aa a3 a1).bind fun a8=>((spec_l9Dir.f aa a8 a2).bind fun a9=>(some a9))))=some r:=by rw [if_neg (show ¬(false=true) by decide)] at H;exact H
    clear H;have H:=H1;clear H1
    by_cases ab:a1.toList=([]:List UInt8)
    ·rw [if_pos ab] at H
     have aC:(a1.toList==([]:List UInt8))=true:=beq_iff_eq.mpr ab;have aD:(a1.toList != ([]:List UInt8))=false:=bne_eq_false_iff_eq.mpr ab;clear ab;replace H:=Option.bind_eq_some_iff.mp H;obtain ⟨ac,aq,H⟩:=H;replace H:(some ac)=some r:=H;have A19:=Aside0.mk aq;clear aq;obtain rfl:=Option.some.inj H;have ⟨aH,aI⟩:=Yc1 a4.out
     go_wp2_with (first|((with_reducible refine gc 55 rfl ?_);refine gl (some 24) _ (#[.agg #[.slice a6 a3.length a7],.int .i64 a2]) Tryd.func55 ?_;(with_reducible refine (spec_l9Dir.calls aa _ _ a3 a2 ac _ ?side1 ?side2 A19.out).mono ?_);(case side1=>exact cb (Kd.C_below ag.out HB.out));(case side2=>exact ah.out);rintro e w21 ⟨rfl,hb⟩;refine ⟨_,rfl,?_⟩;refine Ya2 (bb a4 hb) (below_step (bf HB.out) hb) ?_;clear a4 HB;intro a4 HB;(try clear hb);(try clear hb2);(try clear hk);(try clear hi)))
     go_ret
     exact ⟨Ye2,(bf HB.out)⟩
    ·rw [if_neg ab] at H
     have aC:(a1.toList==([]:List UInt8))=false:=beq_eq_false_iff_ne.mpr ab;have aD:(a1.toList != ([]:List UInt8))=true:=bne_iff_ne.mpr ab;replace H:=Option.bind_eq_some_iff.mp H;obtain ⟨a8,ar,H⟩:=H;replace H:((spec_l9Dir.f aa a8 a2).bind fun a9=>(some a9))=some r:=H;have A22:=Aside0.mk ar;clear ar;replace H:=Option.bind_eq_some_iff.mp H;obtain ⟨a9,au,H⟩:=H;replace H:(some a9)=some r:=H;have A23:=Aside0.mk au;clear au;obtain rfl:=Option.some.inj H;have ⟨aJ,aK⟩:=Yc1 a4.out
     go_wp2_with (first|((with_reducible refine gc 60 rfl ?_);refine gl (some 27) _ (#[.agg #[.slice a6 a3.length a7],.string a1]) Tryd.func60 ?_;(with_reducible refine (spec_l9Under.calls aa _ _ a3 a1 a8 _ ?side1 ?side2 A22.out).mono ?_);(case side1=>exact cb (Kd.C_below ag.out HB.out));(case side2=>exact ah.out);rintro e w25 ⟨v753,rfl,ho0,hb⟩;refine ⟨_,rfl,?_⟩;refine Ya3 (Kd.R_lower ho0 (below_size (bf HB.out))) (bb a4 hb) (below_step (bf HB.out) hb) ?_;clear a4 HB;intro af a4 HB;(try clear hb);(try clear hb2);(try clear hk);(try clear hi);(try clear ho0);obtain ⟨aE,aF,aG⟩:=Kd.R_slice af.out;subst aG)|((with_reducible refine gc 55 rfl ?_);refine gl (some 29) _ (#[.agg #[.slice aE a8.length aF],.int .i64 a2]) Tryd.func55 ?_;(with_reducible refine (spec_l9Dir.calls aa _ _ a8 a2 a9 _ ?side1 ?side2 A23.out).mono ?_);(case side1=>repeat (first|exact (Kd.R_reads' af.out).2.2|(with_reducible refine Kd.C_alloc ?_ _)|(with_reducible refine Kd.C_drewN ?_ _)|(with_reducible refine Kd.C_drew ?_)));(case side2=>exact (Kd.R_reads' af.out).2.1);rintro e w27 ⟨rfl,hb⟩;refine ⟨_,rfl,?_⟩;refine Ya3 (Kd.R_below (kr af.out) hb) (bb a4 hb) (below_step (bf HB.out) hb) ?_;clear af a4 HB;intro af a4 HB;(try clear hb);(try clear hb2);(try clear hk);(try clear hi)))
     go_ret
     exact ⟨Ye2,(bf HB.out)⟩

end Go.Proofs.YtkmfnmeilooogaaDoor.P


namespace Go.Proofs.YtkmfnmeilooogaaDoor.P
open Go.RowKit Go.Proofs.YtkmfnmeilooogaaDoorW.PrintWords Go.Proofs.YtkmfnmeilooogaaDoorW.PrintLast Go.Proofs.YtkmfnmeilooogaaDoorW.PrintMore
attribute [local go_sem] max2_int min2_int max_two min_two max_three min_three max_four min_four
set_option linter.unusedVariables false
set_option linter.unusedSimpArgs false

def spec_TreeSum.f (k:Nat) (a2:List (S34)) (a1:Int):Option (ByteArray):=(spec_l9Good.f k a2 a1).bind fun a8=>(if a8=true then ((spec_l9Dir.f k a2 a1).bind fun a4=>((spec_Sum.f k a4 a1).bind fun a5=>(some a5))) else (some (⟨#[]⟩:ByteArray)))
theorem spec_TreeSum.mono:∀ a0 a1 k,LeO (spec_TreeSum.f k a0 a1) (spec_TreeSum.f (k+1) a0 a1):=by
 intro a0 a1 k
 unfold spec_TreeSum.f
 repeat' first
   | (with_reducible exact spec_Sum.mono _ _ _)
   | (with_reducible exact spec_l9Dir.mono _ _ _)
   | (with_reducible exact spec_l9Good.mono _ _ _)
   | (with_reducible exact LeO.refl _)
   | (with_reducible exact LeO.none _)
   | (with_reducible refine LeO.ite ?_ ?_)
   | (with_reducible refine LeO.bind ?_ (fun _ => ?_))
   | exact spec_Sum.mono _ _ _
   | exact spec_l9Dir.mono _ _ _
   | exact spec_l9Good.mono _ _ _
   | exact LeO.none _
   | refine LeO.ite ?_ ?_
   | refine LeO.bind ?_ (fun _ => ?_)
set_option maxHeartbeats 8000000 in
set_option maxRecDepth 100000 in
theorem spec_TreeSum.calls (k:Nat) (a6:Option Addr) (a7:Nat) (a2:List (S34)) (a1:Int) (r:ByteArray) (w:World) (ab:Kd.C k34 w a6 a2.length a2) (ac:a2.length≤a7) (h:spec_TreeSum.f k a2 a1=some r) :
  Calls Tryd.prog 18 #[.agg #[.slice a6 a2.length a7],.int .i64 a1] w fun e w'=>e = .returned (.string r)∧Below w.heap.size w w':=by
 have hu50:=Tryd.underlying50;have a9:=Aside0.mk ab;have aa:=Aside0.mk ac;clear ab ac;have HB:=Aside0.mk (Below.refl w.heap.size w);have H:((spec_l9Good.f k a2 a1).bind fun a8=>(if a8=true then ((spec_l9Dir.f k a2 a1).bind fun a4=>((spec_Sum.f k a4 a1).bind fun a5=>(some a5))) else (some (⟨#[]⟩:ByteArray))))=some r:=h;clear h;replace H:=Option.bind_eq_some_iff.mp H;obtain ⟨a8,A30,H⟩:=H;replace H:(if a8=true then ((spec_l9Dir.f k a2 a1).bind fun a4=>((spec_Sum.f k a4 a1).bind fun a5=>(some a5))) else (some (⟨#[]⟩:ByteArray)))=some r:=H;have A3:=Aside0.mk A30;clear A30
 by_cases c4:a8=true
 ·subst c4
  have H1:((spec_l9Dir.f k a2 a1).bind fun a4=>((spec_Sum.f k a4 a1).bind fun a5=>(some a5)))=some r:=by rw [if_pos rfl] at H;exact H
  clear H;have H:=H1;clear H1;replace H:=Option.bind_eq_some_iff.mp H;obtain ⟨a4,A50,H⟩:=H;replace H:((spec_Sum.f k a4 a1).bind fun a5=>(some a5))=some r:=H;have A5:=Aside0.mk A50;clear A50;replace H:=Option.bind_eq_some_iff.mp H;obtain ⟨a5,A60,H⟩:=H;replace H:(some a5)=some r:=H;have A6:=Aside0.mk A60;clear A60;obtain rfl:=Option.some.inj H
  go_enter Tryd.func18,Tryd.ntmps18
  go_wp2_with (first|((with_reducible refine gd 2 rfl ?_);refine bx 2 50 (#[.slice a6 a2.length a7]) ?_;intro ad hg w7 hbox hb;refine Ya4 (below_step (be HB.out) hb) (hbox) (bs hg (be HB.out)) (bs hg (be HB.out)) ?_;clear HB;intro HB a3 ae af;clear hb hbox hg;have ⟨ag,ah⟩:=Yc1 a3.out)|((with_reducible refine gc 54 rfl ?_);refine gl (some 7) _ (#[.agg #[.slice a6 a2.length a7],.int .i64 a1]) Tryd.func54 ?_;(with_reducible refine (spec_l9Good.calls k _ _ a2 a1 true _ ?side1 ?side2 A3.out).mono ?_);(case side1=>exact cb (Kd.C_below a9.out HB.out));(case side2=>exact aa.out);rintro e w9 ⟨rfl,hb⟩;refine ⟨_,rfl,?_⟩;refine Ya2 (bb a3 hb) (below_step (bf HB.out) hb) ?_;clear a3 HB;intro a3 HB;(try clear hb);(try clear hb2);(try clear hk);(try clear hi);have ⟨ai,aj⟩:=Yc1 a3.out)|((with_reducible refine gc 55 rfl ?_);refine gl (some 11) _ (#[.agg #[.slice a6 a2.length a7],.int .i64 a1]) Tryd.func55 ?_;(with_reducible refine (spec_l9Dir.calls k _ _ a2 a1 a4 _ ?side1 ?side2 A5.out).mono ?_);(case side1=>exact cb (Kd.C_below a9.out HB.out));(case side2=>exact aa.out);rintro e w11 ⟨rfl,hb⟩;refine ⟨_,rfl,?_⟩;refine Ya2 (bb a3 hb) (below_step (bf HB.out) hb) ?_;clear a3 HB;intro a3 HB;(try clear hb);(try clear hb2);(try clear hk);(try clear hi))|((with_reducible refine gc 41 rfl ?_);refine gl (some 13) _ (#[.string a4,.int .i64 a1]) Tryd.func41 ?_;(with_reducible refine (spec_Sum.calls k a4 a1 a5 _ A6.out).mono ?_);rintro e w12 ⟨rfl,hb⟩;refine ⟨_,rfl,?_⟩;refine Ya2 (bb a3 hb) (below_step (bf HB.out) hb) ?_;clear a3 HB;intro a3 HB;(try clear hb);(try clear hb2);(try clear hk);(try clear hi)))
  go_ret
  exact ⟨Ye2,(bf HB.out)⟩
 ·replace c4:=Bool.eq_false_iff.mpr c4;subst c4
  have H1:(some (⟨#[]⟩:ByteArray))=some r:=by rw [if_neg (show ¬(false=true) by decide)] at H;exact H
  clear H;have H:=H1;clear H1;obtain rfl:=Option.some.inj H
  go_enter Tryd.func18,Tryd.ntmps18
  go_wp2_with (first|((with_reducible refine gd 2 rfl ?_);refine bx 2 50 (#[.slice a6 a2.length a7]) ?_;intro ad hg w13 hbox hb;refine Ya4 (below_step (be HB.out) hb) (hbox) (bs hg (be HB.out)) (bs hg (be HB.out)) ?_;clear HB;intro HB a3 ae af;clear hb hbox hg;have ⟨ak,al⟩:=Yc1 a3.out)|((with_reducible refine gc 54 rfl ?_);refine gl (some 7) _ (#[.agg #[.slice a6 a2.length a7],.int .i64 a1]) Tryd.func54 ?_;(with_reducible refine (spec_l9Good.calls k _ _ a2 a1 false _ ?side1 ?side2 A3.out).mono ?_);(case side1=>exact cb (Kd.C_below a9.out HB.out));(case side2=>exact aa.out);rintro e w15 ⟨rfl,hb⟩;refine ⟨_,rfl,?_⟩;refine Ya2 (bb a3 hb) (below_step (bf HB.out) hb) ?_;clear a3 HB;intro a3 HB;(try clear hb);(try clear hb2);(try clear hk);(try clear hi)))
  go_ret
  exact ⟨Ye2,(bf HB.out)⟩

end Go.Proofs.YtkmfnmeilooogaaDoor.P

