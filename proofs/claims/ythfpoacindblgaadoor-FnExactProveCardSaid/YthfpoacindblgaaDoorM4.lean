/- Several texts of this claim in one file: YthfpoacindblgaaDoorPImplKeysString, YthfpoacindblgaaDoorPStringsliteHasPrefix, YthfpoacindblgaaDoorPStringsHasPrefix, YthfpoacindblgaaDoorPImplOver, YthfpoacindblgaaDoorPImplIn, YthfpoacindblgaaDoorPImplSum, YthfpoacindblgaaDoorPImplGoodPart, YthfpoacindblgaaDoorPStringsSplit, YthfpoacindblgaaDoorPImplParts, YthfpoacindblgaaDoorPImplValidPath, YthfpoacindblgaaDoorPImplGoodEntry, YthfpoacindblgaaDoorPImplValidTree, YthfpoacindblgaaDoorPSpecL5Begins, YthfpoacindblgaaDoorPSpecL1In, YthfpoacindblgaaDoorPSpecL4PartOk, YthfpoacindblgaaDoorPSpecL4Parts, YthfpoacindblgaaDoorPSpecL4Ok, YthfpoacindblgaaDoorPSpecValidPath, YthfpoacindblgaaDoorPSpecValidTree, YthfpoacindblgaaDoorPSpecSum, YthfpoacindblgaaDoorPImplFind, YthfpoacindblgaaDoorPLawsMarkText, YthfpoacindblgaaDoorPLawsHeldStringS, YthfpoacindblgaaDoorPLawsHeldProof, YthfpoacindblgaaDoorPLawsMarkStringS, YthfpoacindblgaaDoorPLawsMarkProof, YthfpoacindblgaaDoorPLawsMarkEntryS, YthfpoacindblgaaDoorPLawsMarkTree, YthfpoacindblgaaDoorPLawsString, YthfpoacindblgaaDoorPLawsProof. -/
import Derived.Test.YthfpoacindblgaaDoorM2
import Derived.Test.YthfpoacindblgaaDoorM3
import Derived.Shelf.Sort.Plain
import Derived.Shelf.Slices.In.SortNone2
import Derived.Sort.OwnSorted
import Derived.Lib.SplitLaws
import Derived.Deep.QuietTactic
namespace Go.Proofs.YthfpoacindblgaaDoor.P
open Go.RowKit Go.Proofs.YthfpoacindblgaaDoorW.PrintWords Go.Proofs.YthfpoacindblgaaDoorW.PrintLast Go.Proofs.YthfpoacindblgaaDoorW.PrintMore
attribute [local go_sem] max2_int min2_int max_two min_two max_three min_three max_four min_four
set_option linter.unusedVariables false
set_option linter.unusedSimpArgs false

/- Walked by hand (written by wip/tools/mkkeys.py). -/
open Go.Proofs.YthfpoacindblgaaDoor.Pure
set_option maxHeartbeats 4000000 in
set_option maxRecDepth 100000 in
theorem keysString_calls {α:Type} (enc:α→Value) (Ms:List (Nat×List (ByteArray×α))) (ad:Addr) (c:Nat) (w:World) (hc:∀ i,(h:i<Ms.length)→w.cell? (ad.add i)=some (.map (some Ms[i].1))) (hM:∀ i,(h:i<Ms.length)→MapAt enc w Ms[i].1 Ms[i].2) (hn:Ms.length≤1000) (hl:sizeK Ms≤1000000) :
  Calls Tryd.prog 46 #[.slice (some ad) Ms.length c] w fun e w' => ∃ v,e = .returned v∧Kd.R Kd.string 9 w' w.heap.size (fun _=>True) v (keysS (allK Ms))∧Below w.heap.size w w':=by
 have HC:=Aside0.mk hc
 have HMM:=Aside0.mk hM
 have HL:=Aside0.mk hl
 have HN:=Aside0.mk hn
 have HB:=Aside0.mk (Below.refl w.heap.size w)
 clear hc hM hl hn
 go_enter Tryd.func46,Tryd.ntmps46
 go_wp2_with ((with_reducible refine gd 9 rfl ?_);refine wpList_make_M Value.bool _ rfl _ rfl ?_;intro bs w2 hg hM hb;refine Ya3 hM (below_step (be HB.out) hb) (bs_ hg (be HB.out)) ?_;clear HB;intro HS HB GS;clear hM hb hg)
 go_loopg [12] (Ms.length) (fun kq v12 w' => ∃ (i:Nat) (S:List (ByteArray×Bool)),v12 = .int .i64 (i:Int)∧Aside0 (kq+i=Ms.length)∧Aside0 (MapAt Value.bool w' bs S)∧Aside0 (∀ x,x ∈ S.map (·.1) ↔ x ∈ allK (Ms.take i))∧Aside0 (S.length≤sizeK (Ms.take i))∧Aside0 (Below w.heap.size w w'))
 case atStart=>exact ⟨0,[],rfl,⟨by omega⟩,HS,⟨fun x=>by simp [allK]⟩,⟨by simp⟩,HB⟩
 case round =>
  clear HS HB
  obtain ⟨i,S,rfl,HK,HS,HV,HZ,HB⟩:=hrel
  have hik:=HK.out
  by_cases hi:i<Ms.length
  ·obtain ⟨go,rfl⟩:∃ g,gk=g+1:=⟨gk - 1,by omega⟩
   have c1:decide ((i:Int)<(Ms.length:Int))=true:=decide_eq_true (by omega)
   have c2:decide (0≤(i:Int))=true:=decide_eq_true (by omega)
   have c3:decide (i<Ms.length)=true:=decide_eq_true hi
   have hx1:wr.cell? (ad.add i)=some (.map (some Ms[i].1)):=(HB.out.cell (World.block_lt_of_cell? w _ (HC.out i hi))).trans (HC.out i hi)
   have HMi:=Aside0.mk ((HMM.out i hi).below HB.out (HMM.out i hi).lt)
   have HLo:=Aside0.mk (HMM.out i hi).lt
   have HT:=Aside0.mk (take_more Ms i hi)
   generalize Ms[i]=bM at hx1 HMi HT HLo
   obtain ⟨bm,M⟩:=bM
   have HSL:=Aside0.mk HS.out.lt
   go_wp2_with (at_range;refine wpList_range_M (enc:=enc) _ rfl _ 70 rfl 9 9 Tryd.underlying70 bm M rfl HMi.out ?_;intro r w3 hr hR hg;have hrs:=below_size HB.out;refine Ya5 hR (HS.out.kept hg (by simp)) (below_none HB.out hg) (show w.heap.size≤r from by omega) (show r≠bs∧bm≠bs from by have:=HSL.out;have:=GS.out;have:=HLo.out;exact ⟨by omega,by simp only at this;omega⟩) ?_;have HS0:=Aside0.mk HZ.out;clear HS HB;intro HR HS HB GR NE;clear hR hr hg hrs)
   (try go_frame)
   go_loopg [6] (M.length) (fun kq v6 w' => ∃ (L:List (ByteArray×α)) (S':List (ByteArray×Bool)),Aside0 (kq=L.length)∧Aside0 (RngAt enc w' bm r M L)∧Aside0 (MapAt Value.bool w' bs S')∧Aside0 (∀ x,x ∈ S'.map (·.1) ↔ x ∈ S.map (·.1)∨(x ∈ M.map (·.1)∧x ∉ L.map (·.1)))∧Aside0 (S'.length+L.length≤S.length+M.length)∧Aside0 (Below w.heap.size w w'))
   case atStart=>exact ⟨M,S,⟨rfl⟩,HR,HS,⟨fun x=>⟨fun h => .inl h,fun h=>h.elim id (fun h=>absurd h.1 h.2)⟩⟩,⟨Nat.le_refl _⟩,HB⟩
   case round =>
    clear HR HS HB hx1
    obtain ⟨L,S',HK2,HR,HS2,HV2,HZ2,HB⟩:=hrel
    go_wp2_with (at_next;refine wpList_next_M (enc:=enc) _ rfl _ rfl bm r M L rfl HR.out ?_ ?_)
    ·intro hL0
     subst hL0
     go_wp2
     go_roundg go
     case measure=>omega
     case rel=>exact ⟨i+1,S',by rw [show wrap64 ((i:Int)+1)=((i+1:Nat):Int) from by have:=HN.out;unfold wrap64;omega],⟨by omega⟩,HS2,⟨fun x=>by
      rw [HV2.out x,HV.out x,HT.out.1]
      simp⟩,⟨by have:=HZ2.out;have:=HZ.out;have:=HT.out.2;simp only [List.length_nil] at *; omega⟩,HB⟩
    ·intro w5 cm
     obtain ⟨L1,pk,px,L2,hL,hR2,hg2,hen⟩:=cm
     dsimp only
     subst hL
     have HG2:=Aside0.mk hg2
     have HR2:=Aside0.mk hR2
     have HKK:=Aside0.mk (show pk ∈ M.map (·.1)∧pk ∉ (L1++L2).map (·.1) from by
      have hk:=HR.out.keys
      refine ⟨hk.subset (by simp),?_⟩
      have hnd:=(hk.nodup HR.out.map.nodup)
      simp only [List.map_append,List.map_cons] at hnd ⊢
      exact nodup_mid hnd)
     clear hg2 hR2
     go_wp2_with (at_mapUpdate;refine wpList_store_M (enc:=Value.bool) _ rfl _ _ _ 85 rfl 9 4 Tryd.underlying85 Tryd.underlying9 bs S' rfl (HS2.out.kept HG2.out (ne_some (Ne.symm NE.out.1))) pk rfl true rfl ?_;intro w6 hS3 hg3 hs3;have HS3:=Aside0.mk hS3;have HG3:=Aside0.mk hg3;clear hS3 hg3 hs3)
     go_roundg (gk - 1)
     case measure=>have:=HK2.out;simp only [List.length_append,List.length_cons] at this;omega
     case rel=>exact ⟨L1++L2,_,⟨by have:=HK2.out;simp only [List.length_append,List.length_cons] at this ⊢; omega⟩,⟨HR2.out.kept HG3.out (ne_some NE.out.2) (ne_some NE.out.1)⟩,HS3,⟨fun x=>by
      rw [mput_map,HV2.out x]
      exact collect_step (p:=(pk,px)) HKK.out.1 HKK.out.2 x⟩,⟨by have:=HZ2.out;have:=mput_len pk true S';simp only [List.length_append,List.length_cons] at *; omega⟩,⟨below_own (below_own HB.out HG2.out GR.out) HG3.out GS.out⟩⟩
  ·have c1:decide ((i:Int)<(Ms.length:Int))=false:=decide_eq_false (by omega)
   have c3:decide (i<Ms.length)=false:=decide_eq_false hi
   obtain rfl:i=Ms.length:=by omega
   have HV':=Aside0.mk HV.out
   rw [List.take_length] at HV'
   have HZ':=Aside0.mk HZ.out
   rw [List.take_length] at HZ'
   clear HV HZ
   have HSL:=Aside0.mk HS.out.lt
   go_wp2_with (at_range;refine wpList_range_M (enc:=Value.bool) _ rfl _ 85 rfl 9 4 Tryd.underlying85 bs S rfl HS.out ?_;intro r w3 hr hR hg;have hrs:=below_size HB.out;refine Ya4 hR (below_none HB.out hg) (show w.heap.size≤r from by omega) (show bs≠r from by have:=HSL.out;omega) ?_;clear HS HB;intro HR HB GR NE;clear hR hr hg hrs)
   (try go_frame)
   go_loopg [7] (S.length) (fun kq v7 w' => ∃ (L:List (ByteArray×Bool)) (out:List ByteArray) (vo:Value),vo=v7∧Aside0 (kq=L.length)∧Aside0 (RngAt Value.bool w' bs r S L)∧Aside0 (Kd.R Kd.string 9 w' w.heap.size (fun k=>k≠bs∧k≠r) vo out)∧Aside0 ((out++L.map (·.1)).Perm (S.map (·.1)))∧Aside0 (Below w.heap.size w w'))
   case atStart=>exact ⟨S,[],_,rfl,⟨rfl⟩,HR,⟨Kd.R_nil _ _ _ _ _⟩,⟨by rw [List.nil_append]⟩,HB⟩
   case round =>
    clear HR HB
    obtain ⟨L,out,vo,rfl,HK2,HR,HO,HP,HB⟩:=hrel
    have HOL:=Aside0.mk (show out.length+L.length=S.length from by have:=HP.out.length_eq;simpa using this)
    go_wp2_with (at_next;refine wpList_next_M (enc:=Value.bool) _ rfl _ rfl bs r S L rfl HR.out ?_ ?_)
    ·intro hL0
     subst hL0
     have HPP:=Aside0.mk (show out.Perm (S.map (·.1)) from by have:=HP.out;simpa using this)
     have HND:=Aside0.mk (HPP.out.nodup_iff.2 HR.out.map.nodup)
     have HXX:=Aside0.mk (sorted_keys out (allK Ms) HND.out (fun x=>(HPP.out.mem_iff).trans (HV'.out x)))
     have HLL:=Aside0.mk (show out.length≤1000000 from by have:=HOL.out;have:=HZ'.out;have:=HL.out;simp only [List.length_nil] at *; omega)
     clear HP HPP HND HOL HK2
     obtain ⟨A,cp,hv⟩:=Kd.R_slice HO.out
     by_cases h0:out.length=0
     ·have hk0:keysS (allK Ms) = []:=by
       have:=HXX.out
       rw [List.length_eq_zero_iff.1 h0] at this
       simpa using this.symm
      have HO':=Aside0.mk (show Kd.R Kd.string 9 wr w.heap.size (fun _=>True) vo (keysS (allK Ms)) from by rw [hk0,←List.length_eq_zero_iff.1 h0];exact Kd.R_mono HO.out (fun _ _=>trivial))
      have HV0:=Aside0.mk hv
      rw [h0] at hv
      subst hv
      have hs:∀ W,Calls Tryd.prog 59 #[.slice A 0 cp] W fun e w'=>e = .returned (.tuple #[])∧w'=W:=fun W=>Tryd.sort_Strings_none A cp W
      clear hk0 h0 HV0
      have HSN:=Aside0.mk hs
      clear hs
      go_wp2_with (go_at_call 59;(with_reducible refine (HSN.out _).mono ?_);rintro e w' ⟨rfl,rfl⟩)
      go_ret
      exact ⟨_,rfl,HO'.out,HB.out⟩
     ·obtain ⟨g,cap,hv2,hbase,hlt,cells,hcell⟩:=Kd.R_form HO.out (by omega)
      have hown:=strs_opened HO.out
      rcases hown.2 with ⟨hnil,hnl⟩|⟨g',cap',cur,hv3,hb1,hb2,hb3,hb4,hb5,hb6⟩
      ·exact absurd hnl h0
      rw [hv3] at hv2
      injection hv2 with ha _ hcp
      injection ha with ha
      injection ha with ha
      subst ha
      subst hcp
      have hH:Go.Sort.Holds Go.Proofs.encStr wr g' 0 (out.map fun k=>k.data.toList).toArray:=holds_of_block hb2 (by
       rw [List.length_map,List.map_map]
       rw [Nat.mul_one] at hb6
       rw [hb6]
       exact List.map_congr_left (fun k _=>by simp))
      have hz:(out.map fun k=>k.data.toList).length<4611686018427387904:=Nat.lt_of_le_of_lt (Nat.le_of_eq (List.length_map _)) (Nat.lt_of_le_of_lt HLL.out (by decide))
      have hgb:=blk_lt hb2
      have hso:=Tryd.sort_Strings g' 0 cap' (out.map fun k=>k.data.toList) wr hH hgb hz
      rw [HXX.out,List.length_map] at hso
      have hlen:(keysS (allK Ms)).length=out.length:=by
       have:=congrArg List.length HXX.out
       simpa using this.symm
      have HFIN:=Aside0.mk (fun (nn:Nat) (os:Array Obj)=>strs_closed (w:=wr) (n:=nn) (os:=os) (l:=out) (ks:=keysS (allK Ms)) hlen hb1 hb2 hb3 hb4 (by omega))
      have HSO:=Aside0.mk hso
      have HGB:=Aside0.mk hb1
      subst hv3
      clear hz hgb
      clear hv hso hH hlen hb1 hb2 hb3 hb4 hb5 hb6 hown hcell hlt hbase h0
      go_wp2_with (go_at_call 59;(with_reducible refine HSO.out.mono ?_);rintro e w' ⟨rfl,nn,os,rfl⟩)
      go_ret
      exact ⟨_,rfl,(HFIN.out nn os).1,pw_below_grown HB.out _ HB.out.size (HFIN.out nn os).2 (fun k e=>by cases e;exact HGB.out)⟩
    ·intro w5 cm
     obtain ⟨L1,pk,px,L2,hL,hR2,hg2,hen⟩:=cm
     dsimp only
     subst hL
     have HB2:=Aside0.mk (below_own HB.out hg2 GR.out)
     have HO2:=Aside0.mk (Kd.R_grown HO.out hg2 (fun k hk e=>hk.2 (Option.some.inj e)))
     have HR2:=Aside0.mk hR2
     have HLB:=Aside0.mk (show bs<w5.heap.size∧r<w5.heap.size from ⟨hR2.map.lt,hR2.lt⟩)
     have HOZ:=Aside0.mk (show (out.length+1)*16≤140737488355328 from by have:=HOL.out;have:=HZ'.out;have:=HL.out;simp only [List.length_append,List.length_cons] at *; omega)
     clear hg2 hR2
     go_wp2_with (first|((with_reducible refine gate_builtin (b:=.append) (xs:=#[.tmp 31,.tmp 33]) rfl ?_);at_builtin;refine Kd.R_append Kd.string (w0:=w) w.heap.size rfl (.tmp 31) (.tmp 33) 26 9 (.string ⟨#[]⟩) 16 rfl Tryd.underlying26 info9 rfl (by decide) (by omega) vo out pk [.string pk] (fun k=>k≠bs∧k≠r) (fun _=>False) rfl rfl rfl (fun _ hk=>hk.elim) (fun k hk=>by have:=HLB.out;constructor <;> omega) HO2.out HB2.out (below_size HB2.out) HOZ.out ?_;intro v1 w6 ho hb hg hat;have HO3:=Aside0.mk ho;have HB3:=Aside0.mk hb;have HR3:=Aside0.mk (HR2.out.kept hg (fun e=>(HO2.out.1 _ e.symm).1 rfl) (fun e=>(HO2.out.1 _ e.symm).2 rfl));clear ho hb hg hat))
     go_roundg (gk - 1)
     case measure=>have:=HK2.out;simp only [List.length_append,List.length_cons] at this;omega
     case rel=>exact ⟨L1++L2,out ++ [pk],_,rfl,⟨by have:=HK2.out;simp only [List.length_append,List.length_cons] at this ⊢; omega⟩,HR3,HO3,⟨by
      refine List.Perm.trans ?_ HP.out
      simp only [List.map_append,List.map_cons,List.append_assoc,List.singleton_append]
      exact List.Perm.append_left out List.perm_middle.symm⟩,HB3⟩


end Go.Proofs.YthfpoacindblgaaDoor.P


namespace Go.Proofs.YthfpoacindblgaaDoor.P
open Go.RowKit Go.Proofs.YthfpoacindblgaaDoorW.PrintWords Go.Proofs.YthfpoacindblgaaDoorW.PrintLast Go.Proofs.YthfpoacindblgaaDoorW.PrintMore
attribute [local go_sem] max2_int min2_int max_two min_two max_three min_three max_four min_four
set_option linter.unusedVariables false
set_option linter.unusedSimpArgs false

def stringslite_HasPrefix.f (a0:ByteArray) (a1:ByteArray):Option (Bool):=if (a0.size:Int) ≥ (a1.size:Int) then (if 0≤(a1.size:Int) then (if (a1.size:Int)≤(a0.size:Int) then (some ((a0.extract 0 ((a1.size:Int):Int).toNat).toList==a1.toList)) else (none)) else (none)) else (some false)
set_option maxHeartbeats 8000000 in
set_option maxRecDepth 100000 in
theorem stringslite_HasPrefix.calls (a0:ByteArray) (a1:ByteArray) (r:Bool) (w:World) (h:stringslite_HasPrefix.f a0 a1=some r) :
  Calls Tryd.prog 61 #[.string a0,.string a1] w fun e w'=>e = .returned (.bool r)∧Drawn0 w w':=by
 have H:(if (a0.size:Int) ≥ (a1.size:Int) then (if 0≤(a1.size:Int) then (if (a1.size:Int)≤(a0.size:Int) then (some ((a0.extract 0 ((a1.size:Int):Int).toNat).toList==a1.toList)) else (none)) else (none)) else (some false))=some r:=h;clear h
 by_cases c3:(a0.size:Int) ≥ (a1.size:Int)
 ·rw [if_pos c3] at H
  have a2:decide ((a1.size:Int)≤(a0.size:Int))=true:=decide_eq_true c3;have a3:decide (a1.size≤a0.size)=true:=decide_eq_true (Int.ofNat_le.mp c3);clear c3
  by_cases c4:0≤(a1.size:Int)
  ·rw [if_pos c4] at H
   have c4b0:=eq_true c4;have c4b1:decide (0≤(a1.size:Int))=true:=decide_eq_true c4;clear c4
   by_cases c5:(a1.size:Int)≤(a0.size:Int)
   ·rw [if_pos c5] at H
    have c5b0:=eq_true c5;have c5b1:decide ((a1.size:Int)≤(a0.size:Int))=true:=decide_eq_true c5;clear c5;obtain rfl:=Option.some.inj H
    go_enter Tryd.func61,Tryd.ntmps61
    go_wp2
    go_ret
    exact ⟨Ye1,dz⟩
   ·rw [if_neg c5] at H
    exact absurd H (by simp)
  ·rw [if_neg c4] at H
   exact absurd H (by simp)
 ·rw [if_neg c3] at H
  have a2:decide ((a1.size:Int)≤(a0.size:Int))=false:=decide_eq_false c3;have a3:decide (a1.size≤a0.size)=false:=decide_eq_false (fun h=>c3 (Int.ofNat_le.mpr h));clear c3;obtain rfl:=Option.some.inj H
  go_enter Tryd.func61,Tryd.ntmps61
  go_wp2
  go_ret
  exact ⟨Ye1,dz⟩

end Go.Proofs.YthfpoacindblgaaDoor.P


namespace Go.Proofs.YthfpoacindblgaaDoor.P
open Go.RowKit Go.Proofs.YthfpoacindblgaaDoorW.PrintWords Go.Proofs.YthfpoacindblgaaDoorW.PrintLast Go.Proofs.YthfpoacindblgaaDoorW.PrintMore
attribute [local go_sem] max2_int min2_int max_two min_two max_three min_three max_four min_four
set_option linter.unusedVariables false
set_option linter.unusedSimpArgs false

def strings_HasPrefix.f (a0:ByteArray) (a1:ByteArray):Option (Bool):=(stringslite_HasPrefix.f a0 a1).bind fun a2=>(some a2)
set_option maxHeartbeats 8000000 in
set_option maxRecDepth 100000 in
theorem strings_HasPrefix.calls (a0:ByteArray) (a1:ByteArray) (r:Bool) (w:World) (h:strings_HasPrefix.f a0 a1=some r) :
  Calls Tryd.prog 53 #[.string a0,.string a1] w fun e w'=>e = .returned (.bool r)∧Drawn0 w w':=by
 have H:((stringslite_HasPrefix.f a0 a1).bind fun a2=>(some a2))=some r:=h;clear h;replace H:=Option.bind_eq_some_iff.mp H;obtain ⟨a2,A30,H⟩:=H;(try dsimp only at H);have A3:=Aside0.mk A30;clear A30;obtain rfl:=Option.some.inj H
 go_enter Tryd.func53,Tryd.ntmps53
 go_wp2_with (first|((with_reducible refine gc 61 rfl ?_);refine gl (some 7) _ (#[.string a0,.string a1]) Tryd.func61 ?_;(with_reducible refine (stringslite_HasPrefix.calls a0 a1 a2 _ A3.out).mono ?_);rintro e w' ⟨rfl,⟨nd,rfl⟩⟩;refine ⟨_,rfl,?_⟩))
 go_ret
 exact ⟨Ye1,dz⟩

end Go.Proofs.YthfpoacindblgaaDoor.P


namespace Go.Proofs.YthfpoacindblgaaDoor.P
open Go.RowKit Go.Proofs.YthfpoacindblgaaDoorW.PrintWords Go.Proofs.YthfpoacindblgaaDoorW.PrintLast Go.Proofs.YthfpoacindblgaaDoorW.PrintMore
attribute [local go_sem] max2_int min2_int max_two min_two max_three min_three max_four min_four
set_option linter.unusedVariables false
set_option linter.unusedSimpArgs false

def impl_over.f (a0:ByteArray) (a1:ByteArray):Option (Bool):=if a0.size+1≤9223372036854775807 then ((strings_HasPrefix.f a1 (a0++(⟨#[47]⟩:ByteArray))).bind fun a2=>(some a2)) else (none)
set_option maxHeartbeats 8000000 in
set_option maxRecDepth 100000 in
theorem impl_over.calls (a0:ByteArray) (a1:ByteArray) (r:Bool) (w:World) (h:impl_over.f a0 a1=some r) :
  Calls Tryd.prog 41 #[.string a0,.string a1] w fun e w'=>e = .returned (.bool r)∧Drawn0 w w':=by
 have H:(if a0.size+1≤9223372036854775807 then ((strings_HasPrefix.f a1 (a0++(⟨#[47]⟩:ByteArray))).bind fun a2=>(some a2)) else (none))=some r:=h;clear h
 by_cases c3:a0.size+1≤9223372036854775807
 ·rw [if_pos c3] at H
  have c3b0:=eq_true c3;have c3b1:decide (a0.size+1≤9223372036854775807)=true:=decide_eq_true c3
  try have c3b2:(9223372036854775807<a0.size+1)=False:=eq_false (Nat.not_lt.2 c3)
  replace H:=Option.bind_eq_some_iff.mp H;obtain ⟨a2,A40,H⟩:=H;(try dsimp only at H);have A4:=Aside0.mk A40;clear A40;obtain rfl:=Option.some.inj H
  go_enter Tryd.func41,Tryd.ntmps41
  go_wp2_with (first|((with_reducible refine gc 53 rfl ?_);refine gl (some 8) _ (#[.string a1,.string (a0++(⟨#[47]⟩:ByteArray))]) Tryd.func53 ?_;(with_reducible refine (strings_HasPrefix.calls a1 (a0++(⟨#[47]⟩:ByteArray)) a2 _ A4.out).mono ?_);rintro e w' ⟨rfl,⟨nd,rfl⟩⟩;refine ⟨_,rfl,?_⟩))
  go_ret
  exact ⟨Ye1,dz⟩
 ·rw [if_neg c3] at H
  exact absurd H (by simp)


end Go.Proofs.YthfpoacindblgaaDoor.P


namespace Go.Proofs.YthfpoacindblgaaDoor.P
open Go.RowKit Go.Proofs.YthfpoacindblgaaDoorW.PrintWords Go.Proofs.YthfpoacindblgaaDoorW.PrintLast Go.Proofs.YthfpoacindblgaaDoorW.PrintMore
attribute [local go_sem] max2_int min2_int max_two min_two max_three min_three max_four min_four
set_option linter.unusedVariables false
set_option linter.unusedSimpArgs false

def impl_in.f (a0:Int) (a1:Int) (a2:Int):Option (Bool):=if a0 ≥ a1 then (some (decide (a0≤a2))) else (some false)
set_option maxHeartbeats 8000000 in
set_option maxRecDepth 100000 in
theorem impl_in.calls (a0:Int) (a1:Int) (a2:Int) (r:Bool) (w:World) (h:impl_in.f a0 a1 a2=some r) :
  Calls Tryd.prog 23 #[.int .i64 a0,.int .i64 a1,.int .i64 a2] w fun e w'=>e = .returned (.bool r)∧Drawn0 w w':=by
 have H:(if a0 ≥ a1 then (some (decide (a0≤a2))) else (some false))=some r:=h;clear h
 by_cases c4:a0 ≥ a1
 ·rw [if_pos c4] at H
  have a3:decide (a1≤a0)=true:=decide_eq_true c4;clear c4;obtain rfl:=Option.some.inj H
  go_enter Tryd.func23,Tryd.ntmps23
  go_wp2
  go_ret
  exact ⟨Ye1,dz⟩
 ·rw [if_neg c4] at H
  have a3:decide (a1≤a0)=false:=decide_eq_false c4;clear c4;obtain rfl:=Option.some.inj H
  go_enter Tryd.func23,Tryd.ntmps23
  go_wp2
  go_ret
  exact ⟨Ye1,dz⟩

end Go.Proofs.YthfpoacindblgaaDoor.P


namespace Go.Proofs.YthfpoacindblgaaDoor.P
open Go.RowKit Go.Proofs.YthfpoacindblgaaDoorW.PrintWords Go.Proofs.YthfpoacindblgaaDoorW.PrintLast Go.Proofs.YthfpoacindblgaaDoorW.PrintMore
attribute [local go_sem] max2_int min2_int max_two min_two max_three min_three max_four min_four
set_option linter.unusedVariables false
set_option linter.unusedSimpArgs false

mutual
def impl_Sum.l0:Nat→ByteArray→Int→Int→Int→Option (ByteArray)
 | 0,_,_,_,_=>none
 | k+1,x0,x1,x5,x6=>if x6<(x0.size:Int) then (if 0≤x6 then (impl_Sum.l0 k x0 x1 (IntKind.u64.wrap ((Go.bits .xor .u64 x5 (IntKind.u64.wrap (bt x0 x6)))*1099511628211)) (wrap64 (x6+1))) else (none)) else (if 8≤281474976710656 then (impl_Sum.l1 k x1 x5 (List.replicate 8 0) 7) else (none))
def impl_Sum.l1:Nat→Int→Int→List Int→Int→Option (ByteArray)
 | 0,_,_,_,_=>none
 | k+1,x1,x5,x7,x8=>if x8 ≥ 0 then (if 0≤x8 then (if x8<(x7.length:Int) then (impl_Sum.l1 k x1 (x5 / 256) (x7.set (x8:Int).toNat ((x5) % 256)) (wrap64 (x8 - 1))) else (none)) else (none)) else (if 0≤(wrap64 (8 - x1)) then (if (wrap64 (8 - x1))≤(x7.length:Int) then (some (strOfNums (x7.drop ((wrap64 (8 - x1)):Int).toNat))) else (none)) else (none))
end
def impl_Sum.f (k:Nat) (a0:ByteArray) (a1:Int):Option (ByteArray):=(impl_in.f a1 1 8).bind fun a9=>(if a9=true then (impl_Sum.l0 k a0 a1 14695981039346656037 0) else (some (⟨#[]⟩:ByteArray)))
theorem impl_Sum.mono_l:∀ k,(∀ y0 y1 y2 y3,LeO (impl_Sum.l0 k y0 y1 y2 y3) (impl_Sum.l0 (k+1) y0 y1 y2 y3))∧(∀ y0 y1 y2 y3,LeO (impl_Sum.l1 k y0 y1 y2 y3) (impl_Sum.l1 (k+1) y0 y1 y2 y3))
 | 0=>⟨fun _ _ _ _ r h=>by simp [impl_Sum.l0] at h,fun _ _ _ _ r h=>by simp [impl_Sum.l1] at h⟩
 | k + 1 => by
  obtain ⟨ih0,ih1⟩:=impl_Sum.mono_l k;refine ⟨?_,?_⟩
  ·intro y0 y1 y2 y3
   unfold impl_Sum.l0
   exact mo2 ih0 ih1
  ·intro y0 y1 y2 y3
   unfold impl_Sum.l1
   exact mo2 ih0 ih1
theorem impl_Sum.mono:∀ a0 a1 k,LeO (impl_Sum.f k a0 a1) (impl_Sum.f (k+1) a0 a1):=by
 intro a0 a1 k;obtain ⟨ih0,ih1⟩:=impl_Sum.mono_l k
 unfold impl_Sum.f
 exact mo2 ih0 ih1
set_option maxHeartbeats 8000000 in
set_option maxRecDepth 100000 in
theorem impl_Sum.calls (k : Nat) (a0 : ByteArray) (a1 : Int) (r : ByteArray) (w : World) (h : impl_Sum.f k a0 a1 = some r) :
  Calls Tryd.prog 45 #[.string a0,.int .i64 a1] w fun e w'=>e = .returned (.string r)∧Below w.heap.size w w':=by
 have HB:=Aside0.mk (Below.refl w.heap.size w);have H:((impl_in.f a1 1 8).bind fun a9=>(if a9=true then (impl_Sum.l0 k a0 a1 14695981039346656037 0) else (some (⟨#[]⟩:ByteArray))))=some r:=h;clear h;replace H:=Option.bind_eq_some_iff.mp H;obtain ⟨a9,A30,H⟩:=H;(try dsimp only at H);have A3:=Aside0.mk A30;clear A30
 by_cases c4:a9=true
 ·subst c4
  rw [if_pos rfl] at H
  have H':=Aside0.mk H;clear H
  go_enter Tryd.func45,Tryd.ntmps45
  go_wp2_with (first|((with_reducible refine gc 23 rfl ?_);refine gl (some 10) _ (#[.int .i64 a1,.int .i64 1,.int .i64 8]) Tryd.func23 ?_;(with_reducible refine (impl_in.calls a1 1 8 true _ A3.out).mono ?_);rintro e w' ⟨rfl,⟨nd,rfl⟩⟩;refine ⟨_,rfl,?_⟩))
  go_loopg [5,6] k (fun kq v5 v6 w' => ∃ (aa:Int) (a5:Int),v5 = .int .u64 aa∧v6 = .int .i64 a5∧Aside0 (impl_Sum.l0 kq a0 a1 aa a5=some r)∧Aside0 (kq≤k)∧Aside0 (Below w.heap.size w w'))
  case atStart=>exact ⟨(14695981039346656037),(0),Ye1,Ye1,H',⟨Nat.le_refl _⟩,⟨be HB.out⟩⟩
  case round =>
   clear H';(try clear c2);(try clear p2);(try clear c4);obtain ⟨aa,a5,rfl,rfl,HA,HK1,HB⟩:=hrel
   cases gk with
   | zero=>exact absurd HA.out (by simp [impl_Sum.l0])
   | succ k1 =>
    have H:=HA.out;clear HA;simp only [impl_Sum.l0] at H
    by_cases c5:a5<(a0.size:Int)
    ·rw [if_pos c5] at H
     have aq:decide (a5<(a0.size:Int))=true:=decide_eq_true c5;clear c5
     by_cases c6:0≤a5
     ·rw [if_pos c6] at H
      have az:decide (0≤a5)=true:=decide_eq_true c6;clear c6;have H':=Aside0.mk H;clear H;have p7:0≤(a5:Int):=oda;have q7:a5<(a0.size:Int):=oda;have hx7:=bt_at a0 a5;replace p7:=eq_true p7;replace q7:=eq_true q7
      go_wp2
      go_roundg k1
      case measure=>have:=HK1.out;omega
      case rel=>exact ⟨(IntKind.u64.wrap ((Go.bits .xor .u64 aa (IntKind.u64.wrap (bt a0 a5)))*1099511628211)),(wrap64 (a5+1)),Ye1,Ye1,H',⟨by have:=HK1.out;omega⟩,⟨be HB.out⟩⟩
     ·rw [if_neg c6] at H
      exact absurd H (by simp)
    ·rw [if_neg c5] at H
     have aq:decide (a5<(a0.size:Int))=false:=decide_eq_false c5;clear c5
     by_cases c8:8≤281474976710656
     ·rw [if_pos c8] at H
      have aA:=eq_true c8;have aB:decide (8≤281474976710656)=true:=decide_eq_true c8;clear c8
      obtain ⟨aC,af⟩:∃ y_:List Int,y_=(List.replicate 8 0):=⟨_,rfl⟩
      (first|replace H:=bl_ af H|rw [←af] at H);(try dsimp only at H);have ar:=Aside0.mk af;clear af;have H':=Aside0.mk H;clear H
      go_wp2_with (first|((with_reducible refine gd 25 rfl ?_);refine Kd.R_make (Kd.int .u8) _ 5 rfl (N:=25) rfl 64 _ _ rfl 8 rfl rfl Tryd.underlying64 (.int .u8 0) 1 info5 rfl (by decide) (by omega) 0 (ok:=fun _=>True) (okp:=fun _=>True) rfl (fun _ hk=>hk) trivial (by omega) (by omega) (Below.refl _ _) (Nat.le_refl _) ?_;intro aD w9 ho10 hb hg_ hnew_;clear hg_ hnew_;(first|rw [←ar.out] at ho10|(simp only [Int.reduceToNat] at ho10;rw [←ar.out] at ho10));refine Ya2 (Kd.R_lower ho10 (below_size (be HB.out))) (below_step (be HB.out) hb) ?_;clear HB;intro aE HB;clear hb ho10))
      go_loopg [5,8] k1 (fun kq v5 v8 w' => ∃ (a7:Int) (a2:List Int) (a3:Int),v5 = .int .u64 a7∧v8 = .int .i64 a3∧Aside0 (impl_Sum.l1 kq a1 a7 a2 a3=some r)∧Aside0 (kq≤k1)∧Aside0 (Kd.R (Kd.int .u8) 5 w' w.heap.size (fun _=>True) aD a2)∧Aside0 (Below w.heap.size w w'))
      case atStart=>exact ⟨(aa),(aC),(7),Ye1,Ye1,H',⟨Nat.le_refl _⟩,⟨kr aE.out⟩,⟨be HB.out⟩⟩
      case round =>
       clear H';(try clear c2);(try clear p2);(try clear c4);(try clear c5);(try clear aq);(try clear c6);(try clear az);(try clear p6);(try clear p7);(try clear q7);(try clear hx7);(try clear c8);(try clear aA);(try clear aB);(try clear p2);(try clear p7);(try clear q7);obtain ⟨a7,a2,a3,rfl,rfl,HA,HK2,a6,HB⟩:=hrel
       cases gk with
       | zero=>exact absurd HA.out (by simp [impl_Sum.l1])
       | succ k2 =>
        have H:=HA.out;clear HA;simp only [impl_Sum.l1] at H
        by_cases a8:a3 ≥ 0
        ·rw [if_pos a8] at H
         have aF:decide (0≤a3)=true:=decide_eq_true a8;clear a8
         by_cases ag:0≤a3
         ·rw [if_pos ag] at H
          have c12b0:decide (0≤a3)=true:=decide_eq_true ag;clear ag
          by_cases ah:a3<(a2.length:Int)
          ·rw [if_pos ah] at H
           have c13b0:decide (a3<(a2.length:Int))=true:=decide_eq_true ah;clear ah
           obtain ⟨au,ai⟩:∃ y_:List Int,y_=(a2.set (a3:Int).toNat ((a7) % 256)):=⟨_,rfl⟩
           (first|replace H:=bl_ ai H|rw [←ai] at H);(try dsimp only at H);have aG:=Aside0.mk ai;clear ai;have H':=Aside0.mk H;clear H;have p14:0≤(a3:Int):=oda;have q14:(a3:Int)<((a2.length:Int):Int):=oda;obtain ⟨am,aH,av,aw,gl14,cl14,HG14⟩:=Kd.R_form a6.out (by omega);(first|cases av|(injection av with ea_ en_ ec_;(first|subst ea_|(injection ea_ with ea_;subst ea_));subst ec_;clear en_));have aI:=Aside0.mk aw;have GG14:=Aside0.mk HG14;clear aw gl14 HG14;obtain ⟨aL,hf14_0⟩:=Kd.R_celln 0 a6.out (a3:Int) p14 q14;replace p14:=eq_true p14;replace q14:=eq_true q14;have an:=Kd.R_putg a6.out (a3:Int) ((a7) % 256)
           go_wp2_with (first|((with_reducible refine gate_store (t:=5) (p:=34) rfl ?_);refine store_event (t:=5) (p:=34) (v:=?vo_w16) (w1:=(wr.setCell ⟨am,(a3:Int).toNat,none⟩ (.int .u8 ((a7) % 256)))) ?hg ?ho ?hn ?hr ?_;(case ho=>rfl);(case hg=>rfl);(case hn=>rfl);(case hr=>first|(go_simp;done)|(go_simp;rfl));intro ao hw;have hg:wr.grownBy ao (some am):=(by rw [hw];exact an.2);have hp_:Kd.R (Kd.int .u8) 5 ao w.heap.size (fun _=>True) (.slice (some ⟨am,0,none⟩) a2.length aH) au:=(by rw [hw,aG.out];exact an.1);clear an;refine Ya2 (hp_) ((by rw [hw];exact below_set (HB.out) aI.out:Below w.heap.size w ao)) ?_;clear a6 HB;intro a6 HB;clear hg hw hp_))
           go_roundg k2
           case measure=>have:=HK1.out;have:=HK2.out;omega
           case rel=>exact ⟨(a7 / 256),(au),(wrap64 (a3 - 1)),Ye1,Ye1,H',⟨by have:=HK1.out;have:=HK2.out;omega⟩,⟨kr a6.out⟩,⟨be HB.out⟩⟩
          ·rw [if_neg ah] at H
           exact absurd H (by simp)
         ·rw [if_neg ag] at H
          exact absurd H (by simp)
        ·rw [if_neg a8] at H
         have aF:decide (0≤a3)=false:=decide_eq_false a8;clear a8
         obtain ⟨a4,ap⟩:∃ j_:Int,(wrap64 (8 - a1))=j_:=⟨_,rfl⟩
         rw [ap] at H
         have hji17w:(IntKind.i64.wrap (8 - a1))=a4:=(i64_w _).trans ap
         by_cases ab:0≤(a4)
         ·rw [if_pos ab] at H
          have c18b0:=eq_true ab;have c18b1:decide (0≤(a4))=true:=decide_eq_true ab;clear ab
          by_cases ac:(a4)≤(a2.length:Int)
          ·rw [if_pos ac] at H
           have c19b0:=eq_true ac;have c19b1:decide ((a4)≤(a2.length:Int))=true:=decide_eq_true ac;clear ac
           obtain ⟨ad,aj⟩:∃ y_:List Int,y_=(a2.drop ((a4):Int).toNat):=⟨_,rfl⟩
           (first|replace H:=bl_ aj H|rw [←aj] at H);(try dsimp only at H);have ax:=Aside0.mk aj;clear aj;obtain rfl:=Option.some.inj H;obtain ⟨ak,ae,aJ⟩:=Kd.R_slice a6.out;subst aJ;have q20:((a4):Int)≤((a2.length:Int):Int):=oda;obtain ⟨i020,hi020,_,hsz20,_⟩:=info_parts info5;have hroom20:a2.length≤ae:=(Kd.R_reads' a6.out).2.1;have hC20:Kd.C (Kd.int .u8) _ ak a2.length a2:=(Kd.R_reads' a6.out).2.2;have aK:(0:Int)≤((a4):Int):=oda;have hcut20:=cut_from (P:=Tryd.prog) 64 5 .i64 Tryd.underlying64 hi020 1 hsz20 ak a2.length ae (a4) aK q20;have hr20:=Kd.C_drop (m:=((a4):Int).toNat) (c:=ae) hC20 (by omega) hroom20
           obtain ⟨A20,hA20⟩:∃ A1,A1=(if ae=((a4):Int).toNat then ak else (ak:Option Addr).map (·.add (((a4):Int).toNat*1))):=⟨_,rfl⟩
           obtain ⟨c20,hc20⟩:∃ c1,c1=ae - ((a4):Int).toNat:=⟨_,rfl⟩
           have al:ad.length=a2.length - ((a4):Int).toNat:=(by rw [ax.out,List.length_drop] <;> omega)
           rw [show (a2).drop ((a4):Int).toNat=ad from ax.out.symm] at hr20
           replace hr20:Kd.C (Kd.int .u8) _ A20 ad.length ad:=(by rw [hA20];exact hr20)
           rw [←al,←hA20,←hc20] at hcut20
           have ay:=Aside0.mk hr20;have HC307:=Aside0.mk (show ad.length≤c20 from by rw [al,hc20];exact Nat.sub_le_sub_right hroom20 _);clear hr20 hC20 hroom20 hi020 hsz20 hc20;have KY20:=Aside0.mk al;have KA20:=Aside0.mk hA20;clear al hA20;have KL20:=Aside0.mk (show ((a4):Int).toNat≤a2.length from by omega);replace q20:=eq_true q20;have hcv22:=Kd.C_string (P:=Tryd.prog) (A:=A20) (c:=c20) Tryd.underlying64 Tryd.underlying5 Tryd.underlying9 (by repeat (first|(with_reducible exact ay.out)|(with_reducible refine Kd.C_alloc ?_ _)|(with_reducible refine Kd.C_drewN ?_ _)|(with_reducible refine Kd.C_drew ?_)|exact ay.out))
           go_wp2
           go_ret
           exact ⟨by first|rfl|(simp [errW_none,errW_some] <;> rfl)|(simp only [←ap];first|rfl|(simp [errW_none,errW_some] <;> rfl))|(simp [*,errW_none,errW_some] <;> rfl),be HB.out⟩
          ·rw [if_neg ac] at H
           exact absurd H (by simp)
         ·rw [if_neg ab] at H
          exact absurd H (by simp)
     ·rw [if_neg c8] at H
      exact absurd H (by simp)
 ·replace c4:=Bool.eq_false_iff.mpr c4;subst c4
  rw [if_neg (show ¬(false=true) by decide)] at H
  obtain rfl:=Option.some.inj H
  go_enter Tryd.func45,Tryd.ntmps45
  go_wp2_with (first|((with_reducible refine gc 23 rfl ?_);refine gl (some 10) _ (#[.int .i64 a1,.int .i64 1,.int .i64 8]) Tryd.func23 ?_;(with_reducible refine (impl_in.calls a1 1 8 false _ A3.out).mono ?_);rintro e w' ⟨rfl,⟨nd,rfl⟩⟩;refine ⟨_,rfl,?_⟩))
  go_ret
  exact ⟨Ye2,be HB.out⟩

end Go.Proofs.YthfpoacindblgaaDoor.P


namespace Go.Proofs.YthfpoacindblgaaDoor.P
open Go.RowKit Go.Proofs.YthfpoacindblgaaDoorW.PrintWords Go.Proofs.YthfpoacindblgaaDoorW.PrintLast Go.Proofs.YthfpoacindblgaaDoorW.PrintMore
attribute [local go_sem] max2_int min2_int max_two min_two max_three min_three max_four min_four
set_option linter.unusedVariables false
set_option linter.unusedSimpArgs false

mutual
def impl_goodPart.j0:Nat→ByteArray→Bool→Bool→Option (Bool)
 | 0,_,_,_=>none
 | k+1,x0,x1,x18=>if x18=true then (some false) else (impl_goodPart.l0 k x0 x1 0)
def impl_goodPart.l0:Nat→ByteArray→Bool→Int→Option (Bool)
 | 0,_,_,_=>none
 | k+1,x0,x1,x5=>if x5<(x0.size:Int) then (if 0≤x5 then (if (bt x0 x5)<33 then (some false) else (if (bt x0 x5)>126 then (some false) else (if (bt x0 x5)=34 then (some false) else (if (bt x0 x5)=47 then (some false) else (if x1=true then (impl_goodPart.l0 k x0 x1 (wrap64 (x5+1))) else (if (bt x0 x5)=42 then (some false) else (if (bt x0 x5)=63 then (some false) else (impl_goodPart.l0 k x0 x1 (wrap64 (x5+1)))))))))) else (none)) else (some true)
end
def impl_goodPart.f (k:Nat) (a0:ByteArray) (a1:Bool):Option (Bool):=(impl_in.f (a0.size:Int) 1 20).bind fun aa=>(if aa=true then (if a0.toList=([46]:List UInt8) then (impl_goodPart.j0 k a0 a1 true) else (impl_goodPart.j0 k a0 a1 (a0.toList==([46,46]:List UInt8)))) else (impl_goodPart.j0 k a0 a1 true))
theorem impl_goodPart.mono_l:∀ k,(∀ y0 y1 y2,LeO (impl_goodPart.j0 k y0 y1 y2) (impl_goodPart.j0 (k+1) y0 y1 y2))∧(∀ y0 y1 y2,LeO (impl_goodPart.l0 k y0 y1 y2) (impl_goodPart.l0 (k+1) y0 y1 y2))
 | 0=>⟨fun _ _ _ r h=>by simp [impl_goodPart.j0] at h,fun _ _ _ r h=>by simp [impl_goodPart.l0] at h⟩
 | k + 1 => by
  obtain ⟨ih0,ih1⟩:=impl_goodPart.mono_l k;refine ⟨?_,?_⟩
  ·intro y0 y1 y2
   unfold impl_goodPart.j0
   exact mo2 ih0 ih1
  ·intro y0 y1 y2
   unfold impl_goodPart.l0
   exact mo2 ih0 ih1
theorem impl_goodPart.mono:∀ a0 a1 k,LeO (impl_goodPart.f k a0 a1) (impl_goodPart.f (k+1) a0 a1):=by
 intro a0 a1 k;obtain ⟨ih0,ih1⟩:=impl_goodPart.mono_l k
 unfold impl_goodPart.f
 exact mo2 ih0 ih1
set_option maxHeartbeats 8000000 in
set_option maxRecDepth 100000 in
theorem impl_goodPart.calls (k : Nat) (a0 : ByteArray) (a1 : Bool) (r : Bool) (w : World) (h : impl_goodPart.f k a0 a1 = some r) :
  Calls Tryd.prog 55 #[.string a0,.bool a1] w fun e w'=>e = .returned (.bool r)∧Drawn0 w w':=by
 have H:((impl_in.f (a0.size:Int) 1 20).bind fun aa=>(if aa=true then (if a0.toList=([46]:List UInt8) then (impl_goodPart.j0 k a0 a1 true) else (impl_goodPart.j0 k a0 a1 (a0.toList==([46,46]:List UInt8)))) else (impl_goodPart.j0 k a0 a1 true)))=some r:=h;clear h;have ad:=Aside0.mk H;clear H
 go_enter Tryd.func55,Tryd.ntmps55
 go_upto_region 1 with (fail)
 go_cut [18] (fun v18 wc => ∃ (kq:Nat) (ab:Bool),v18 = .bool ab∧Aside0 (impl_goodPart.j0 kq a0 a1 ab=some r)∧Aside0 (kq≤k)∧Drawn0 w wc)
 case first =>
  have H:=ad.out;clear ad;replace H:=Option.bind_eq_some_iff.mp H;obtain ⟨aa,A40,H⟩:=H;(try dsimp only at H);have A4:=Aside0.mk A40;clear A40
  by_cases c5:aa=true
  ·subst c5
   rw [if_pos rfl] at H
   by_cases c6:a0.toList=([46]:List UInt8)
   ·rw [if_pos c6] at H
    have a3:(a0.toList==([46]:List UInt8))=true:=beq_iff_eq.mpr c6;have ae:(a0.toList != ([46]:List UInt8))=false:=bne_eq_false_iff_eq.mpr c6;clear c6;(first|rw [a3]|(simp only [i64_w,i32_w];rw [a3])|skip);have H':=Aside0.mk H;clear H
    go_wp2_with (first|((with_reducible refine gc 23 rfl ?_);refine gl (some 9) _ (#[.int .i64 (a0.size:Int),.int .i64 1,.int .i64 20]) Tryd.func23 ?_;(with_reducible refine (impl_in.calls (a0.size:Int) 1 20 true _ A4.out).mono ?_);rintro e w' ⟨rfl,⟨nd,rfl⟩⟩;refine ⟨_,rfl,?_⟩))
    go_meet
    case rel=>exact ⟨_,(true),Ye1,H',⟨by first|omega|exact Nat.le_refl _⟩,dz⟩
   ·rw [if_neg c6] at H
    have a3:(a0.toList==([46]:List UInt8))=false:=beq_eq_false_iff_ne.mpr c6;have ae:(a0.toList != ([46]:List UInt8))=true:=bne_iff_ne.mpr c6;(first|rw [a3]|(simp only [i64_w,i32_w];rw [a3])|skip);have H':=Aside0.mk H;clear H
    go_wp2_with (first|((with_reducible refine gc 23 rfl ?_);refine gl (some 9) _ (#[.int .i64 (a0.size:Int),.int .i64 1,.int .i64 20]) Tryd.func23 ?_;(with_reducible refine (impl_in.calls (a0.size:Int) 1 20 true _ A4.out).mono ?_);rintro e w' ⟨rfl,⟨nd,rfl⟩⟩;refine ⟨_,rfl,?_⟩))
    go_meet
    case rel=>exact ⟨_,((a0.toList==([46,46]:List UInt8))),Ye1,H',⟨by first|omega|exact Nat.le_refl _⟩,dz⟩
  ·replace c5:=Bool.eq_false_iff.mpr c5;subst c5
   rw [if_neg (show ¬(false=true) by decide)] at H
   have H':=Aside0.mk H;clear H
   go_wp2_with (first|((with_reducible refine gc 23 rfl ?_);refine gl (some 9) _ (#[.int .i64 (a0.size:Int),.int .i64 1,.int .i64 20]) Tryd.func23 ?_;(with_reducible refine (impl_in.calls (a0.size:Int) 1 20 false _ A4.out).mono ?_);rintro e w' ⟨rfl,⟨nd,rfl⟩⟩;refine ⟨_,rfl,?_⟩))
   go_meet
   case rel=>exact ⟨_,(true),Ye1,H',⟨by first|omega|exact Nat.le_refl _⟩,dz⟩
 case rest =>
  clear ad;(try clear c2);(try clear p2);(try clear c5);(try clear c6);(try clear a3);(try clear ae);obtain ⟨kq,ab,rfl,HA,HJ2,⟨mc2,rfl⟩⟩:=hcut
  cases kq with
  | zero=>exact absurd HA.out (by simp [impl_goodPart.j0])
  | succ kj2 =>
   have H:=HA.out;clear HA;simp only [impl_goodPart.j0] at H
   by_cases c7:ab=true
   ·subst c7
    rw [if_pos rfl] at H
    obtain rfl:=Option.some.inj H
    go_wp2
    go_ret
    exact ⟨Ye1,dz⟩
   ·replace c7 := Bool.eq_false_iff.mpr c7; subst c7
    rw [if_neg (show ¬(false=true) by decide)] at H
    have H':=Aside0.mk H;clear H
    go_wp2
    go_loopg [5] kj2 (fun kq v5 w' => ∃ (a2:Int),v5 = .int .i64 a2∧Aside0 (impl_goodPart.l0 kq a0 a1 a2=some r)∧Aside0 (kq≤kj2)∧Drawn0 w w')
    case atStart=>exact ⟨(0),Ye1,H',⟨Nat.le_refl _⟩,dz⟩
    case round =>
     clear H';(try clear c2);(try clear p2);(try clear c5);(try clear c6);(try clear a3);(try clear ae);(try clear c7);(try clear p2);obtain ⟨a2,rfl,HA,HK2,⟨m2,rfl⟩⟩:=hrel
     cases gk with
     | zero=>exact absurd HA.out (by simp [impl_goodPart.l0])
     | succ k2 =>
      have H:=HA.out;clear HA;simp only [impl_goodPart.l0] at H
      by_cases c8:a2<(a0.size:Int)
      ·rw [if_pos c8] at H
       have af:decide (a2<(a0.size:Int))=true:=decide_eq_true c8;clear c8
       by_cases c9:0≤a2
       ·rw [if_pos c9] at H
        have c9b0:decide (0≤a2)=true:=decide_eq_true c9;clear c9
        by_cases a8:(bt a0 a2)<33
        ·rw [if_pos a8] at H
         have ag:decide ((bt a0 a2)<33)=true:=decide_eq_true a8;clear a8;obtain rfl:=Option.some.inj H;have p10:0≤(a2:Int):=oda;have q10:a2<(a0.size:Int):=oda;have hx10:=bt_at a0 a2;replace p10:=eq_true p10;replace q10:=eq_true q10
         go_wp2
         go_ret
         exact ⟨Ye1,dz⟩
        ·rw [if_neg a8] at H
         have ag:decide ((bt a0 a2)<33)=false:=decide_eq_false a8;clear a8
         by_cases a9:(bt a0 a2)>126
         ·rw [if_pos a9] at H
          have ah:decide (126<(bt a0 a2))=true:=decide_eq_true a9;clear a9;obtain rfl:=Option.some.inj H;have p10:0≤(a2:Int):=oda;have q10:a2<(a0.size:Int):=oda;have hx10:=bt_at a0 a2;replace p10:=eq_true p10;replace q10:=eq_true q10
          go_wp2
          go_ret
          exact ⟨Ye1,dz⟩
         ·rw [if_neg a9] at H
          have ah:decide (126<(bt a0 a2))=false:=decide_eq_false a9;clear a9
          by_cases a4:(bt a0 a2)=34
          ·rw [if_pos a4] at H
           have ai:((bt a0 a2)==34)=true:=beq_iff_eq.mpr a4;have aj:((bt a0 a2) != 34)=false:=bne_eq_false_iff_eq.mpr a4;clear a4;obtain rfl:=Option.some.inj H;have p10:0≤(a2:Int):=oda;have q10:a2<(a0.size:Int):=oda;have hx10:=bt_at a0 a2;replace p10:=eq_true p10;replace q10:=eq_true q10
           go_wp2
           go_ret
           exact ⟨Ye1,dz⟩
          ·rw [if_neg a4] at H
           have ai:((bt a0 a2)==34)=false:=beq_eq_false_iff_ne.mpr a4;have aj:((bt a0 a2) != 34)=true:=bne_iff_ne.mpr a4
           by_cases a5:(bt a0 a2)=47
           ·rw [if_pos a5] at H
            have ak:((bt a0 a2)==47)=true:=beq_iff_eq.mpr a5;have al:((bt a0 a2) != 47)=false:=bne_eq_false_iff_eq.mpr a5;clear a5;obtain rfl:=Option.some.inj H;have p10:0≤(a2:Int):=oda;have q10:a2<(a0.size:Int):=oda;have hx10:=bt_at a0 a2;replace p10:=eq_true p10;replace q10:=eq_true q10
            go_wp2
            go_ret
            exact ⟨Ye1,dz⟩
           ·rw [if_neg a5] at H
            have ak:((bt a0 a2)==47)=false:=beq_eq_false_iff_ne.mpr a5;have al:((bt a0 a2) != 47)=true:=bne_iff_ne.mpr a5
            by_cases ac:a1=true
            ·subst ac
             rw [if_pos rfl] at H
             have H':=Aside0.mk H;clear H;have p10:0≤(a2:Int):=oda;have q10:a2<(a0.size:Int):=oda;have hx10:=bt_at a0 a2;replace p10:=eq_true p10;replace q10:=eq_true q10
             go_wp2
             go_roundg k2
             case measure=>have:=HJ2.out;have:=HK2.out;omega
             case rel=>exact ⟨(wrap64 (a2+1)),Ye1,H',⟨by have:=HJ2.out;have:=HK2.out;omega⟩,dz⟩
            ·replace ac:=Bool.eq_false_iff.mpr ac;subst ac
             rw [if_neg (show ¬(false=true) by decide)] at H
             by_cases a6:(bt a0 a2)=42
             ·rw [if_pos a6] at H
              have am:((bt a0 a2)==42)=true:=beq_iff_eq.mpr a6;have an:((bt a0 a2) != 42)=false:=bne_eq_false_iff_eq.mpr a6;clear a6;obtain rfl:=Option.some.inj H;have p10:0≤(a2:Int):=oda;have q10:a2<(a0.size:Int):=oda;have hx10:=bt_at a0 a2;replace p10:=eq_true p10;replace q10:=eq_true q10
              go_wp2
              go_ret
              exact ⟨Ye1,dz⟩
             ·rw [if_neg a6] at H
              have am:((bt a0 a2)==42)=false:=beq_eq_false_iff_ne.mpr a6;have an:((bt a0 a2) != 42)=true:=bne_iff_ne.mpr a6
              by_cases a7:(bt a0 a2)=63
              ·rw [if_pos a7] at H
               have ao:((bt a0 a2)==63)=true:=beq_iff_eq.mpr a7;have ap:((bt a0 a2) != 63)=false:=bne_eq_false_iff_eq.mpr a7;clear a7;obtain rfl:=Option.some.inj H;have p10:0≤(a2:Int):=oda;have q10:a2<(a0.size:Int):=oda;have hx10:=bt_at a0 a2;replace p10:=eq_true p10;replace q10:=eq_true q10
               go_wp2
               go_ret
               exact ⟨Ye1,dz⟩
              ·rw [if_neg a7] at H
               have ao:((bt a0 a2)==63)=false:=beq_eq_false_iff_ne.mpr a7;have ap:((bt a0 a2) != 63)=true:=bne_iff_ne.mpr a7;have H':=Aside0.mk H;clear H;have p10:0≤(a2:Int):=oda;have q10:a2<(a0.size:Int):=oda;have hx10:=bt_at a0 a2;replace p10:=eq_true p10;replace q10:=eq_true q10
               go_wp2
               go_roundg k2
               case measure=>have:=HJ2.out;have:=HK2.out;omega
               case rel=>exact ⟨(wrap64 (a2+1)),Ye1,H',⟨by have:=HJ2.out;have:=HK2.out;omega⟩,dz⟩
       ·rw [if_neg c9] at H
        exact absurd H (by simp)
      ·rw [if_neg c8] at H
       have af:decide (a2<(a0.size:Int))=false:=decide_eq_false c8;clear c8;obtain rfl:=Option.some.inj H
       go_wp2
       go_ret
       exact ⟨Ye1,dz⟩

end Go.Proofs.YthfpoacindblgaaDoor.P


namespace Go.Proofs.YthfpoacindblgaaDoor.P
open Go.RowKit Go.Proofs.YthfpoacindblgaaDoorW.PrintWords Go.Proofs.YthfpoacindblgaaDoorW.PrintLast Go.Proofs.YthfpoacindblgaaDoorW.PrintMore
attribute [local go_sem] max2_int min2_int max_two min_two max_three min_three max_four min_four
set_option linter.unusedVariables false
set_option linter.unusedSimpArgs false

def strings_Split.f (a0 a1:ByteArray):Option (List ByteArray):=if a0.size<4294967281 then (if 1≤a1.size then some (Go.Lib.splitB a1 0 (Go.Lib.countB a0 a1) a0) else none) else none
theorem strings_Split.calls (a0 a1:ByteArray) (r:List ByteArray) (w:World) (hg:GOK w) (h:strings_Split.f a0 a1=some r) :
  Calls Tryd.prog 54 #[.string a0,.string a1] w fun e w' => ∃ v0_:Value,e = .returned (v0_)∧Kd.R Kd.string 9 w' w.heap.size (fun _=>True) v0_ r∧Below w.heap.size w w':=by
 unfold strings_Split.f at h
 split at h
 ·rename_i hs
  split at h
  ·rename_i h1
   obtain rfl:=Option.some.inj h;obtain ⟨m,hm⟩:=hg;have hle:=Go.Lib.countB_le a1 h1 a0.size a0 (Nat.le_refl _);have hlen:=Go.Lib.splitB_all a1 h1 0 (Go.Lib.countB a0 a1) a0 rfl
   refine (Tryd.strings_Split a0 a1 m w hs hm h1).mono fun e w' ⟨he,hw⟩ => ?_
   subst hw;refine ⟨_,he,?_,below_alloc (Below.refl _ _) _⟩
   rw [←hlen]
   exact Ow.R_new_block Value.string (fun _=>rfl) _ w _ (by rw [hlen];unfold maxLen;omega)
  ·cases h
 ·cases h


end Go.Proofs.YthfpoacindblgaaDoor.P


namespace Go.Proofs.YthfpoacindblgaaDoor.P
open Go.RowKit Go.Proofs.YthfpoacindblgaaDoorW.PrintWords Go.Proofs.YthfpoacindblgaaDoorW.PrintLast Go.Proofs.YthfpoacindblgaaDoorW.PrintMore
attribute [local go_sem] max2_int min2_int max_two min_two max_three min_three max_four min_four
set_option linter.unusedVariables false
set_option linter.unusedSimpArgs false

def impl_parts.l0:Nat→Bool→List ByteArray→Int→Int→Option (Bool)
 | 0,_,_,_,_=>none
 | k+1,x1,x13,x14,x15=>if x15<x14 then (if 0≤x15 then (if x15<(x13.length:Int) then ((impl_goodPart.f k (rdOf ByteArray.empty x13 x15) x1).bind fun a9=>(if a9=true then (impl_parts.l0 k x1 x13 x14 (wrap64 (x15+1))) else (some false))) else (none)) else (none)) else (some true)
def impl_parts.f (k:Nat) (a0:ByteArray) (a1:Bool):Option (Bool):=(strings_Split.f a0 (⟨#[47]⟩:ByteArray)).bind fun a2=>(if (a2.length:Int)>6 then (some false) else (impl_parts.l0 k a1 a2 (a2.length:Int) 0))
theorem impl_parts.mono_l:∀ k,(∀ y0 y1 y2 y3,LeO (impl_parts.l0 k y0 y1 y2 y3) (impl_parts.l0 (k+1) y0 y1 y2 y3))
 | 0=>fun _ _ _ _ r h=>by simp [impl_parts.l0] at h
 | k + 1 => by
  have ih0:=impl_parts.mono_l k
  ·intro y0 y1 y2 y3
   unfold impl_parts.l0
   exact mo2 ih0 @impl_goodPart.mono
theorem impl_parts.mono:∀ a0 a1 k,LeO (impl_parts.f k a0 a1) (impl_parts.f (k+1) a0 a1):=by
 intro a0 a1 k;have ih0:=impl_parts.mono_l k
 unfold impl_parts.f
 exact mo2 ih0 @impl_goodPart.mono
set_option maxHeartbeats 8000000 in
set_option maxRecDepth 100000 in
theorem impl_parts.calls (k : Nat) (a0 : ByteArray) (a1 : Bool) (r : Bool) (w : World) (hg : GOK w) (h : impl_parts.f k a0 a1 = some r) :
  Calls Tryd.prog 42 #[.string a0,.bool a1] w fun e w'=>e = .returned (.bool r)∧Below w.heap.size w w':=by
 have HG:=Aside0.mk hg;clear hg;have HB:=Aside0.mk (Below.refl w.heap.size w);have H:((strings_Split.f a0 (⟨#[47]⟩:ByteArray)).bind fun a2=>(if (a2.length:Int)>6 then (some false) else (impl_parts.l0 k a1 a2 (a2.length:Int) 0)))=some r:=h;clear h;replace H:=Option.bind_eq_some_iff.mp H;obtain ⟨a2,A30,H⟩:=H;(try dsimp only at H);have A3:=Aside0.mk A30;clear A30
 by_cases c4:(a2.length:Int)>6
 ·rw [if_pos c4] at H
  have ac:decide (6<(a2.length:Int))=true:=decide_eq_true c4;have ad:decide (6<a2.length)=true:=decide_eq_true (by omega);clear c4;obtain rfl:=Option.some.inj H
  go_enter Tryd.func42,Tryd.ntmps42
  go_wp2_with (first|((with_reducible refine gc 54 rfl ?_);refine gl (some 9) _ (#[.string a0,.string (⟨#[47]⟩:ByteArray)]) Tryd.func54 ?_;(with_reducible refine (strings_Split.calls a0 (⟨#[47]⟩:ByteArray) a2 _ ?sideG A3.out).mono ?_);(case sideG=>exact gk HG.out HB.out);rintro e w5 ⟨af,rfl,ho0,hb⟩;refine ⟨_,rfl,?_⟩;refine Ya2 (Kd.R_lower ho0 (below_size (be HB.out))) (below_step (be HB.out) hb) ?_;clear HB;intro a6 HB;(try clear hb);(try clear hb2);(try clear hk);(try clear hi);(try clear ho0);obtain ⟨Ao6,co6,eo6⟩:=Kd.R_slice a6.out;subst eo6))
  go_ret
  exact ⟨Ye2,be HB.out⟩
 ·rw [if_neg c4] at H
  have ac:decide (6<(a2.length:Int))=false:=decide_eq_false c4;have ad:decide (6<a2.length)=false:=decide_eq_false (by omega);clear c4;have H':=Aside0.mk H;clear H
  go_enter Tryd.func42,Tryd.ntmps42
  go_wp2_with (first|((with_reducible refine gc 54 rfl ?_);refine gl (some 9) _ (#[.string a0,.string (⟨#[47]⟩:ByteArray)]) Tryd.func54 ?_;(with_reducible refine (strings_Split.calls a0 (⟨#[47]⟩:ByteArray) a2 _ ?sideG A3.out).mono ?_);(case sideG=>exact gk HG.out HB.out);rintro e w7 ⟨af,rfl,ho0,hb⟩;refine ⟨_,rfl,?_⟩;refine Ya2 (Kd.R_lower ho0 (below_size (be HB.out))) (below_step (be HB.out) hb) ?_;clear HB;intro a6 HB;(try clear hb);(try clear hb2);(try clear hk);(try clear hi);(try clear ho0);obtain ⟨Ao8,co8,eo8⟩:=Kd.R_slice a6.out;subst eo8))
  go_loopg [15] k (fun kq v15 w' => ∃ (a3:Int),v15 = .int .i64 a3∧Aside0 (impl_parts.l0 kq a1 a2 (a2.length:Int) a3=some r)∧Aside0 (kq≤k)∧Aside0 (Kd.R Kd.string 9 w' w.heap.size (fun _=>True) (.slice Ao8 a2.length co8) a2)∧Aside0 (Below w.heap.size w w'))
  case atStart=>exact ⟨(0),Ye1,H',⟨Nat.le_refl _⟩,⟨kr a6.out⟩,⟨be HB.out⟩⟩
  case round =>
   clear H';(try clear p2);(try clear c4);(try clear ac);(try clear ad);(try clear c5);obtain ⟨a3,rfl,HA,HK1,aa,HB⟩:=hrel
   cases gk with
   | zero=>exact absurd HA.out (by simp [impl_parts.l0])
   | succ k1 =>
    have H:=HA.out;clear HA;simp only [impl_parts.l0] at H
    by_cases c9:a3<(a2.length:Int)
    ·rw [if_pos c9] at H
     have ag:decide (a3<(a2.length:Int))=true:=decide_eq_true c9;clear c9
     by_cases c10:0≤a3
     ·rw [if_pos c10] at H
      have c10b0:decide (0≤a3)=true:=decide_eq_true c10;clear c10
      by_cases a7:a3<(a2.length:Int)
      ·rw [if_pos a7] at H
       have c11b0:decide (a3<(a2.length:Int))=true:=decide_eq_true a7;clear a7;replace H:=Option.bind_eq_some_iff.mp H;obtain ⟨a9,ae,H⟩:=H;(try dsimp only at H);have A12:=Aside0.mk ae;clear ae
       by_cases a8:a9=true
       ·subst a8
        rw [if_pos rfl] at H
        have H':=Aside0.mk H;clear H;have a4:0≤(a3:Int):=oda;have a5:a3<(a2.length:Int):=oda;obtain ⟨ah,ab,ai⟩:=Kd.at_string (Kd.R_reads' aa.out).2.2 a3 a4 a5
        cases ab
        replace a4:=eq_true a4;replace a5:=eq_true a5
        go_wp2_with (first|((with_reducible refine gc 55 rfl ?_);refine gl (some 21) _ (#[.string (rdOf ByteArray.empty a2 a3),.bool a1]) Tryd.func55 ?_;(with_reducible refine (impl_goodPart.calls k1 (rdOf ByteArray.empty a2 a3) a1 true _ A12.out).mono ?_);rintro e w' ⟨rfl,⟨nd,rfl⟩⟩;refine ⟨_,rfl,?_⟩))
        go_roundg k1
        case measure=>have:=HK1.out;omega
        case rel=>exact ⟨(wrap64 (a3+1)),Ye1,H',⟨by have:=HK1.out;omega⟩,⟨kr aa.out⟩,⟨be HB.out⟩⟩
       ·replace a8:=Bool.eq_false_iff.mpr a8;subst a8
        rw [if_neg (show ¬(false=true) by decide)] at H
        obtain rfl:=Option.some.inj H;have a4:0≤(a3:Int):=oda;have a5:a3<(a2.length:Int):=oda;obtain ⟨ah,ab,ai⟩:=Kd.at_string (Kd.R_reads' aa.out).2.2 a3 a4 a5
        cases ab
        replace a4:=eq_true a4;replace a5:=eq_true a5
        go_wp2_with (first|((with_reducible refine gc 55 rfl ?_);refine gl (some 21) _ (#[.string (rdOf ByteArray.empty a2 a3),.bool a1]) Tryd.func55 ?_;(with_reducible refine (impl_goodPart.calls k1 (rdOf ByteArray.empty a2 a3) a1 false _ A12.out).mono ?_);rintro e w' ⟨rfl,⟨nd,rfl⟩⟩;refine ⟨_,rfl,?_⟩))
        go_ret
        exact ⟨Ye2,be HB.out⟩
      ·rw [if_neg a7] at H
       exact absurd H (by simp)
     ·rw [if_neg c10] at H
      exact absurd H (by simp)
    ·rw [if_neg c9] at H
     have ag:decide (a3<(a2.length:Int))=false:=decide_eq_false c9;clear c9;obtain rfl:=Option.some.inj H
     go_wp2
     go_ret
     exact ⟨Ye2,be HB.out⟩

end Go.Proofs.YthfpoacindblgaaDoor.P


namespace Go.Proofs.YthfpoacindblgaaDoor.P
open Go.RowKit Go.Proofs.YthfpoacindblgaaDoorW.PrintWords Go.Proofs.YthfpoacindblgaaDoorW.PrintLast Go.Proofs.YthfpoacindblgaaDoorW.PrintMore
attribute [local go_sem] max2_int min2_int max_two min_two max_three min_three max_four min_four
set_option linter.unusedVariables false
set_option linter.unusedSimpArgs false

def impl_ValidPath.f (k:Nat) (a0:ByteArray):Option (Bool):=(impl_parts.f k a0 false).bind fun a1=>(some a1)
theorem impl_ValidPath.mono:∀ a0 k,LeO (impl_ValidPath.f k a0) (impl_ValidPath.f (k+1) a0):=by
 intro a0 k
 unfold impl_ValidPath.f
 exact mo1 @impl_parts.mono
set_option maxHeartbeats 8000000 in
set_option maxRecDepth 100000 in
theorem impl_ValidPath.calls (k:Nat) (a0:ByteArray) (r:Bool) (w:World) (hg:GOK w) (h:impl_ValidPath.f k a0=some r) :
  Calls Tryd.prog 22 #[.string a0] w fun e w'=>e = .returned (.bool r)∧Below w.heap.size w w':=by
 have HG:=Aside0.mk hg;clear hg;have HB:=Aside0.mk (Below.refl w.heap.size w);have H:((impl_parts.f k a0 false).bind fun a1=>(some a1))=some r:=h;clear h;replace H:=Option.bind_eq_some_iff.mp H;obtain ⟨a1,A20,H⟩:=H;(try dsimp only at H);have A2:=Aside0.mk A20;clear A20;obtain rfl:=Option.some.inj H
 go_enter Tryd.func22,Tryd.ntmps22
 go_wp2_with (first|((with_reducible refine gc 42 rfl ?_);refine gl (some 4) _ (#[.string a0,.bool false]) Tryd.func42 ?_;(with_reducible refine (impl_parts.calls k a0 false a1 _ ?sideG A2.out).mono ?_);(case sideG=>exact gk HG.out HB.out);rintro e w3 ⟨rfl,hb⟩;refine ⟨_,rfl,?_⟩;refine Ya1 (below_step (be HB.out) hb) ?_;clear HB;intro HB;(try clear hb);(try clear hb2);(try clear hk);(try clear hi)))
 go_ret
 exact ⟨Ye2,be HB.out⟩

end Go.Proofs.YthfpoacindblgaaDoor.P


namespace Go.Proofs.YthfpoacindblgaaDoor.P
open Go.RowKit Go.Proofs.YthfpoacindblgaaDoorW.PrintWords Go.Proofs.YthfpoacindblgaaDoorW.PrintLast Go.Proofs.YthfpoacindblgaaDoorW.PrintMore
attribute [local go_sem] max2_int min2_int max_two min_two max_three min_three max_four min_four
set_option linter.unusedVariables false
set_option linter.unusedSimpArgs false

def impl_goodEntry.f (k:Nat) (a0_0:ByteArray) (a0_1:ByteArray) (a0_2:Bool):Option (Bool):=(impl_ValidPath.f k a0_0).bind fun a4=>(if a4=true then (some (decide ((a0_1.size:Int)≤1500))) else (some false))
theorem impl_goodEntry.mono:∀ a0 a1 a2 k,LeO (impl_goodEntry.f k a0 a1 a2) (impl_goodEntry.f (k+1) a0 a1 a2):=by
 intro a0 a1 a2 k
 unfold impl_goodEntry.f
 exact mo1 @impl_ValidPath.mono
set_option maxHeartbeats 8000000 in
set_option maxRecDepth 100000 in
theorem impl_goodEntry.calls (k:Nat) (a0_0:ByteArray) (a0_1:ByteArray) (a0_2:Bool) (r:Bool) (w:World) (hg:GOK w) (h:impl_goodEntry.f k a0_0 a0_1 a0_2=some r) :
  Calls Tryd.prog 40 #[.agg #[.string a0_0,.string a0_1,.bool a0_2]] w fun e w'=>e = .returned (.bool r)∧Below w.heap.size w w':=by
 have HG:=Aside0.mk hg;clear hg;have hu55:=Tryd.underlying55;have HB:=Aside0.mk (Below.refl w.heap.size w);have H:((impl_ValidPath.f k a0_0).bind fun a4=>(if a4=true then (some (decide ((a0_1.size:Int)≤1500))) else (some false)))=some r:=h;clear h;replace H:=Option.bind_eq_some_iff.mp H;obtain ⟨a4,A20,H⟩:=H;(try dsimp only at H);have A2:=Aside0.mk A20;clear A20
 by_cases c3:a4=true
 ·subst c3
  rw [if_pos rfl] at H
  obtain rfl:=Option.some.inj H
  go_enter Tryd.func40,Tryd.ntmps40
  go_wp2_with (first|((with_reducible refine gd 1 rfl ?_);(try (refine gate_guard (by rfl) ?_;dsimp only));refine bx 1 55 (#[.string a0_0,.string a0_1,.bool a0_2]) ?_;intro a5 hg w4 hbox hb;refine Ya4 (below_step (be HB.out) hb) (hbox) (bs hg (be HB.out)) (bs hg (be HB.out)) ?_;clear HB;intro HB a3 a6 a7;clear hb hbox hg;have ⟨a8,a9,aa,ab,ac,ad⟩:=Yc3 a3.out)|((with_reducible refine gc 22 rfl ?_);refine gl (some 5) _ (#[.string a0_0]) Tryd.func22 ?_;(with_reducible refine (impl_ValidPath.calls k a0_0 true _ ?sideG A2.out).mono ?_);(case sideG=>exact gf HG.out HB.out);rintro e w6 ⟨rfl,hb⟩;refine ⟨_,rfl,?_⟩;refine Ya2 (bb a3 hb) (below_step (bf HB.out) hb) ?_;clear a3 HB;intro a3 HB;(try clear hb);(try clear hb2);(try clear hk);(try clear hi);have ⟨ae,af,ag,ah,ai,aj⟩:=Yc3 a3.out))
  go_ret
  exact ⟨Ye2,(bf HB.out)⟩
 ·replace c3:=Bool.eq_false_iff.mpr c3;subst c3
  rw [if_neg (show ¬(false=true) by decide)] at H
  obtain rfl:=Option.some.inj H
  go_enter Tryd.func40,Tryd.ntmps40
  go_wp2_with (first|((with_reducible refine gd 1 rfl ?_);(try (refine gate_guard (by rfl) ?_;dsimp only));refine bx 1 55 (#[.string a0_0,.string a0_1,.bool a0_2]) ?_;intro a5 hg w8 hbox hb;refine Ya4 (below_step (be HB.out) hb) (hbox) (bs hg (be HB.out)) (bs hg (be HB.out)) ?_;clear HB;intro HB a3 a6 a7;clear hb hbox hg;have ⟨ak,al,am,an,ao,ap⟩:=Yc3 a3.out)|((with_reducible refine gc 22 rfl ?_);refine gl (some 5) _ (#[.string a0_0]) Tryd.func22 ?_;(with_reducible refine (impl_ValidPath.calls k a0_0 false _ ?sideG A2.out).mono ?_);(case sideG=>exact gf HG.out HB.out);rintro e w10 ⟨rfl,hb⟩;refine ⟨_,rfl,?_⟩;refine Ya2 (bb a3 hb) (below_step (bf HB.out) hb) ?_;clear a3 HB;intro a3 HB;(try clear hb);(try clear hb2);(try clear hk);(try clear hi)))
  go_ret
  exact ⟨Ye2,(bf HB.out)⟩

end Go.Proofs.YthfpoacindblgaaDoor.P


namespace Go.Proofs.YthfpoacindblgaaDoor.P
open Go.RowKit Go.Proofs.YthfpoacindblgaaDoorW.PrintWords Go.Proofs.YthfpoacindblgaaDoorW.PrintLast Go.Proofs.YthfpoacindblgaaDoorW.PrintMore
attribute [local go_sem] max2_int min2_int max_two min_two max_three min_three max_four min_four
set_option linter.unusedVariables false
set_option linter.unusedSimpArgs false

mutual
def impl_ValidTree.l0:Nat→List (S55)→Int→Int→List (S55)→Option (Bool)
 | 0,_,_,_,_=>none
 | k+1,x11,x12,x13,aa=>if x13<x12 then (if 0≤x13 then (if x13<(x11.length:Int) then ((impl_goodEntry.f k ((rd_T55 x11 x13).f0) ((rd_T55 x11 x13).f1) ((rd_T55 x11 x13).f2)).bind fun aL=>(if aL=true then (if x13>0 then (if 0≤(wrap64 (x13 - 1)) then (if (wrap64 (x13 - 1))<(aa.length:Int) then (impl_ValidTree.j1 k x13 x11 x12 x13 (!(Op.bytesLess (((rd_T55 aa (wrap64 (x13 - 1))).f0).toList) (((rd_T55 x11 x13).f0).toList))) aa ((rd_T55 x11 x13).f0) ((rd_T55 x11 x13).f1) ((rd_T55 x11 x13).f2)) else (none)) else (none)) else (impl_ValidTree.j1 k x13 x11 x12 x13 false aa ((rd_T55 x11 x13).f0) ((rd_T55 x11 x13).f1) ((rd_T55 x11 x13).f2))) else (impl_ValidTree.j1 k x13 x11 x12 x13 true aa ((rd_T55 x11 x13).f0) ((rd_T55 x11 x13).f1) ((rd_T55 x11 x13).f2)))) else (none)) else (none)) else (some true)
def impl_ValidTree.j1:Nat→Int→List (S55)→Int→Int→Bool→List (S55)→ByteArray→ByteArray→Bool→Option (Bool)
 | 0,_,_,_,_,_,_,_,_,_=>none
 | k+1,x3,x11,x12,x13,x36,aa,aD,aM,aN=>if x36=true then (some false) else (impl_ValidTree.l1 k x3 0 x11 x12 x13 aa aD aM aN)
def impl_ValidTree.l1:Nat→Int→Int→List (S55)→Int→Int→List (S55)→ByteArray→ByteArray→Bool→Option (Bool)
 | 0,_,_,_,_,_,_,_,_,_=>none
 | k+1,x3,x5,x11,x12,x13,aa,aD,aM,aN=>if x5<x3 then (if 0≤x5 then (if x5<(aa.length:Int) then ((impl_over.f ((rd_T55 aa x5).f0) aD).bind fun aO=>(if aO=true then (some false) else (impl_ValidTree.l1 k x3 (wrap64 (x5+1)) x11 x12 x13 aa aD aM aN))) else (none)) else (none)) else (impl_ValidTree.l0 k x11 x12 (wrap64 (x13+1)) aa)
end
def impl_ValidTree.f (k:Nat) (a1:List (S55)):Option (Bool):=if (a1.length:Int)>100 then (some false) else (impl_ValidTree.l0 k a1 (a1.length:Int) 0 a1)
theorem impl_ValidTree.mono_l:∀ k,(∀ y0 y1 y2 y3,LeO (impl_ValidTree.l0 k y0 y1 y2 y3) (impl_ValidTree.l0 (k+1) y0 y1 y2 y3))∧(∀ y0 y1 y2 y3 y4 y5 y6 y7 y8,LeO (impl_ValidTree.j1 k y0 y1 y2 y3 y4 y5 y6 y7 y8) (impl_ValidTree.j1 (k+1) y0 y1 y2 y3 y4 y5 y6 y7 y8))∧(∀ y0 y1 y2 y3 y4 y5 y6 y7 y8,LeO (impl_ValidTree.l1 k y0 y1 y2 y3 y4 y5 y6 y7 y8) (impl_ValidTree.l1 (k+1) y0 y1 y2 y3 y4 y5 y6 y7 y8))
 | 0=>⟨fun _ _ _ _ r h=>by simp [impl_ValidTree.l0] at h,fun _ _ _ _ _ _ _ _ _ r h=>by simp [impl_ValidTree.j1] at h,fun _ _ _ _ _ _ _ _ _ r h=>by simp [impl_ValidTree.l1] at h⟩
 | k + 1 => by
  obtain ⟨ih0,ih1,ih2⟩:=impl_ValidTree.mono_l k;refine ⟨?_,?_,?_⟩
  ·intro y0 y1 y2 y3
   unfold impl_ValidTree.l0
   exact mo4 ih0 ih1 ih2 @impl_goodEntry.mono
  ·intro y0 y1 y2 y3 y4 y5 y6 y7 y8
   unfold impl_ValidTree.j1
   exact mo4 ih0 ih1 ih2 @impl_goodEntry.mono
  ·intro y0 y1 y2 y3 y4 y5 y6 y7 y8
   unfold impl_ValidTree.l1
   exact mo4 ih0 ih1 ih2 @impl_goodEntry.mono
theorem impl_ValidTree.mono:∀ a0 k,LeO (impl_ValidTree.f k a0) (impl_ValidTree.f (k+1) a0):=by
 intro a0 k;obtain ⟨ih0,ih1,ih2⟩:=impl_ValidTree.mono_l k
 unfold impl_ValidTree.f
 exact mo4 ih0 ih1 ih2 @impl_goodEntry.mono
def impl_ValidTree.T6:Bool×List (List Nat×List Nat):=(true,[([],[]),([0],[0]),([1],[1]),([2,1],[2]),([3],[3]),([4,3],[3,4]),([5,3,3],[3,5]),([6],[6]),([7,6],[6,7]),([6],[6]),([9,6],[6,9]),([8,10,6],[6,8,10]),([11,6],[6,11]),([12,6],[6,12]),([6],[6]),([14,6],[6,14]),([13,15,6],[6,13,15]),([6,16,3],[3,6,16]),([3,17],[3,17])])
def impl_ValidTree.B6:List Nat:=[0,1,3,7,15,31,63,127,255,127,639,2047,4095,8191,127,16511,65535,131071,262143]
theorem impl_ValidTree.tab6:rtab .any (opsOf Tryd.f21 6)=impl_ValidTree.T6:=by kernel_rfl
theorem impl_ValidTree.bits6:waitsOk impl_ValidTree.T6.2 impl_ValidTree.B6=true:=by kernel_rfl
def impl_ValidTree.T11:Bool×List (List Nat×List Nat):=(true,[([],[]),([0],[0]),([],[]),([1,2],[1,2]),([3],[3]),([4],[4]),([],[]),([6],[6]),([5,7],[5,7])])
def impl_ValidTree.B11:List Nat:=[0,1,0,7,15,31,0,64,255]
theorem impl_ValidTree.tab11:rtab .any (opsOf Tryd.f21 11)=impl_ValidTree.T11:=by kernel_rfl
theorem impl_ValidTree.bits11:waitsOk impl_ValidTree.T11.2 impl_ValidTree.B11=true:=by kernel_rfl
set_option maxHeartbeats 8000000 in
set_option maxRecDepth 100000 in
theorem impl_ValidTree.calls (k : Nat) (ax : Option Addr) (a9 : Nat) (a1 : List (S55)) (r : Bool) (w : World) (hg : GOK w) (aX : Kd.C k55 w ax a1.length a1) (aY : a1.length ≤ a9) (h : impl_ValidTree.f k a1 = some r) :
  Calls Tryd.prog 21 #[.agg #[.slice ax a1.length a9]] w fun e w'=>e = .returned (.bool r)∧Below w.heap.size w w':=by
 have HG:=Aside0.mk hg;clear hg;have hu32:=Tryd.underlying32;have hu55:=Tryd.underlying55;have aE:=Aside0.mk aX;have HC0_0:=Aside0.mk aY;clear aX aY;have HB:=Aside0.mk (Below.refl w.heap.size w);have H:(if (a1.length:Int)>100 then (some false) else (impl_ValidTree.l0 k a1 (a1.length:Int) 0 a1))=some r:=h;clear h
 by_cases c2:(a1.length:Int)>100
 ·rw [if_pos c2] at H
  have aZ:decide (100<(a1.length:Int))=true:=decide_eq_true c2;have b0:decide (100<a1.length)=true:=decide_eq_true (by omega);clear c2;obtain rfl:=Option.some.inj H
  go_enter Tryd.func21,Tryd.ntmps21
  go_wp2_with (first|((with_reducible refine gd 1 rfl ?_);refine bx 1 32 (#[.slice ax a1.length a9]) ?_;intro af hg w3 hbox hb;refine Ya4 (below_step (be HB.out) hb) (hbox) (bs hg (be HB.out)) (bs hg (be HB.out)) ?_;clear HB;intro HB a4 bm bn;clear hb hbox hg;have ⟨aP,aQ⟩:=Yc1 a4.out))
  go_ret
  exact ⟨Ye2,(bf HB.out)⟩
 ·rw [if_neg c2] at H
  have aZ:decide (100<(a1.length:Int))=false:=decide_eq_false c2;have b0:decide (100<a1.length)=false:=decide_eq_false (by omega);clear c2;have H':=Aside0.mk H;clear H
  go_enter Tryd.func21,Tryd.ntmps21
  go_wp2_with (first|((with_reducible refine gd 1 rfl ?_);refine bx 1 32 (#[.slice ax a1.length a9]) ?_;intro af hg w5 hbox hb;refine Ya4 (below_step (be HB.out) hb) (hbox) (bs hg (be HB.out)) (bs hg (be HB.out)) ?_;clear HB;intro HB a4 bm bn;clear hb hbox hg;have ⟨aR,aS⟩:=Yc1 a4.out))
  go_loopg [13] k (fun kq v13 w' => ∃ (a2:Int),v13 = .int .i64 a2∧Aside0 (impl_ValidTree.l0 kq a1 (a1.length:Int) a2 a1=some r)∧Aside0 (kq≤k)∧Aside0 (w'.heap[af]? = some (.cells #[(.slice ax a1.length a9)] 32 (0,0)))∧Aside0 (Below w.heap.size w w'))
  case atStart=>exact ⟨(0),Ye1,H',⟨Nat.le_refl _⟩,⟨bk a4.out⟩,⟨bf HB.out⟩⟩
  case round =>
   clear H';(try clear c2);(try clear aZ);(try clear b0);(try clear p2);(try clear aP);(try clear aR);(try clear aQ);(try clear aS);obtain ⟨a2,rfl,HA,HK1,a4,HB⟩:=hrel
   cases gk with
   | zero=>exact absurd HA.out (by simp [impl_ValidTree.l0])
   | succ k1 =>
    have H:=HA.out;clear HA;simp only [impl_ValidTree.l0] at H
    by_cases c7:a2<(a1.length:Int)
    ·rw [if_pos c7] at H
     have aT:decide (a2<(a1.length:Int))=true:=decide_eq_true c7;clear c7
     by_cases c8:0≤a2
     ·rw [if_pos c8] at H
      have b1:decide (0≤a2)=true:=decide_eq_true c8;clear c8
      by_cases c9:a2<(a1.length:Int)
      ·rw [if_pos c9] at H
       have b2:decide (a2<(a1.length:Int))=true:=decide_eq_true c9;clear c9;have aU:=Aside0.mk H;clear H;have ay:0≤(a2:Int):=oda;have az:a2<(a1.length:Int):=oda;obtain ⟨a7,bo,b3,b4,b5⟩:=at_T55 (Kd.C_below aE.out HB.out) a2 ay az
       cases bo
       replace ay:=eq_true ay;replace az:=eq_true az
       go_upto_region 6 with (first|((with_reducible refine gd 4 rfl ?_);refine bx 4 55 (#[.string (⟨#[]⟩:ByteArray),.string (⟨#[]⟩:ByteArray),.bool false]) ?_;intro a5 hg ab hbox hb;refine Ya7 (bb a4 hb) (below_step (bf HB.out) hb) (hbox) (bs hg (bf HB.out)) (bs hg (bf HB.out)) (bl hg a4) (br hg a4) ?_;clear a4 HB;intro a4 HB a3 GW285 GE285 aF bq;clear hb hbox hg;have hnb12:=bq.out;have hnc12:=aF.out;have ⟨b6,b7,b8,b9,ba,bd⟩:=Yc3 a3.out))
       (try simp only [Act.put,List.setIfInBounds_toArray,List.set_cons_zero,List.set_cons_succ])
       go_cut [36] (fun v36 wc => ∃ (kq:Nat) (aG:Bool),v36 = .bool aG∧Aside0 (impl_ValidTree.j1 kq a2 a1 (a1.length:Int) a2 aG a1 ((rd_T55 a1 a2).f0) ((rd_T55 a1 a2).f1) ((rd_T55 a1 a2).f2)=some r)∧Aside0 (kq≤k1)∧Aside0 (wc.heap[af]? = some (.cells #[(.slice (some a7) a1.length a9)] 32 (0,0)))∧Aside0 (wc.heap[a5]? = some (.cells #[.string ((rd_T55 a1 a2).f0),.string ((rd_T55 a1 a2).f1),.bool ((rd_T55 a1 a2).f2)] 55 (0,0)))∧Aside0 (Below w.heap.size w wc))
       case first =>
        have H:=aU.out;clear aU;replace H:=Option.bind_eq_some_iff.mp H;obtain ⟨aL,bg,H⟩:=H;(try dsimp only at H);have aH:=Aside0.mk bg;clear bg
        by_cases an:aL=true
        ·subst an
         rw [if_pos rfl] at H
         by_cases aj:a2>0
         ·rw [if_pos aj] at H
          have ak:decide (0<a2)=true:=decide_eq_true aj;clear aj;(first|rw [ak]|(simp only [i64_w,i32_w];rw [ak])|skip)
          obtain ⟨a8,ao⟩:∃ j_:Int,(wrap64 (a2 - 1))=j_:=⟨_,rfl⟩
          rw [ao] at H
          (try rw [ao] at aH);have hji17w:(IntKind.i64.wrap (a2 - 1))=a8:=(i64_w _).trans ao
          by_cases ap:0≤(a8)
          ·rw [if_pos ap] at H
           have bh:decide (0≤(a8))=true:=decide_eq_true ap;clear ap
           by_cases aq:(a8)<(a1.length:Int)
           ·rw [if_pos aq] at H
            have bi:decide ((a8)<(a1.length:Int))=true:=decide_eq_true aq;clear aq;have H':=Aside0.mk H;clear H
            try go_wp2
            have ac:Aside0 ((((ab.setCell ⟨a5,0,none⟩ (.string ((rd_T55 a1 a2).f0))).setCell ⟨a5,1,none⟩ (.string ((rd_T55 a1 a2).f1))).setCell ⟨a5,2,none⟩ (.bool ((rd_T55 a1 a2).f2))).heap[af]? = some (.cells #[.slice (some a7) a1.length a9] 32 (0,0))):=⟨bkf a4.out aF.out⟩
            have ad:Aside0 ((((ab.setCell ⟨a5,0,none⟩ (.string ((rd_T55 a1 a2).f0))).setCell ⟨a5,1,none⟩ (.string ((rd_T55 a1 a2).f1))).setCell ⟨a5,2,none⟩ (.bool ((rd_T55 a1 a2).f2))).heap[a5]? = some (.cells #[.string ((rd_T55 a1 a2).f0),.string ((rd_T55 a1 a2).f1),.bool ((rd_T55 a1 a2).f2)] 55 (0,0))):=⟨bp a3.out⟩
            have ae:Aside0 (Below w.heap.size w (((ab.setCell ⟨a5,0,none⟩ (.string ((rd_T55 a1 a2).f0))).setCell ⟨a5,1,none⟩ (.string ((rd_T55 a1 a2).f1))).setCell ⟨a5,2,none⟩ (.bool ((rd_T55 a1 a2).f2)))):=⟨bf HB.out⟩
            (try clear a4);(try clear a3);(try clear HB);generalize (((ab.setCell ⟨a5,0,none⟩ (.string ((rd_T55 a1 a2).f0))).setCell ⟨a5,1,none⟩ (.string ((rd_T55 a1 a2).f1))).setCell ⟨a5,2,none⟩ (.bool ((rd_T55 a1 a2).f2)))=w20 at ac ad ae ⊢; have a4:=ac;have a3:=ad;have HB:=ae;clear ac ad ae;refine Ya3 (blk_drew a4.out) (blk_drew a3.out) (below_drew1 HB.out) ?_;clear a4 a3 HB;intro a4 a3 HB;have aA:0≤((a8):Int):=oda;have aB:(a8)<(a1.length:Int):=oda;obtain ⟨bu,bv,ar,au,av⟩:=at_T55 aE.out (a8) aA aB;have hw287_2:=av;have hw287_1:=au;have hw287_0:=ar
            obtain rfl:a7=bu:=(by injection bv)
            replace ar:=pw_cell_below HB.out ar;replace au:=pw_cell_below HB.out au;replace av:=pw_cell_below HB.out av;replace aA:=eq_true aA;replace aB:=eq_true aB;refine start_ (n:=19) (S:=fun w'=>w'.cell? ⟨a5,0,none⟩=some (.string ((rd_T55 a1 a2).f0))∧w'.cell? ⟨a5,1,none⟩=some (.string ((rd_T55 a1 a2).f1))∧w'.cell? ⟨a5,2,none⟩=some (.bool ((rd_T55 a1 a2).f2))∧w'.cell? ⟨af,0,none⟩=some (.slice (some a7) a1.length a9)∧w'.cell? (a7.add (((a8)).toNat*3))=some (.string ((rd_T55 a1 (a8)).f0))∧w'.cell? ⟨(a7.add (((a8)).toNat*3)).block,(a7.add (((a8)).toNat*3)).off+1,none⟩=some (.string ((rd_T55 a1 (a8)).f1))∧w'.cell? ⟨(a7.add (((a8)).toNat*3)).block,(a7.add (((a8)).toNat*3)).off+2,none⟩=some (.bool ((rd_T55 a1 (a8)).f2))) (ds:=[]) (fb 19 0) (by kernel_rfl) rfl rfl ⟨bc a3 0,bc a3 1,bc a3 2,bc a4 0,(pw_cell_below HB.out hw287_0),(pw_cell_below HB.out hw287_1),(pw_cell_below HB.out hw287_2)⟩ (fun hHeld => ?_);refine with_tabW impl_ValidTree.tab6 impl_ValidTree.bits6 (fun HT_ HW_ => ?_);generalize w20.drew=w21 at a4 a3 HB ar au av hHeld ⊢; refine tk 0 18 (fb 19 1) HT_ HW_ hHeld ?_;refine o1 1 (some 19) (fb 19 3) HT_ (fun K hK => ?_);refine gs _ (#[.agg #[.string ((rd_T55 a1 a2).f0),.string ((rd_T55 a1 a2).f1),.bool ((rd_T55 a1 a2).f2)]]) Tryd.func40 ?_;(with_reducible refine (impl_goodEntry.calls k1 ((rd_T55 a1 a2).f0) ((rd_T55 a1 a2).f1) ((rd_T55 a1 a2).f2) true _ ?sideG aH.out).mono ?_;(case sideG=>exact gf HG.out HB.out));rintro e w22 ⟨rfl,hb⟩;refine ⟨_,rfl,?_⟩;refine Ya3 (bb a4 hb) (bb a3 hb) (below_step (bf HB.out) hb) ?_;clear a4 a3 HB;intro a4 a3 HB;(try clear hb);(try clear hb2);(try clear hk);(try clear hi);refine hK.out _ _ ⟨bc a3 0,bc a3 1,bc a3 2,bc a4 0,(pw_cell_below HB.out hw287_0),(pw_cell_below HB.out hw287_1),(pw_cell_below HB.out hw287_2)⟩ (fun hHeld => ?_);clear hK K;refine nm 19 ?_;refine pu 2 20 (fb 19 7) HT_ ?_;refine pu 3 21 (fb 19 15) HT_ ?_;refine pu 4 22 (fb 19 31) HT_ ?_;refine pu 5 23 (fb 19 63) HT_ ?_;refine pu 6 24 (fb 19 127) HT_ ?_;refine pu 7 25 (fb 19 255) HT_ ?_;refine pu 9 27 (fb 19 767) HT_ ?_;refine pu 10 28 (fb 19 1791) HT_ ?_;refine pu 14 32 (fb 19 18175) HT_ ?_;refine tk 8 26 (fb 19 18431) HT_ HW_ hHeld ?_;refine pu 11 29 (fb 19 20479) HT_ ?_;refine pu 12 30 (fb 19 24575) HT_ ?_;refine tk 13 31 (fb 19 32767) HT_ HW_ hHeld ?_;refine tk 15 33 (fb 19 65535) HT_ HW_ hHeld ?_;refine pu 16 34 (fb 19 131071) HT_ ?_;refine pu 17 35 (fb 19 262143) HT_ ?_;refine pu 18 36 (fb 19 524287) HT_ ?_;refine done_ (done_of HT_.out (by kernel_rfl)) ?_
            try go_wp2
            go_meet
            case rel=>exact ⟨_,(!(Op.bytesLess (((rd_T55 a1 (a8)).f0).toList) (((rd_T55 a1 a2).f0).toList))),(by first|rfl|(simp;done)|(simp only [←ao] <;> (first|rfl|simp))|(simp [*];done)),(by first|exact H'|(subst ao;exact H')|(simp only [←ao] at H' ⊢; exact H')),⟨by have:=HK1.out;first|omega|exact Nat.le_refl _⟩,⟨bk a4.out⟩,⟨bk a3.out⟩,⟨bf HB.out⟩⟩
           ·rw [if_neg aq] at H
            exact absurd H (by simp)
          ·rw [if_neg ap] at H
           exact absurd H (by simp)
         ·rw [if_neg aj] at H
          have ak:decide (0<a2)=false:=decide_eq_false aj;clear aj;(first|rw [ak]|(simp only [i64_w,i32_w];rw [ak])|skip);have H':=Aside0.mk H;clear H
          try go_wp2
          have ac:Aside0 ((((ab.setCell ⟨a5,0,none⟩ (.string ((rd_T55 a1 a2).f0))).setCell ⟨a5,1,none⟩ (.string ((rd_T55 a1 a2).f1))).setCell ⟨a5,2,none⟩ (.bool ((rd_T55 a1 a2).f2))).heap[af]? = some (.cells #[.slice (some a7) a1.length a9] 32 (0,0))):=⟨bkf a4.out aF.out⟩
          have ad:Aside0 ((((ab.setCell ⟨a5,0,none⟩ (.string ((rd_T55 a1 a2).f0))).setCell ⟨a5,1,none⟩ (.string ((rd_T55 a1 a2).f1))).setCell ⟨a5,2,none⟩ (.bool ((rd_T55 a1 a2).f2))).heap[a5]? = some (.cells #[.string ((rd_T55 a1 a2).f0),.string ((rd_T55 a1 a2).f1),.bool ((rd_T55 a1 a2).f2)] 55 (0,0))):=⟨bp a3.out⟩
          have ae:Aside0 (Below w.heap.size w (((ab.setCell ⟨a5,0,none⟩ (.string ((rd_T55 a1 a2).f0))).setCell ⟨a5,1,none⟩ (.string ((rd_T55 a1 a2).f1))).setCell ⟨a5,2,none⟩ (.bool ((rd_T55 a1 a2).f2)))):=⟨bf HB.out⟩
          (try clear a4);(try clear a3);(try clear HB);generalize (((ab.setCell ⟨a5,0,none⟩ (.string ((rd_T55 a1 a2).f0))).setCell ⟨a5,1,none⟩ (.string ((rd_T55 a1 a2).f1))).setCell ⟨a5,2,none⟩ (.bool ((rd_T55 a1 a2).f2)))=w23 at ac ad ae ⊢; have a4:=ac;have a3:=ad;have HB:=ae;clear ac ad ae;refine Ya3 (blk_drew a4.out) (blk_drew a3.out) (below_drew1 HB.out) ?_;clear a4 a3 HB;intro a4 a3 HB;refine start_ (n:=19) (S:=fun w'=>w'.cell? ⟨a5,0,none⟩=some (.string ((rd_T55 a1 a2).f0))∧w'.cell? ⟨a5,1,none⟩=some (.string ((rd_T55 a1 a2).f1))∧w'.cell? ⟨a5,2,none⟩=some (.bool ((rd_T55 a1 a2).f2))) (ds:=[]) (fb 19 0) (by kernel_rfl) rfl rfl ⟨bc a3 0,bc a3 1,bc a3 2⟩ (fun hHeld => ?_);refine with_tabW impl_ValidTree.tab6 impl_ValidTree.bits6 (fun HT_ HW_ => ?_);generalize w23.drew=w24 at a4 a3 HB hHeld ⊢; refine tk 0 18 (fb 19 1) HT_ HW_ hHeld ?_;refine o1 1 (some 19) (fb 19 3) HT_ (fun K hK => ?_);refine gs _ (#[.agg #[.string ((rd_T55 a1 a2).f0),.string ((rd_T55 a1 a2).f1),.bool ((rd_T55 a1 a2).f2)]]) Tryd.func40 ?_;(with_reducible refine (impl_goodEntry.calls k1 ((rd_T55 a1 a2).f0) ((rd_T55 a1 a2).f1) ((rd_T55 a1 a2).f2) true _ ?sideG aH.out).mono ?_;(case sideG=>exact gf HG.out HB.out));rintro e w25 ⟨rfl,hb⟩;refine ⟨_,rfl,?_⟩;refine Ya3 (bb a4 hb) (bb a3 hb) (below_step (bf HB.out) hb) ?_;clear a4 a3 HB;intro a4 a3 HB;(try clear hb);(try clear hb2);(try clear hk);(try clear hi);refine hK.out _ _ ⟨bc a3 0,bc a3 1,bc a3 2⟩ (fun hHeld => ?_);clear hK K;refine nm 19 ?_;refine pu 2 20 (fb 19 7) HT_ ?_;refine pu 3 21 (fb 19 15) HT_ ?_;refine pu 4 22 (fb 19 31) HT_ ?_;refine pu 5 23 (fb 19 63) HT_ ?_;refine pu 6 24 (fb 19 127) HT_ ?_;refine pn 7 25 (fb 19 255) HT_ ?_;refine pn 8 26 (fb 19 511) HT_ ?_;refine pn 9 27 (fb 19 1023) HT_ ?_;refine pn 10 28 (fb 19 2047) HT_ ?_;refine pn 11 29 (fb 19 4095) HT_ ?_;refine pn 12 30 (fb 19 8191) HT_ ?_;refine pn 13 31 (fb 19 16383) HT_ ?_;refine pn 14 32 (fb 19 32767) HT_ ?_;refine pn 15 33 (fb 19 65535) HT_ ?_;refine pn 16 34 (fb 19 131071) HT_ ?_;refine pu 17 35 (fb 19 262143) HT_ ?_;refine pu 18 36 (fb 19 524287) HT_ ?_;refine done_ (done_of HT_.out (by kernel_rfl)) ?_
          try go_wp2
          go_meet
          case rel=>exact ⟨_,(false),Ye1,H',⟨by have:=HK1.out;first|omega|exact Nat.le_refl _⟩,⟨bk a4.out⟩,⟨bk a3.out⟩,⟨bf HB.out⟩⟩
        ·replace an:=Bool.eq_false_iff.mpr an;subst an
         rw [if_neg (show ¬(false=true) by decide)] at H
         have H':=Aside0.mk H;clear H
         try go_wp2
         have ac:Aside0 ((((ab.setCell ⟨a5,0,none⟩ (.string ((rd_T55 a1 a2).f0))).setCell ⟨a5,1,none⟩ (.string ((rd_T55 a1 a2).f1))).setCell ⟨a5,2,none⟩ (.bool ((rd_T55 a1 a2).f2))).heap[af]? = some (.cells #[.slice (some a7) a1.length a9] 32 (0,0))):=⟨bkf a4.out aF.out⟩
         have ad:Aside0 ((((ab.setCell ⟨a5,0,none⟩ (.string ((rd_T55 a1 a2).f0))).setCell ⟨a5,1,none⟩ (.string ((rd_T55 a1 a2).f1))).setCell ⟨a5,2,none⟩ (.bool ((rd_T55 a1 a2).f2))).heap[a5]? = some (.cells #[.string ((rd_T55 a1 a2).f0),.string ((rd_T55 a1 a2).f1),.bool ((rd_T55 a1 a2).f2)] 55 (0,0))):=⟨bp a3.out⟩
         have ae:Aside0 (Below w.heap.size w (((ab.setCell ⟨a5,0,none⟩ (.string ((rd_T55 a1 a2).f0))).setCell ⟨a5,1,none⟩ (.string ((rd_T55 a1 a2).f1))).setCell ⟨a5,2,none⟩ (.bool ((rd_T55 a1 a2).f2)))):=⟨bf HB.out⟩
         (try clear a4);(try clear a3);(try clear HB);generalize (((ab.setCell ⟨a5,0,none⟩ (.string ((rd_T55 a1 a2).f0))).setCell ⟨a5,1,none⟩ (.string ((rd_T55 a1 a2).f1))).setCell ⟨a5,2,none⟩ (.bool ((rd_T55 a1 a2).f2)))=w26 at ac ad ae ⊢; have a4:=ac;have a3:=ad;have HB:=ae;clear ac ad ae;refine Ya3 (blk_drew a4.out) (blk_drew a3.out) (below_drew1 HB.out) ?_;clear a4 a3 HB;intro a4 a3 HB;refine start_ (n:=19) (S:=fun w'=>w'.cell? ⟨a5,0,none⟩=some (.string ((rd_T55 a1 a2).f0))∧w'.cell? ⟨a5,1,none⟩=some (.string ((rd_T55 a1 a2).f1))∧w'.cell? ⟨a5,2,none⟩=some (.bool ((rd_T55 a1 a2).f2))) (ds:=[]) (fb 19 0) (by kernel_rfl) rfl rfl ⟨bc a3 0,bc a3 1,bc a3 2⟩ (fun hHeld => ?_);refine with_tabW impl_ValidTree.tab6 impl_ValidTree.bits6 (fun HT_ HW_ => ?_);generalize w26.drew=w27 at a4 a3 HB hHeld ⊢; refine tk 0 18 (fb 19 1) HT_ HW_ hHeld ?_;refine o1 1 (some 19) (fb 19 3) HT_ (fun K hK => ?_);refine gs _ (#[.agg #[.string ((rd_T55 a1 a2).f0),.string ((rd_T55 a1 a2).f1),.bool ((rd_T55 a1 a2).f2)]]) Tryd.func40 ?_;(with_reducible refine (impl_goodEntry.calls k1 ((rd_T55 a1 a2).f0) ((rd_T55 a1 a2).f1) ((rd_T55 a1 a2).f2) false _ ?sideG aH.out).mono ?_;(case sideG=>exact gf HG.out HB.out));rintro e w28 ⟨rfl,hb⟩;refine ⟨_,rfl,?_⟩;refine Ya3 (bb a4 hb) (bb a3 hb) (below_step (bf HB.out) hb) ?_;clear a4 a3 HB;intro a4 a3 HB;(try clear hb);(try clear hb2);(try clear hk);(try clear hi);refine hK.out _ _ ⟨bc a3 0,bc a3 1,bc a3 2⟩ (fun hHeld => ?_);clear hK K;refine nm 19 ?_;refine pu 2 20 (fb 19 7) HT_ ?_;refine pu 3 21 (fb 19 15) HT_ ?_;refine pn 4 22 (fb 19 31) HT_ ?_;refine pn 5 23 (fb 19 63) HT_ ?_;refine pn 6 24 (fb 19 127) HT_ ?_;refine pn 7 25 (fb 19 255) HT_ ?_;refine pn 8 26 (fb 19 511) HT_ ?_;refine pn 9 27 (fb 19 1023) HT_ ?_;refine pn 10 28 (fb 19 2047) HT_ ?_;refine pn 11 29 (fb 19 4095) HT_ ?_;refine pn 12 30 (fb 19 8191) HT_ ?_;refine pn 13 31 (fb 19 16383) HT_ ?_;refine pn 14 32 (fb 19 32767) HT_ ?_;refine pn 15 33 (fb 19 65535) HT_ ?_;refine pn 16 34 (fb 19 131071) HT_ ?_;refine pn 17 35 (fb 19 262143) HT_ ?_;refine pu 18 36 (fb 19 524287) HT_ ?_;refine done_ (done_of HT_.out (by kernel_rfl)) ?_
         try go_wp2
         go_meet
         case rel=>exact ⟨_,(true),Ye1,H',⟨by have:=HK1.out;first|omega|exact Nat.le_refl _⟩,⟨bk a4.out⟩,⟨bk a3.out⟩,⟨bf HB.out⟩⟩
       case rest =>
        clear aU;(try clear c1);(try clear p2);(try clear q2);(try clear hx2);(try clear c4);(try clear p6);(try clear c7);(try clear aT);(try clear c8);(try clear b1);(try clear c9);(try clear b2);(try clear c12);(try clear an);(try clear aj);(try clear ak);(try clear ap);(try clear bh);(try clear aq);(try clear bi);(try clear p28);(try clear q28);(try clear hx28);(try clear b6);(try clear b7);(try clear b8);(try clear aP);(try clear aR);(try clear b9);(try clear ba);(try clear bd);(try clear aQ);(try clear aS);(try clear b3);(try clear b4);(try clear b5);(try clear ar);(try clear au);(try clear av);(try clear ay);(try clear aA);(try clear az);(try clear aB);obtain ⟨kq,aG,rfl,HA,HJ9,a4,a3,HB⟩:=hcut
        cases kq with
        | zero=>exact absurd HA.out (by simp [impl_ValidTree.j1])
        | succ kj9 =>
         have H:=HA.out;clear HA;simp only [impl_ValidTree.j1] at H
         by_cases aC:aG=true
         ·subst aC
          rw [if_pos rfl] at H
          obtain rfl:=Option.some.inj H
          go_wp2
          go_ret
          exact ⟨Ye2,(bf HB.out)⟩
         ·replace aC:=Bool.eq_false_iff.mpr aC;subst aC
          rw [if_neg (show ¬(false=true) by decide)] at H
          have H':=Aside0.mk H;clear H
          go_wp2
          go_loopg [5] kj9 (fun kq v5 w' => ∃ (a6:Int),v5 = .int .i64 a6∧Aside0 (impl_ValidTree.l1 kq a2 a6 a1 (a1.length:Int) a2 a1 ((rd_T55 a1 a2).f0) ((rd_T55 a1 a2).f1) ((rd_T55 a1 a2).f2)=some r)∧Aside0 (kq≤kj9)∧Aside0 (w'.heap[af]? = some (.cells #[(.slice (some a7) a1.length a9)] 32 (0,0)))∧Aside0 (w'.heap[a5]? = some (.cells #[.string ((rd_T55 a1 a2).f0),.string ((rd_T55 a1 a2).f1),.bool ((rd_T55 a1 a2).f2)] 55 (0,0)))∧Aside0 (Below w.heap.size w w'))
          case atStart=>exact ⟨(0),Ye1,H',⟨Nat.le_refl _⟩,⟨bk a4.out⟩,⟨bk a3.out⟩,⟨bf HB.out⟩⟩
          case round =>
           clear H';(try clear c1);(try clear c2);(try clear p2);(try clear q2);(try clear hx2);(try clear c4);(try clear p6);(try clear c7);(try clear aT);(try clear c8);(try clear b1);(try clear c9);(try clear b2);(try clear c12);(try clear an);(try clear aj);(try clear ak);(try clear ap);(try clear bh);(try clear aq);(try clear bi);(try clear p28);(try clear q28);(try clear hx28);(try clear aC);(try clear b6);(try clear b7);(try clear b8);(try clear aP);(try clear aR);(try clear b9);(try clear ba);(try clear bd);(try clear aQ);(try clear aS);(try clear b3);(try clear b4);(try clear b5);(try clear ar);(try clear au);(try clear av);(try clear p2);(try clear p28);(try clear ay);(try clear aA);(try clear p6);(try clear q2);(try clear q28);(try clear az);(try clear aB);obtain ⟨a6,rfl,HA,HK3,a4,a3,HB⟩:=hrel
           cases gk with
           | zero=>exact absurd HA.out (by simp [impl_ValidTree.l1])
           | succ k3 =>
            have H:=HA.out;clear HA;simp only [impl_ValidTree.l1] at H
            by_cases aw:a6<a2
            ·rw [if_pos aw] at H
             have bw:decide (a6<a2)=true:=decide_eq_true aw;clear aw
             by_cases aI:0≤a6
             ·rw [if_pos aI] at H
              have c31b0:decide (0≤a6)=true:=decide_eq_true aI;clear aI
              by_cases aJ:a6<(a1.length:Int)
              ·rw [if_pos aJ] at H
               have c32b0:decide (a6<(a1.length:Int))=true:=decide_eq_true aJ;clear aJ;replace H:=Option.bind_eq_some_iff.mp H;obtain ⟨aO,bj,H⟩:=H;(try dsimp only at H);have A33:=Aside0.mk bj;clear bj
               by_cases aK:aO=true
               ·subst aK
                rw [if_pos rfl] at H
                obtain rfl:=Option.some.inj H
                try go_wp2
                refine Ya3 (blk_drew a4.out) (blk_drew a3.out) (below_drew1 HB.out) ?_;clear a4 a3 HB;intro a4 a3 HB;have al:0≤(a6:Int):=oda;have am:a6<(a1.length:Int):=oda;obtain ⟨aV,aW,ag,ah,ai⟩:=at_T55 aE.out a6 al am;have hw288_2:=ai;have hw288_1:=ah;have hw288_0:=ag
                obtain rfl:a7=aV:=(by injection aW)
                replace ag:=pw_cell_below HB.out ag;replace ah:=pw_cell_below HB.out ah;replace ai:=pw_cell_below HB.out ai;replace al:=eq_true al;replace am:=eq_true am;refine start_ (n:=9) (S:=fun w'=>w'.cell? ⟨af,0,none⟩=some (.slice (some a7) a1.length a9)∧w'.cell? ⟨a5,0,none⟩=some (.string ((rd_T55 a1 a2).f0))∧w'.cell? ⟨a5,1,none⟩=some (.string ((rd_T55 a1 a2).f1))∧w'.cell? ⟨a5,2,none⟩=some (.bool ((rd_T55 a1 a2).f2))∧w'.cell? (a7.add ((a6).toNat*3))=some (.string ((rd_T55 a1 a6).f0))∧w'.cell? ⟨(a7.add ((a6).toNat*3)).block,(a7.add ((a6).toNat*3)).off+1,none⟩=some (.string ((rd_T55 a1 a6).f1))∧w'.cell? ⟨(a7.add ((a6).toNat*3)).block,(a7.add ((a6).toNat*3)).off+2,none⟩=some (.bool ((rd_T55 a1 a6).f2))) (ds:=[]) (fb 9 0) (by kernel_rfl) rfl rfl ⟨bc a4 0,bc a3 0,bc a3 1,bc a3 2,(pw_cell_below HB.out hw288_0),(pw_cell_below HB.out hw288_1),(pw_cell_below HB.out hw288_2)⟩ (fun hHeld => ?_);refine with_tabW impl_ValidTree.tab11 impl_ValidTree.bits11 (fun HT_ HW_ => ?_);generalize wr.drew=w35 at a4 a3 HB ag ah ai hHeld ⊢; refine pu 0 42 (fb 9 1) HT_ ?_;refine pu 2 44 (fb 9 5) HT_ ?_;refine pu 6 48 (fb 9 69) HT_ ?_;refine tk 1 43 (fb 9 71) HT_ HW_ hHeld ?_;refine pu 3 45 (fb 9 79) HT_ ?_;refine pu 4 46 (fb 9 95) HT_ ?_;refine tk 5 47 (fb 9 127) HT_ HW_ hHeld ?_;refine tk 7 49 (fb 9 255) HT_ HW_ hHeld ?_;refine o1 8 (some 50) (fb 9 511) HT_ (fun K hK => ?_);refine gs _ (#[.string ((rd_T55 a1 a6).f0),.string ((rd_T55 a1 a2).f0)]) Tryd.func41 ?_;(with_reducible refine (impl_over.calls ((rd_T55 a1 a6).f0) ((rd_T55 a1 a2).f0) true _ A33.out).mono ?_);rintro e w' ⟨rfl,⟨nd,rfl⟩⟩;refine ⟨_,rfl,?_⟩;refine hK.out _ _ ⟨bc a4 0,bc a3 0,bc a3 1,bc a3 2,(pw_cell_below HB.out hw288_0),(pw_cell_below HB.out hw288_1),(pw_cell_below HB.out hw288_2)⟩ (fun hHeld => ?_);clear hK K;refine nm 50 ?_;refine done_ (done_of HT_.out (by kernel_rfl)) ?_
                try go_wp2
                go_ret
                exact ⟨Ye2,(bf HB.out)⟩
               ·replace aK:=Bool.eq_false_iff.mpr aK;subst aK
                rw [if_neg (show ¬(false=true) by decide)] at H
                have H':=Aside0.mk H;clear H
                try go_wp2
                refine Ya3 (blk_drew a4.out) (blk_drew a3.out) (below_drew1 HB.out) ?_;clear a4 a3 HB;intro a4 a3 HB;have al:0≤(a6:Int):=oda;have am:a6<(a1.length:Int):=oda;obtain ⟨aV,aW,ag,ah,ai⟩:=at_T55 aE.out a6 al am;have hw288_2:=ai;have hw288_1:=ah;have hw288_0:=ag
                obtain rfl:a7=aV:=(by injection aW)
                replace ag:=pw_cell_below HB.out ag;replace ah:=pw_cell_below HB.out ah;replace ai:=pw_cell_below HB.out ai;replace al:=eq_true al;replace am:=eq_true am;refine start_ (n:=9) (S:=fun w'=>w'.cell? ⟨af,0,none⟩=some (.slice (some a7) a1.length a9)∧w'.cell? ⟨a5,0,none⟩=some (.string ((rd_T55 a1 a2).f0))∧w'.cell? ⟨a5,1,none⟩=some (.string ((rd_T55 a1 a2).f1))∧w'.cell? ⟨a5,2,none⟩=some (.bool ((rd_T55 a1 a2).f2))∧w'.cell? (a7.add ((a6).toNat*3))=some (.string ((rd_T55 a1 a6).f0))∧w'.cell? ⟨(a7.add ((a6).toNat*3)).block,(a7.add ((a6).toNat*3)).off+1,none⟩=some (.string ((rd_T55 a1 a6).f1))∧w'.cell? ⟨(a7.add ((a6).toNat*3)).block,(a7.add ((a6).toNat*3)).off+2,none⟩=some (.bool ((rd_T55 a1 a6).f2))) (ds:=[]) (fb 9 0) (by kernel_rfl) rfl rfl ⟨bc a4 0,bc a3 0,bc a3 1,bc a3 2,(pw_cell_below HB.out hw288_0),(pw_cell_below HB.out hw288_1),(pw_cell_below HB.out hw288_2)⟩ (fun hHeld => ?_);refine with_tabW impl_ValidTree.tab11 impl_ValidTree.bits11 (fun HT_ HW_ => ?_);generalize wr.drew=w36 at a4 a3 HB ag ah ai hHeld ⊢; refine pu 0 42 (fb 9 1) HT_ ?_;refine pu 2 44 (fb 9 5) HT_ ?_;refine pu 6 48 (fb 9 69) HT_ ?_;refine tk 1 43 (fb 9 71) HT_ HW_ hHeld ?_;refine pu 3 45 (fb 9 79) HT_ ?_;refine pu 4 46 (fb 9 95) HT_ ?_;refine tk 5 47 (fb 9 127) HT_ HW_ hHeld ?_;refine tk 7 49 (fb 9 255) HT_ HW_ hHeld ?_;refine o1 8 (some 50) (fb 9 511) HT_ (fun K hK => ?_);refine gs _ (#[.string ((rd_T55 a1 a6).f0),.string ((rd_T55 a1 a2).f0)]) Tryd.func41 ?_;(with_reducible refine (impl_over.calls ((rd_T55 a1 a6).f0) ((rd_T55 a1 a2).f0) false _ A33.out).mono ?_);rintro e w' ⟨rfl,⟨nd,rfl⟩⟩;refine ⟨_,rfl,?_⟩;refine hK.out _ _ ⟨bc a4 0,bc a3 0,bc a3 1,bc a3 2,(pw_cell_below HB.out hw288_0),(pw_cell_below HB.out hw288_1),(pw_cell_below HB.out hw288_2)⟩ (fun hHeld => ?_);clear hK K;refine nm 50 ?_;refine done_ (done_of HT_.out (by kernel_rfl)) ?_
                try go_wp2
                go_roundg k3
                case measure=>have:=HK1.out;have:=HJ9.out;have:=HK3.out;omega
                case rel=>exact ⟨(wrap64 (a6+1)),Ye1,H',⟨by have:=HK1.out;have:=HJ9.out;have:=HK3.out;omega⟩,⟨bk a4.out⟩,⟨bk a3.out⟩,⟨bf HB.out⟩⟩
              ·rw [if_neg aJ] at H
               exact absurd H (by simp)
             ·rw [if_neg aI] at H
              exact absurd H (by simp)
            ·rw [if_neg aw] at H
             have bw:decide (a6<a2)=false:=decide_eq_false aw;clear aw;have H':=Aside0.mk H;clear H
             go_wp2
             go_roundg k3
             case measure=>have:=HK1.out;have:=HJ9.out;have:=HK3.out;omega
             case rel=>exact ⟨(wrap64 (a2+1)),Ye1,H',⟨by have:=HK1.out;have:=HJ9.out;have:=HK3.out;omega⟩,⟨bk a4.out⟩,⟨bf HB.out⟩⟩
      ·rw [if_neg c9] at H
       exact absurd H (by simp)
     ·rw [if_neg c8] at H
      exact absurd H (by simp)
    ·rw [if_neg c7] at H
     have aT:decide (a2<(a1.length:Int))=false:=decide_eq_false c7;clear c7;obtain rfl:=Option.some.inj H
     go_wp2
     go_ret
     exact ⟨Ye2,(bf HB.out)⟩

end Go.Proofs.YthfpoacindblgaaDoor.P


namespace Go.Proofs.YthfpoacindblgaaDoor.P
open Go.RowKit Go.Proofs.YthfpoacindblgaaDoorW.PrintWords Go.Proofs.YthfpoacindblgaaDoorW.PrintLast Go.Proofs.YthfpoacindblgaaDoorW.PrintMore
attribute [local go_sem] max2_int min2_int max_two min_two max_three min_three max_four min_four
set_option linter.unusedVariables false
set_option linter.unusedSimpArgs false

def spec_l5Begins.f (a0:ByteArray) (a1:ByteArray):Option (Bool):=if (a1.size:Int)>(a0.size:Int) then (if 0≤(a0.size:Int) then (if (a0.size:Int)≤(a1.size:Int) then (if (a1.extract 0 ((a0.size:Int):Int).toNat).toList=a0.toList then (if (a0.size:Int)<(a1.size:Int) then (some ((bt a1 (a0.size:Int))==47)) else (none)) else (some false)) else (none)) else (none)) else (some false)
set_option maxHeartbeats 8000000 in
set_option maxRecDepth 100000 in
theorem spec_l5Begins.calls (a0:ByteArray) (a1:ByteArray) (r:Bool) (w:World) (h:spec_l5Begins.f a0 a1=some r) :
  Calls Tryd.prog 38 #[.string a0,.string a1] w fun e w'=>e = .returned (.bool r)∧Drawn0 w w':=by
 have H:(if (a1.size:Int)>(a0.size:Int) then (if 0≤(a0.size:Int) then (if (a0.size:Int)≤(a1.size:Int) then (if (a1.extract 0 ((a0.size:Int):Int).toNat).toList=a0.toList then (if (a0.size:Int)<(a1.size:Int) then (some ((bt a1 (a0.size:Int))==47)) else (none)) else (some false)) else (none)) else (none)) else (some false))=some r:=h;clear h
 by_cases c3:(a1.size:Int)>(a0.size:Int)
 ·rw [if_pos c3] at H
  have a6:decide ((a0.size:Int)<(a1.size:Int))=true:=decide_eq_true c3;have a7:decide (a0.size<a1.size)=true:=decide_eq_true (Int.ofNat_lt.mp c3);clear c3
  by_cases c4:0≤(a0.size:Int)
  ·rw [if_pos c4] at H
   have c4b0:=eq_true c4;have c4b1:decide (0≤(a0.size:Int))=true:=decide_eq_true c4;clear c4
   by_cases c5:(a0.size:Int)≤(a1.size:Int)
   ·rw [if_pos c5] at H
    have c5b0:=eq_true c5;have c5b1:decide ((a0.size:Int)≤(a1.size:Int))=true:=decide_eq_true c5;clear c5
    by_cases c6:(a1.extract 0 ((a0.size:Int):Int).toNat).toList=a0.toList
    ·rw [if_pos c6] at H
     have a2:((a1.extract 0 ((a0.size:Int):Int).toNat).toList==a0.toList)=true:=beq_iff_eq.mpr c6;have a3:=a2;(try simp only [Int.toNat_natCast] at a3);have a4:((a1.extract 0 ((a0.size:Int):Int).toNat).toList != a0.toList)=false:=bne_eq_false_iff_eq.mpr c6;have a5:=a4;(try simp only [Int.toNat_natCast] at a5);clear c6
     by_cases c7:(a0.size:Int)<(a1.size:Int)
     ·rw [if_pos c7] at H
      have c7b0:decide ((a0.size:Int)<(a1.size:Int))=true:=decide_eq_true c7;have c7b1:decide (a0.size<a1.size)=true:=decide_eq_true (Int.ofNat_lt.mp c7);clear c7;obtain rfl:=Option.some.inj H;have p8:0≤((a0.size:Int):Int):=oda;have q8:(a0.size:Int)<(a1.size:Int):=oda;have hx8:=bt_at a1 (a0.size:Int);(try have hx8n:=hx8 (by omega));(try simp only [Int.toNat_natCast] at hx8n);replace p8:=eq_true p8;replace q8:=eq_true q8
      go_enter Tryd.func38,Tryd.ntmps38
      go_wp2
      go_ret
      exact ⟨Ye1,dz⟩
     ·rw [if_neg c7] at H
      exact absurd H (by simp)
    ·rw [if_neg c6] at H
     have a2:((a1.extract 0 ((a0.size:Int):Int).toNat).toList==a0.toList)=false:=beq_eq_false_iff_ne.mpr c6;have a3:=a2;(try simp only [Int.toNat_natCast] at a3);have a4:((a1.extract 0 ((a0.size:Int):Int).toNat).toList != a0.toList)=true:=bne_iff_ne.mpr c6;have a5:=a4;(try simp only [Int.toNat_natCast] at a5);obtain rfl:=Option.some.inj H
     go_enter Tryd.func38,Tryd.ntmps38
     go_wp2
     go_ret
     exact ⟨Ye1,dz⟩
   ·rw [if_neg c5] at H
    exact absurd H (by simp)
  ·rw [if_neg c4] at H
   exact absurd H (by simp)
 ·rw [if_neg c3] at H
  have a6:decide ((a0.size:Int)<(a1.size:Int))=false:=decide_eq_false c3;have a7:decide (a0.size<a1.size)=false:=decide_eq_false (fun h=>c3 (Int.ofNat_lt.mpr h));clear c3;obtain rfl:=Option.some.inj H
  go_enter Tryd.func38,Tryd.ntmps38
  go_wp2
  go_ret
  exact ⟨Ye1,dz⟩

end Go.Proofs.YthfpoacindblgaaDoor.P


namespace Go.Proofs.YthfpoacindblgaaDoor.P
open Go.RowKit Go.Proofs.YthfpoacindblgaaDoorW.PrintWords Go.Proofs.YthfpoacindblgaaDoorW.PrintLast Go.Proofs.YthfpoacindblgaaDoorW.PrintMore
attribute [local go_sem] max2_int min2_int max_two min_two max_three min_three max_four min_four
set_option linter.unusedVariables false
set_option linter.unusedSimpArgs false

def spec_l1In.f (a0:Int) (a1:Int) (a2:Int):Option (Bool):=if a0 ≥ a1 then (some (decide (a0≤a2))) else (some false)
set_option maxHeartbeats 8000000 in
set_option maxRecDepth 100000 in
theorem spec_l1In.calls (a0:Int) (a1:Int) (a2:Int) (r:Bool) (w:World) (h:spec_l1In.f a0 a1 a2=some r) :
  Calls Tryd.prog 33 #[.int .i64 a0,.int .i64 a1,.int .i64 a2] w fun e w'=>e = .returned (.bool r)∧Drawn0 w w':=by
 have H:(if a0 ≥ a1 then (some (decide (a0≤a2))) else (some false))=some r:=h;clear h
 by_cases c4:a0 ≥ a1
 ·rw [if_pos c4] at H
  have a3:decide (a1≤a0)=true:=decide_eq_true c4;clear c4;obtain rfl:=Option.some.inj H
  go_enter Tryd.func33,Tryd.ntmps33
  go_wp2
  go_ret
  exact ⟨Ye1,dz⟩
 ·rw [if_neg c4] at H
  have a3:decide (a1≤a0)=false:=decide_eq_false c4;clear c4;obtain rfl:=Option.some.inj H
  go_enter Tryd.func33,Tryd.ntmps33
  go_wp2
  go_ret
  exact ⟨Ye1,dz⟩

end Go.Proofs.YthfpoacindblgaaDoor.P


namespace Go.Proofs.YthfpoacindblgaaDoor.P
open Go.RowKit Go.Proofs.YthfpoacindblgaaDoorW.PrintWords Go.Proofs.YthfpoacindblgaaDoorW.PrintLast Go.Proofs.YthfpoacindblgaaDoorW.PrintMore
attribute [local go_sem] max2_int min2_int max_two min_two max_three min_three max_four min_four
set_option linter.unusedVariables false
set_option linter.unusedSimpArgs false

mutual
def spec_l4PartOk.j0:Nat→ByteArray→Bool→Bool→Option (Bool)
 | 0,_,_,_=>none
 | k+1,x0,x1,x17=>if x17=true then (some false) else (spec_l4PartOk.l0 k x0 x1 0)
def spec_l4PartOk.l0:Nat→ByteArray→Bool→Int→Option (Bool)
 | 0,_,_,_=>none
 | k+1,x0,x1,x5=>if x5<(x0.size:Int) then (if 0≤x5 then (if (bt x0 x5)<33 then (some false) else (if (bt x0 x5)>126 then (some false) else (if (bt x0 x5)=47 then (some false) else (if (bt x0 x5)=34 then (some false) else (if x1=true then (spec_l4PartOk.l0 k x0 x1 (wrap64 (x5+1))) else (if (bt x0 x5)=42 then (some false) else (if (bt x0 x5)=63 then (some false) else (spec_l4PartOk.l0 k x0 x1 (wrap64 (x5+1)))))))))) else (none)) else (some true)
end
def spec_l4PartOk.f (k:Nat) (a0:ByteArray) (a1:Bool):Option (Bool):=(spec_l1In.f (a0.size:Int) 1 20).bind fun aa=>(if aa=true then (if a0.toList=([46]:List UInt8) then (spec_l4PartOk.j0 k a0 a1 true) else (spec_l4PartOk.j0 k a0 a1 (a0.toList==([46,46]:List UInt8)))) else (spec_l4PartOk.j0 k a0 a1 true))
theorem spec_l4PartOk.mono_l:∀ k,(∀ y0 y1 y2,LeO (spec_l4PartOk.j0 k y0 y1 y2) (spec_l4PartOk.j0 (k+1) y0 y1 y2))∧(∀ y0 y1 y2,LeO (spec_l4PartOk.l0 k y0 y1 y2) (spec_l4PartOk.l0 (k+1) y0 y1 y2))
 | 0=>⟨fun _ _ _ r h=>by simp [spec_l4PartOk.j0] at h,fun _ _ _ r h=>by simp [spec_l4PartOk.l0] at h⟩
 | k + 1 => by
  obtain ⟨ih0,ih1⟩:=spec_l4PartOk.mono_l k;refine ⟨?_,?_⟩
  ·intro y0 y1 y2
   unfold spec_l4PartOk.j0
   exact mo2 ih0 ih1
  ·intro y0 y1 y2
   unfold spec_l4PartOk.l0
   exact mo2 ih0 ih1
theorem spec_l4PartOk.mono:∀ a0 a1 k,LeO (spec_l4PartOk.f k a0 a1) (spec_l4PartOk.f (k+1) a0 a1):=by
 intro a0 a1 k;obtain ⟨ih0,ih1⟩:=spec_l4PartOk.mono_l k
 unfold spec_l4PartOk.f
 exact mo2 ih0 ih1
set_option maxHeartbeats 8000000 in
set_option maxRecDepth 100000 in
theorem spec_l4PartOk.calls (k : Nat) (a0 : ByteArray) (a1 : Bool) (r : Bool) (w : World) (h : spec_l4PartOk.f k a0 a1 = some r) :
  Calls Tryd.prog 52 #[.string a0,.bool a1] w fun e w'=>e = .returned (.bool r)∧Drawn0 w w':=by
 have H:((spec_l1In.f (a0.size:Int) 1 20).bind fun aa=>(if aa=true then (if a0.toList=([46]:List UInt8) then (spec_l4PartOk.j0 k a0 a1 true) else (spec_l4PartOk.j0 k a0 a1 (a0.toList==([46,46]:List UInt8)))) else (spec_l4PartOk.j0 k a0 a1 true)))=some r:=h;clear h;have ad:=Aside0.mk H;clear H
 go_enter Tryd.func52,Tryd.ntmps52
 go_upto_region 1 with (fail)
 go_cut [17] (fun v17 wc => ∃ (kq:Nat) (ab:Bool),v17 = .bool ab∧Aside0 (spec_l4PartOk.j0 kq a0 a1 ab=some r)∧Aside0 (kq≤k)∧Drawn0 w wc)
 case first =>
  have H:=ad.out;clear ad;replace H:=Option.bind_eq_some_iff.mp H;obtain ⟨aa,A40,H⟩:=H;(try dsimp only at H);have A4:=Aside0.mk A40;clear A40
  by_cases c5:aa=true
  ·subst c5
   rw [if_pos rfl] at H
   by_cases c6:a0.toList=([46]:List UInt8)
   ·rw [if_pos c6] at H
    have a3:(a0.toList==([46]:List UInt8))=true:=beq_iff_eq.mpr c6;have ae:(a0.toList != ([46]:List UInt8))=false:=bne_eq_false_iff_eq.mpr c6;clear c6;(first|rw [a3]|(simp only [i64_w,i32_w];rw [a3])|skip);have H':=Aside0.mk H;clear H
    go_wp2_with (first|((with_reducible refine gc 33 rfl ?_);refine gl (some 8) _ (#[.int .i64 (a0.size:Int),.int .i64 1,.int .i64 20]) Tryd.func33 ?_;(with_reducible refine (spec_l1In.calls (a0.size:Int) 1 20 true _ A4.out).mono ?_);rintro e w' ⟨rfl,⟨nd,rfl⟩⟩;refine ⟨_,rfl,?_⟩))
    go_meet
    case rel=>exact ⟨_,(true),Ye1,H',⟨by first|omega|exact Nat.le_refl _⟩,dz⟩
   ·rw [if_neg c6] at H
    have a3:(a0.toList==([46]:List UInt8))=false:=beq_eq_false_iff_ne.mpr c6;have ae:(a0.toList != ([46]:List UInt8))=true:=bne_iff_ne.mpr c6;(first|rw [a3]|(simp only [i64_w,i32_w];rw [a3])|skip);have H':=Aside0.mk H;clear H
    go_wp2_with (first|((with_reducible refine gc 33 rfl ?_);refine gl (some 8) _ (#[.int .i64 (a0.size:Int),.int .i64 1,.int .i64 20]) Tryd.func33 ?_;(with_reducible refine (spec_l1In.calls (a0.size:Int) 1 20 true _ A4.out).mono ?_);rintro e w' ⟨rfl,⟨nd,rfl⟩⟩;refine ⟨_,rfl,?_⟩))
    go_meet
    case rel=>exact ⟨_,((a0.toList==([46,46]:List UInt8))),Ye1,H',⟨by first|omega|exact Nat.le_refl _⟩,dz⟩
  ·replace c5:=Bool.eq_false_iff.mpr c5;subst c5
   rw [if_neg (show ¬(false=true) by decide)] at H
   have H':=Aside0.mk H;clear H
   go_wp2_with (first|((with_reducible refine gc 33 rfl ?_);refine gl (some 8) _ (#[.int .i64 (a0.size:Int),.int .i64 1,.int .i64 20]) Tryd.func33 ?_;(with_reducible refine (spec_l1In.calls (a0.size:Int) 1 20 false _ A4.out).mono ?_);rintro e w' ⟨rfl,⟨nd,rfl⟩⟩;refine ⟨_,rfl,?_⟩))
   go_meet
   case rel=>exact ⟨_,(true),Ye1,H',⟨by first|omega|exact Nat.le_refl _⟩,dz⟩
 case rest =>
  clear ad;(try clear p2);(try clear c3);(try clear c5);(try clear c6);(try clear a3);(try clear ae);obtain ⟨kq,ab,rfl,HA,HJ2,⟨mc2,rfl⟩⟩:=hcut
  cases kq with
  | zero=>exact absurd HA.out (by simp [spec_l4PartOk.j0])
  | succ kj2 =>
   have H:=HA.out;clear HA;simp only [spec_l4PartOk.j0] at H
   by_cases c7:ab=true
   ·subst c7
    rw [if_pos rfl] at H
    obtain rfl:=Option.some.inj H
    go_wp2
    go_ret
    exact ⟨Ye1,dz⟩
   ·replace c7 := Bool.eq_false_iff.mpr c7; subst c7
    rw [if_neg (show ¬(false=true) by decide)] at H
    have H':=Aside0.mk H;clear H
    go_wp2
    go_loopg [5] kj2 (fun kq v5 w' => ∃ (a2:Int),v5 = .int .i64 a2∧Aside0 (spec_l4PartOk.l0 kq a0 a1 a2=some r)∧Aside0 (kq≤kj2)∧Drawn0 w w')
    case atStart=>exact ⟨(0),Ye1,H',⟨Nat.le_refl _⟩,dz⟩
    case round =>
     clear H';(try clear c2);(try clear p2);(try clear c3);(try clear c5);(try clear c6);(try clear a3);(try clear ae);(try clear c7);(try clear p2);obtain ⟨a2,rfl,HA,HK2,⟨m2,rfl⟩⟩:=hrel
     cases gk with
     | zero=>exact absurd HA.out (by simp [spec_l4PartOk.l0])
     | succ k2 =>
      have H:=HA.out;clear HA;simp only [spec_l4PartOk.l0] at H
      by_cases c8:a2<(a0.size:Int)
      ·rw [if_pos c8] at H
       have af:decide (a2<(a0.size:Int))=true:=decide_eq_true c8;clear c8
       by_cases c9:0≤a2
       ·rw [if_pos c9] at H
        have c9b0:decide (0≤a2)=true:=decide_eq_true c9;clear c9
        by_cases a8:(bt a0 a2)<33
        ·rw [if_pos a8] at H
         have ag:decide ((bt a0 a2)<33)=true:=decide_eq_true a8;clear a8;obtain rfl:=Option.some.inj H;have p10:0≤(a2:Int):=oda;have q10:a2<(a0.size:Int):=oda;have hx10:=bt_at a0 a2;replace p10:=eq_true p10;replace q10:=eq_true q10
         go_wp2
         go_ret
         exact ⟨Ye1,dz⟩
        ·rw [if_neg a8] at H
         have ag:decide ((bt a0 a2)<33)=false:=decide_eq_false a8;clear a8
         by_cases a9:(bt a0 a2)>126
         ·rw [if_pos a9] at H
          have ah:decide (126<(bt a0 a2))=true:=decide_eq_true a9;clear a9;obtain rfl:=Option.some.inj H;have p10:0≤(a2:Int):=oda;have q10:a2<(a0.size:Int):=oda;have hx10:=bt_at a0 a2;replace p10:=eq_true p10;replace q10:=eq_true q10;have p12:0≤(a2:Int):=oda;have q12:a2<(a0.size:Int):=oda;have hx12:=bt_at a0 a2;replace p12:=eq_true p12;replace q12:=eq_true q12
          go_wp2
          go_ret
          exact ⟨Ye1,dz⟩
         ·rw [if_neg a9] at H
          have ah:decide (126<(bt a0 a2))=false:=decide_eq_false a9;clear a9
          by_cases a4:(bt a0 a2)=47
          ·rw [if_pos a4] at H
           have ai:((bt a0 a2)==47)=true:=beq_iff_eq.mpr a4;have aj:((bt a0 a2) != 47)=false:=bne_eq_false_iff_eq.mpr a4;clear a4;obtain rfl:=Option.some.inj H;have p10:0≤(a2:Int):=oda;have q10:a2<(a0.size:Int):=oda;have hx10:=bt_at a0 a2;replace p10:=eq_true p10;replace q10:=eq_true q10;have p12:0≤(a2:Int):=oda;have q12:a2<(a0.size:Int):=oda;have hx12:=bt_at a0 a2;replace p12:=eq_true p12;replace q12:=eq_true q12;have p14:0≤(a2:Int):=oda;have q14:a2<(a0.size:Int):=oda;have hx14:=bt_at a0 a2;replace p14:=eq_true p14;replace q14:=eq_true q14
           go_wp2
           go_ret
           exact ⟨Ye1,dz⟩
          ·rw [if_neg a4] at H
           have ai:((bt a0 a2)==47)=false:=beq_eq_false_iff_ne.mpr a4;have aj:((bt a0 a2) != 47)=true:=bne_iff_ne.mpr a4
           by_cases a5:(bt a0 a2)=34
           ·rw [if_pos a5] at H
            have ak:((bt a0 a2)==34)=true:=beq_iff_eq.mpr a5;have al:((bt a0 a2) != 34)=false:=bne_eq_false_iff_eq.mpr a5;clear a5;obtain rfl:=Option.some.inj H;have p10:0≤(a2:Int):=oda;have q10:a2<(a0.size:Int):=oda;have hx10:=bt_at a0 a2;replace p10:=eq_true p10;replace q10:=eq_true q10;have p12:0≤(a2:Int):=oda;have q12:a2<(a0.size:Int):=oda;have hx12:=bt_at a0 a2;replace p12:=eq_true p12;replace q12:=eq_true q12;have p14:0≤(a2:Int):=oda;have q14:a2<(a0.size:Int):=oda;have hx14:=bt_at a0 a2;replace p14:=eq_true p14;replace q14:=eq_true q14;have p16:0≤(a2:Int):=oda;have q16:a2<(a0.size:Int):=oda;have hx16:=bt_at a0 a2;replace p16:=eq_true p16;replace q16:=eq_true q16
            go_wp2
            go_ret
            exact ⟨Ye1,dz⟩
           ·rw [if_neg a5] at H
            have ak:((bt a0 a2)==34)=false:=beq_eq_false_iff_ne.mpr a5;have al:((bt a0 a2) != 34)=true:=bne_iff_ne.mpr a5
            by_cases ac:a1=true
            ·subst ac
             rw [if_pos rfl] at H
             have H':=Aside0.mk H;clear H;have p10:0≤(a2:Int):=oda;have q10:a2<(a0.size:Int):=oda;have hx10:=bt_at a0 a2;replace p10:=eq_true p10;replace q10:=eq_true q10;have p12:0≤(a2:Int):=oda;have q12:a2<(a0.size:Int):=oda;have hx12:=bt_at a0 a2;replace p12:=eq_true p12;replace q12:=eq_true q12;have p14:0≤(a2:Int):=oda;have q14:a2<(a0.size:Int):=oda;have hx14:=bt_at a0 a2;replace p14:=eq_true p14;replace q14:=eq_true q14;have p16:0≤(a2:Int):=oda;have q16:a2<(a0.size:Int):=oda;have hx16:=bt_at a0 a2;replace p16:=eq_true p16;replace q16:=eq_true q16
             go_wp2
             go_roundg k2
             case measure=>have:=HJ2.out;have:=HK2.out;omega
             case rel=>exact ⟨(wrap64 (a2+1)),Ye1,H',⟨by have:=HJ2.out;have:=HK2.out;omega⟩,dz⟩
            ·replace ac:=Bool.eq_false_iff.mpr ac;subst ac
             rw [if_neg (show ¬(false=true) by decide)] at H
             by_cases a6:(bt a0 a2)=42
             ·rw [if_pos a6] at H
              have am:((bt a0 a2)==42)=true:=beq_iff_eq.mpr a6;have an:((bt a0 a2) != 42)=false:=bne_eq_false_iff_eq.mpr a6;clear a6;obtain rfl:=Option.some.inj H;have p10:0≤(a2:Int):=oda;have q10:a2<(a0.size:Int):=oda;have hx10:=bt_at a0 a2;replace p10:=eq_true p10;replace q10:=eq_true q10;have p12:0≤(a2:Int):=oda;have q12:a2<(a0.size:Int):=oda;have hx12:=bt_at a0 a2;replace p12:=eq_true p12;replace q12:=eq_true q12;have p14:0≤(a2:Int):=oda;have q14:a2<(a0.size:Int):=oda;have hx14:=bt_at a0 a2;replace p14:=eq_true p14;replace q14:=eq_true q14;have p16:0≤(a2:Int):=oda;have q16:a2<(a0.size:Int):=oda;have hx16:=bt_at a0 a2;replace p16:=eq_true p16;replace q16:=eq_true q16;have p19:0≤(a2:Int):=oda;have q19:a2<(a0.size:Int):=oda;have hx19:=bt_at a0 a2;replace p19:=eq_true p19;replace q19:=eq_true q19
              go_wp2
              go_ret
              exact ⟨Ye1,dz⟩
             ·rw [if_neg a6] at H
              have am:((bt a0 a2)==42)=false:=beq_eq_false_iff_ne.mpr a6;have an:((bt a0 a2) != 42)=true:=bne_iff_ne.mpr a6
              by_cases a7:(bt a0 a2)=63
              ·rw [if_pos a7] at H
               have ao:((bt a0 a2)==63)=true:=beq_iff_eq.mpr a7;have ap:((bt a0 a2) != 63)=false:=bne_eq_false_iff_eq.mpr a7;clear a7;obtain rfl:=Option.some.inj H;have p10:0≤(a2:Int):=oda;have q10:a2<(a0.size:Int):=oda;have hx10:=bt_at a0 a2;replace p10:=eq_true p10;replace q10:=eq_true q10;have p12:0≤(a2:Int):=oda;have q12:a2<(a0.size:Int):=oda;have hx12:=bt_at a0 a2;replace p12:=eq_true p12;replace q12:=eq_true q12;have p14:0≤(a2:Int):=oda;have q14:a2<(a0.size:Int):=oda;have hx14:=bt_at a0 a2;replace p14:=eq_true p14;replace q14:=eq_true q14;have p16:0≤(a2:Int):=oda;have q16:a2<(a0.size:Int):=oda;have hx16:=bt_at a0 a2;replace p16:=eq_true p16;replace q16:=eq_true q16;have p19:0≤(a2:Int):=oda;have q19:a2<(a0.size:Int):=oda;have hx19:=bt_at a0 a2;replace p19:=eq_true p19;replace q19:=eq_true q19;have p21:0≤(a2:Int):=oda;have q21:a2<(a0.size:Int):=oda;have hx21:=bt_at a0 a2;replace p21:=eq_true p21;replace q21:=eq_true q21
               go_wp2
               go_ret
               exact ⟨Ye1,dz⟩
              ·rw [if_neg a7] at H
               have ao:((bt a0 a2)==63)=false:=beq_eq_false_iff_ne.mpr a7;have ap:((bt a0 a2) != 63)=true:=bne_iff_ne.mpr a7;have H':=Aside0.mk H;clear H;have p10:0≤(a2:Int):=oda;have q10:a2<(a0.size:Int):=oda;have hx10:=bt_at a0 a2;replace p10:=eq_true p10;replace q10:=eq_true q10;have p12:0≤(a2:Int):=oda;have q12:a2<(a0.size:Int):=oda;have hx12:=bt_at a0 a2;replace p12:=eq_true p12;replace q12:=eq_true q12;have p14:0≤(a2:Int):=oda;have q14:a2<(a0.size:Int):=oda;have hx14:=bt_at a0 a2;replace p14:=eq_true p14;replace q14:=eq_true q14;have p16:0≤(a2:Int):=oda;have q16:a2<(a0.size:Int):=oda;have hx16:=bt_at a0 a2;replace p16:=eq_true p16;replace q16:=eq_true q16;have p19:0≤(a2:Int):=oda;have q19:a2<(a0.size:Int):=oda;have hx19:=bt_at a0 a2;replace p19:=eq_true p19;replace q19:=eq_true q19;have p21:0≤(a2:Int):=oda;have q21:a2<(a0.size:Int):=oda;have hx21:=bt_at a0 a2;replace p21:=eq_true p21;replace q21:=eq_true q21
               go_wp2
               go_roundg k2
               case measure=>have:=HJ2.out;have:=HK2.out;omega
               case rel=>exact ⟨(wrap64 (a2+1)),Ye1,H',⟨by have:=HJ2.out;have:=HK2.out;omega⟩,dz⟩
       ·rw [if_neg c9] at H
        exact absurd H (by simp)
      ·rw [if_neg c8] at H
       have af:decide (a2<(a0.size:Int))=false:=decide_eq_false c8;clear c8;obtain rfl:=Option.some.inj H
       go_wp2
       go_ret
       exact ⟨Ye1,dz⟩

end Go.Proofs.YthfpoacindblgaaDoor.P


namespace Go.Proofs.YthfpoacindblgaaDoor.P
open Go.RowKit Go.Proofs.YthfpoacindblgaaDoorW.PrintWords Go.Proofs.YthfpoacindblgaaDoorW.PrintLast Go.Proofs.YthfpoacindblgaaDoorW.PrintMore
attribute [local go_sem] max2_int min2_int max_two min_two max_three min_three max_four min_four
set_option linter.unusedVariables false
set_option linter.unusedSimpArgs false

def spec_l4Parts.l0:Nat→ByteArray→List ByteArray→Int→Int→Option (List ByteArray)
 | 0,_,_,_,_=>none
 | k+1,x0,x3,x4,x5=>if x5<(x0.size:Int) then (if 0≤x5 then (if (bt x0 x5)=47 then (if 0≤x4 then (if x4≤x5 then (if x5≤(x0.size:Int) then (if x3.length<8796093022208 then (spec_l4Parts.l0 k x0 (x3 ++ [x0.extract (x4:Int).toNat (x5:Int).toNat]) (wrap64 (x5+1)) (wrap64 (x5+1))) else (none)) else (none)) else (none)) else (none)) else (spec_l4Parts.l0 k x0 x3 x4 (wrap64 (x5+1)))) else (none)) else (if 0≤x4 then (if x4≤(x0.size:Int) then (if x3.length<8796093022208 then (some (x3 ++ [x0.extract (x4:Int).toNat x0.size])) else (none)) else (none)) else (none))
def spec_l4Parts.f (k:Nat) (a0:ByteArray):Option (List ByteArray):=spec_l4Parts.l0 k a0 (([]:List ByteArray)) 0 0
theorem spec_l4Parts.mono_l:∀ k,(∀ y0 y1 y2 y3,LeO (spec_l4Parts.l0 k y0 y1 y2 y3) (spec_l4Parts.l0 (k+1) y0 y1 y2 y3))
 | 0=>fun _ _ _ _ r h=>by simp [spec_l4Parts.l0] at h
 | k + 1 => by
  have ih0:=spec_l4Parts.mono_l k
  ·intro y0 y1 y2 y3
   unfold spec_l4Parts.l0
   exact mo1 ih0
theorem spec_l4Parts.mono:∀ a0 k,LeO (spec_l4Parts.f k a0) (spec_l4Parts.f (k+1) a0):=by
 intro a0 k;have ih0:=spec_l4Parts.mono_l k
 unfold spec_l4Parts.f
 exact mo1 ih0
set_option maxHeartbeats 8000000 in
set_option maxRecDepth 100000 in
theorem spec_l4Parts.calls (k : Nat) (a0 : ByteArray) (r : List ByteArray) (w : World) (h : spec_l4Parts.f k a0 = some r) :
  Calls Tryd.prog 17 #[.string a0] w fun e w' => ∃ v0_:Value,e = .returned (v0_)∧Kd.R Kd.string 9 w' w.heap.size (fun _=>True) v0_ r∧Below w.heap.size w w':=by
 have HB:=Aside0.mk (Below.refl w.heap.size w);have H:(spec_l4Parts.l0 k a0 (([]:List ByteArray)) 0 0)=some r:=h;clear h
 obtain ⟨ad,a7⟩:∃ y_:List ByteArray,y_=(([]:List ByteArray)):=⟨_,rfl⟩
 (first|replace H:=bl_ a7 H|rw [←a7] at H);(try dsimp only at H);have ac:=Aside0.mk a7;clear a7;have H':=Aside0.mk H;clear H
 go_enter Tryd.func17,Tryd.ntmps17
 go_wp2_with (first|((with_reducible refine gd 6 rfl ?_);refine Kd.R_lit Kd.string _ 9 ?hg (N:=6) ?hd (xs:=([]:List ByteArray)) (inner:=[]) (ok:=fun _=>True) (okp:=fun _=>True) ?hr ?hp (fun _ hk=>hk) trivial (Below.refl _ _) (Nat.le_refl _) (by simp) ?_;(case hd=>rfl);(case hg=>rfl);(case hr=>first|(go_simp;done)|(go_simp;rfl));(case hp=>exact (Reps.none _ _));intro v107 w2 ho3 hb hg_ hnew_;clear hg_ hnew_;(first|rw [←ac.out] at ho3|(simp only [Int.reduceToNat] at ho3;rw [←ac.out] at ho3));refine Ya2 (Kd.R_lower ho3 (below_size (be HB.out))) (below_step (be HB.out) hb) ?_;clear HB;intro ae HB;clear hb ho3))
 go_loopg [3,4,5] k (fun kq v3 v4 v5 w' => ∃ (a3:List ByteArray) (a2:Int) (a1:Int),v4 = .int .i64 a2∧v5 = .int .i64 a1∧Aside0 (spec_l4Parts.l0 kq a0 a3 a2 a1=some r)∧Aside0 (kq≤k)∧Aside0 (Kd.R Kd.string 9 w' w.heap.size (fun _=>True) v3 a3)∧Aside0 (Below w.heap.size w w'))
 case atStart=>exact ⟨(ad),(0),(0),Ye1,Ye1,H',⟨Nat.le_refl _⟩,⟨kr ae.out⟩,⟨be HB.out⟩⟩
 case round =>
  clear H';(try clear c1);(try clear p2);obtain ⟨a3,a2,a1,rfl,rfl,HA,HK1,a4,HB⟩:=hrel
  cases gk with
  | zero=>exact absurd HA.out (by simp [spec_l4Parts.l0])
  | succ k1 =>
   have H:=HA.out;clear HA;simp only [spec_l4Parts.l0] at H
   by_cases c4:a1<(a0.size:Int)
   ·rw [if_pos c4] at H
    have af:decide (a1<(a0.size:Int))=true:=decide_eq_true c4;clear c4
    by_cases c5:0≤a1
    ·rw [if_pos c5] at H
     have c5b0:decide (0≤a1)=true:=decide_eq_true c5;clear c5
     by_cases c7:(bt a0 a1)=47
     ·rw [if_pos c7] at H
      have ag:((bt a0 a1)==47)=true:=beq_iff_eq.mpr c7;have ah:((bt a0 a1) != 47)=false:=bne_eq_false_iff_eq.mpr c7;clear c7
      by_cases c8:0≤a2
      ·rw [if_pos c8] at H
       have c8b0:=eq_true c8;have c8b1:decide (0≤a2)=true:=decide_eq_true c8;clear c8
       by_cases c9:a2≤a1
       ·rw [if_pos c9] at H
        have c9b0:=eq_true c9;have c9b1:decide (a2≤a1)=true:=decide_eq_true c9;clear c9
        by_cases c10:a1≤(a0.size:Int)
        ·rw [if_pos c10] at H
         have c10b0:=eq_true c10;have c10b1:decide (a1≤(a0.size:Int))=true:=decide_eq_true c10;clear c10
         by_cases a8:a3.length<8796093022208
         ·rw [if_pos a8] at H
          have ai:=Aside0.mk a8;clear a8
          obtain ⟨aj,a9⟩:∃ y_:List ByteArray,y_=(a3 ++ [a0.extract (a2:Int).toNat (a1:Int).toNat]):=⟨_,rfl⟩
          (first|replace H:=bl_ a9 H|rw [←a9] at H);(try dsimp only at H);have ak:=Aside0.mk a9;clear a9;have H':=Aside0.mk H;clear H;have p6:0≤(a1:Int):=oda;have q6:a1<(a0.size:Int):=oda;have hx6:=bt_at a0 a1;replace p6:=eq_true p6;replace q6:=eq_true q6
          go_wp2_with (first|((with_reducible refine gate_builtin (b:=.append) (xs:=#[.tmp 17,.tmp 22]) rfl ?_);at_builtin;refine Kd.R_append Kd.string (w0:=w) w.heap.size rfl (.tmp 17) (.tmp 22) 26 9 (.string ⟨#[]⟩) 16 rfl Tryd.underlying26 info9 rfl (by decide) (by omega) u3 a3 (a0.extract (a2:Int).toNat (a1:Int).toNat) [.string (a0.extract (a2:Int).toNat (a1:Int).toNat)] (fun _=>True) (fun _=>False) rfl rfl ?aP (fun _ hk=>hk.elim) ?aF ?aO ?aB ?aS ?aL ?_;(case aP=>exact rfl);(case aB=>exact (be HB.out));(case aF=>exact (fun _ _=>trivial));(case aO=>exact (kr a4.out));(case aS=>exact (below_size (be HB.out)));(case aL=>have:=ai.out;omega);intro v110 w12 ho hb hg hat;rw [←ak.out] at ho;refine Ya2 (hb) (ho) ?_;clear HB a4;intro HB al;clear ho hb hg hat))
          go_roundg k1
          case measure=>have:=HK1.out;omega
          case rel=>exact ⟨(aj),(wrap64 (a1+1)),(wrap64 (a1+1)),Ye1,Ye1,H',⟨by have:=HK1.out;omega⟩,⟨kr al.out⟩,⟨be HB.out⟩⟩
         ·rw [if_neg a8] at H
          exact absurd H (by simp)
        ·rw [if_neg c10] at H
         exact absurd H (by simp)
       ·rw [if_neg c9] at H
        exact absurd H (by simp)
      ·rw [if_neg c8] at H
       exact absurd H (by simp)
     ·rw [if_neg c7] at H
      have ag:((bt a0 a1)==47)=false:=beq_eq_false_iff_ne.mpr c7;have ah:((bt a0 a1) != 47)=true:=bne_iff_ne.mpr c7;have H':=Aside0.mk H;clear H;have p6:0≤(a1:Int):=oda;have q6:a1<(a0.size:Int):=oda;have hx6:=bt_at a0 a1;replace p6:=eq_true p6;replace q6:=eq_true q6
      go_wp2
      go_roundg k1
      case measure=>have:=HK1.out;omega
      case rel=>exact ⟨(a3),(a2),(wrap64 (a1+1)),Ye1,Ye1,H',⟨by have:=HK1.out;omega⟩,⟨kr a4.out⟩,⟨be HB.out⟩⟩
    ·rw [if_neg c5] at H
     exact absurd H (by simp)
   ·rw [if_neg c4] at H
    have af:decide (a1<(a0.size:Int))=false:=decide_eq_false c4;clear c4
    by_cases a5:0≤a2
    ·rw [if_pos a5] at H
     have c13b0:=eq_true a5;have c13b1:decide (0≤a2)=true:=decide_eq_true a5;clear a5
     by_cases a6:a2≤(a0.size:Int)
     ·rw [if_pos a6] at H
      have c14b0:=eq_true a6;have c14b1:decide (a2≤(a0.size:Int))=true:=decide_eq_true a6;clear a6
      by_cases aa:a3.length<8796093022208
      ·rw [if_pos aa] at H
       have am:=Aside0.mk aa;clear aa
       obtain ⟨y112,ab⟩:∃ y_:List ByteArray,y_=(a3 ++ [a0.extract (a2:Int).toNat a0.size]):=⟨_,rfl⟩
       (first|replace H:=bl_ ab H|rw [←ab] at H);(try dsimp only at H);have an:=Aside0.mk ab;clear ab;obtain rfl:=Option.some.inj H
       go_wp2_with (first|((with_reducible refine gate_builtin (b:=.append) (xs:=#[.tmp 26,.tmp 30]) rfl ?_);at_builtin;refine Kd.R_append Kd.string (w0:=w) w.heap.size rfl (.tmp 26) (.tmp 30) 26 9 (.string ⟨#[]⟩) 16 rfl Tryd.underlying26 info9 rfl (by decide) (by omega) u3 a3 (a0.extract (a2:Int).toNat a0.size) [.string (a0.extract (a2:Int).toNat a0.size)] (fun _=>True) (fun _=>False) rfl rfl ?aP (fun _ hk=>hk.elim) ?aF ?aO ?aB ?aS ?aL ?_;(case aP=>exact rfl);(case aB=>exact (be HB.out));(case aF=>exact (fun _ _=>trivial));(case aO=>exact (kr a4.out));(case aS=>exact (below_size (be HB.out)));(case aL=>have:=am.out;omega);intro v113 w16 ho hb hg hat;rw [←an.out] at ho;refine Ya2 (hb) (ho) ?_;clear HB a4;intro HB ao;clear ho hb hg hat))
       go_ret
       exact ⟨_,Ye2,kr ao.out,be HB.out⟩
      ·rw [if_neg aa] at H
       exact absurd H (by simp)
     ·rw [if_neg a6] at H
      exact absurd H (by simp)
    ·rw [if_neg a5] at H
     exact absurd H (by simp)

end Go.Proofs.YthfpoacindblgaaDoor.P


namespace Go.Proofs.YthfpoacindblgaaDoor.P
open Go.RowKit Go.Proofs.YthfpoacindblgaaDoorW.PrintWords Go.Proofs.YthfpoacindblgaaDoorW.PrintLast Go.Proofs.YthfpoacindblgaaDoorW.PrintMore
attribute [local go_sem] max2_int min2_int max_two min_two max_three min_three max_four min_four
set_option linter.unusedVariables false
set_option linter.unusedSimpArgs false

def spec_l4Ok.l0:Nat→Bool→List ByteArray→Int→Option (Bool)
 | 0,_,_,_=>none
 | k+1,x1,x5,x6=>if x6<(x5.length:Int) then (if 0≤x6 then ((spec_l4PartOk.f k (rdOf ByteArray.empty x5 x6) x1).bind fun a9=>(if a9=true then (spec_l4Ok.l0 k x1 x5 (wrap64 (x6+1))) else (some false))) else (none)) else (some true)
def spec_l4Ok.f (k:Nat) (a0:ByteArray) (a1:Bool):Option (Bool):=if (a0.size:Int)>126 then (some false) else ((spec_l4Parts.f k a0).bind fun a2=>(if (a2.length:Int)>6 then (some false) else (spec_l4Ok.l0 k a1 a2 0)))
theorem spec_l4Ok.mono_l:∀ k,(∀ y0 y1 y2,LeO (spec_l4Ok.l0 k y0 y1 y2) (spec_l4Ok.l0 (k+1) y0 y1 y2))
 | 0=>fun _ _ _ r h=>by simp [spec_l4Ok.l0] at h
 | k + 1 => by
  have ih0:=spec_l4Ok.mono_l k
  ·intro y0 y1 y2
   unfold spec_l4Ok.l0
   exact mo3 ih0 @spec_l4PartOk.mono @spec_l4Parts.mono
theorem spec_l4Ok.mono:∀ a0 a1 k,LeO (spec_l4Ok.f k a0 a1) (spec_l4Ok.f (k+1) a0 a1):=by
 intro a0 a1 k;have ih0:=spec_l4Ok.mono_l k
 unfold spec_l4Ok.f
 exact mo3 ih0 @spec_l4PartOk.mono @spec_l4Parts.mono
set_option maxHeartbeats 8000000 in
set_option maxRecDepth 100000 in
theorem spec_l4Ok.calls (k : Nat) (a0 : ByteArray) (a1 : Bool) (r : Bool) (w : World) (h : spec_l4Ok.f k a0 a1 = some r) :
  Calls Tryd.prog 34 #[.string a0,.bool a1] w fun e w'=>e = .returned (.bool r)∧Below w.heap.size w w':=by
 have HB:=Aside0.mk (Below.refl w.heap.size w);have H:(if (a0.size:Int)>126 then (some false) else ((spec_l4Parts.f k a0).bind fun a2=>(if (a2.length:Int)>6 then (some false) else (spec_l4Ok.l0 k a1 a2 0))))=some r:=h;clear h
 by_cases c3:(a0.size:Int)>126
 ·rw [if_pos c3] at H
  have ac:decide (126<(a0.size:Int))=true:=decide_eq_true c3;have ad:decide (126<a0.size)=true:=decide_eq_true (by omega);clear c3;obtain rfl:=Option.some.inj H
  go_enter Tryd.func34,Tryd.ntmps34
  go_wp2
  go_ret
  exact ⟨Ye2,be HB.out⟩
 ·rw [if_neg c3] at H
  have ac:decide (126<(a0.size:Int))=false:=decide_eq_false c3;have ad:decide (126<a0.size)=false:=decide_eq_false (by omega);clear c3;replace H:=Option.bind_eq_some_iff.mp H;obtain ⟨a2,A40,H⟩:=H;(try dsimp only at H);have A4:=Aside0.mk A40;clear A40
  by_cases c5:(a2.length:Int)>6
  ·rw [if_pos c5] at H
   have ae:decide (6<(a2.length:Int))=true:=decide_eq_true c5;have af:decide (6<a2.length)=true:=decide_eq_true (by omega);clear c5;obtain rfl:=Option.some.inj H
   go_enter Tryd.func34,Tryd.ntmps34
   go_wp2_with (first|((with_reducible refine gc 17 rfl ?_);refine gl (some 11) _ (#[.string a0]) Tryd.func17 ?_;(with_reducible refine (spec_l4Parts.calls k a0 a2 _ A4.out).mono ?_);rintro e w6 ⟨ah,rfl,ho0,hb⟩;refine ⟨_,rfl,?_⟩;refine Ya2 (Kd.R_lower ho0 (below_size (be HB.out))) (below_step (be HB.out) hb) ?_;clear HB;intro a6 HB;(try clear hb);(try clear hb2);(try clear hk);(try clear hi);(try clear ho0);obtain ⟨Ao7,co7,eo7⟩:=Kd.R_slice a6.out;subst eo7))
   go_ret
   exact ⟨Ye2,be HB.out⟩
  ·rw [if_neg c5] at H
   have ae:decide (6<(a2.length:Int))=false:=decide_eq_false c5;have af:decide (6<a2.length)=false:=decide_eq_false (by omega);clear c5;have H':=Aside0.mk H;clear H
   go_enter Tryd.func34,Tryd.ntmps34
   go_wp2_with (first|((with_reducible refine gc 17 rfl ?_);refine gl (some 11) _ (#[.string a0]) Tryd.func17 ?_;(with_reducible refine (spec_l4Parts.calls k a0 a2 _ A4.out).mono ?_);rintro e w8 ⟨ah,rfl,ho0,hb⟩;refine ⟨_,rfl,?_⟩;refine Ya2 (Kd.R_lower ho0 (below_size (be HB.out))) (below_step (be HB.out) hb) ?_;clear HB;intro a6 HB;(try clear hb);(try clear hb2);(try clear hk);(try clear hi);(try clear ho0);obtain ⟨Ao9,co9,eo9⟩:=Kd.R_slice a6.out;subst eo9))
   go_loopg [6] k (fun kq v6 w' => ∃ (a3:Int),v6 = .int .i64 a3∧Aside0 (spec_l4Ok.l0 kq a1 a2 a3=some r)∧Aside0 (kq≤k)∧Aside0 (Kd.R Kd.string 9 w' w.heap.size (fun _=>True) (.slice Ao9 a2.length co9) a2)∧Aside0 (Below w.heap.size w w'))
   case atStart=>exact ⟨(0),Ye1,H',⟨Nat.le_refl _⟩,⟨kr a6.out⟩,⟨be HB.out⟩⟩
   case round =>
    clear H';(try clear c1);(try clear p2);(try clear c3);(try clear ac);(try clear ad);(try clear c5);(try clear ae);(try clear af);obtain ⟨a3,rfl,HA,HK1,aa,HB⟩:=hrel
    cases gk with
    | zero=>exact absurd HA.out (by simp [spec_l4Ok.l0])
    | succ k1 =>
     have H:=HA.out;clear HA;simp only [spec_l4Ok.l0] at H
     by_cases c10:a3<(a2.length:Int)
     ·rw [if_pos c10] at H
      have ai:decide (a3<(a2.length:Int))=true:=decide_eq_true c10;clear c10
      by_cases a7:0≤a3
      ·rw [if_pos a7] at H
       have c11b0:decide (0≤a3)=true:=decide_eq_true a7;clear a7;replace H:=Option.bind_eq_some_iff.mp H;obtain ⟨a9,ag,H⟩:=H;(try dsimp only at H);have A12:=Aside0.mk ag;clear ag
       by_cases a8:a9=true
       ·subst a8
        rw [if_pos rfl] at H
        have H':=Aside0.mk H;clear H;have a4:0≤(a3:Int):=oda;have a5:a3<(a2.length:Int):=oda;obtain ⟨aj,ab,ak⟩:=Kd.at_string (Kd.R_reads' aa.out).2.2 a3 a4 a5
        cases ab
        replace a4:=eq_true a4;replace a5:=eq_true a5
        go_wp2_with (first|((with_reducible refine gc 52 rfl ?_);refine gl (some 26) _ (#[.string (rdOf ByteArray.empty a2 a3),.bool a1]) Tryd.func52 ?_;(with_reducible refine (spec_l4PartOk.calls k1 (rdOf ByteArray.empty a2 a3) a1 true _ A12.out).mono ?_);rintro e w' ⟨rfl,⟨nd,rfl⟩⟩;refine ⟨_,rfl,?_⟩))
        go_roundg k1
        case measure=>have:=HK1.out;omega
        case rel=>exact ⟨(wrap64 (a3+1)),Ye1,H',⟨by have:=HK1.out;omega⟩,⟨kr aa.out⟩,⟨be HB.out⟩⟩
       ·replace a8:=Bool.eq_false_iff.mpr a8;subst a8
        rw [if_neg (show ¬(false=true) by decide)] at H
        obtain rfl:=Option.some.inj H;have a4:0≤(a3:Int):=oda;have a5:a3<(a2.length:Int):=oda;obtain ⟨aj,ab,ak⟩:=Kd.at_string (Kd.R_reads' aa.out).2.2 a3 a4 a5
        cases ab
        replace a4:=eq_true a4;replace a5:=eq_true a5
        go_wp2_with (first|((with_reducible refine gc 52 rfl ?_);refine gl (some 26) _ (#[.string (rdOf ByteArray.empty a2 a3),.bool a1]) Tryd.func52 ?_;(with_reducible refine (spec_l4PartOk.calls k1 (rdOf ByteArray.empty a2 a3) a1 false _ A12.out).mono ?_);rintro e w' ⟨rfl,⟨nd,rfl⟩⟩;refine ⟨_,rfl,?_⟩))
        go_ret
        exact ⟨Ye2,be HB.out⟩
      ·rw [if_neg a7] at H
       exact absurd H (by simp)
     ·rw [if_neg c10] at H
      have ai:decide (a3<(a2.length:Int))=false:=decide_eq_false c10;clear c10;obtain rfl:=Option.some.inj H
      go_wp2
      go_ret
      exact ⟨Ye2,be HB.out⟩

end Go.Proofs.YthfpoacindblgaaDoor.P


namespace Go.Proofs.YthfpoacindblgaaDoor.P
open Go.RowKit Go.Proofs.YthfpoacindblgaaDoorW.PrintWords Go.Proofs.YthfpoacindblgaaDoorW.PrintLast Go.Proofs.YthfpoacindblgaaDoorW.PrintMore
attribute [local go_sem] max2_int min2_int max_two min_two max_three min_three max_four min_four
set_option linter.unusedVariables false
set_option linter.unusedSimpArgs false

def spec_ValidPath.f (k:Nat) (a0:ByteArray):Option (Bool):=(spec_l4Ok.f k a0 false).bind fun a1=>(some a1)
theorem spec_ValidPath.mono:∀ a0 k,LeO (spec_ValidPath.f k a0) (spec_ValidPath.f (k+1) a0):=by
 intro a0 k
 unfold spec_ValidPath.f
 exact mo1 @spec_l4Ok.mono
set_option maxHeartbeats 8000000 in
set_option maxRecDepth 100000 in
theorem spec_ValidPath.calls (k:Nat) (a0:ByteArray) (r:Bool) (w:World) (h:spec_ValidPath.f k a0=some r) :
  Calls Tryd.prog 15 #[.string a0] w fun e w'=>e = .returned (.bool r)∧Below w.heap.size w w':=by
 have HB:=Aside0.mk (Below.refl w.heap.size w);have H:((spec_l4Ok.f k a0 false).bind fun a1=>(some a1))=some r:=h;clear h;replace H:=Option.bind_eq_some_iff.mp H;obtain ⟨a1,A20,H⟩:=H;(try dsimp only at H);have A2:=Aside0.mk A20;clear A20;obtain rfl:=Option.some.inj H
 go_enter Tryd.func15,Tryd.ntmps15
 go_wp2_with (first|((with_reducible refine gc 34 rfl ?_);refine gl (some 4) _ (#[.string a0,.bool false]) Tryd.func34 ?_;(with_reducible refine (spec_l4Ok.calls k a0 false a1 _ A2.out).mono ?_);rintro e w3 ⟨rfl,hb⟩;refine ⟨_,rfl,?_⟩;refine Ya1 (below_step (be HB.out) hb) ?_;clear HB;intro HB;(try clear hb);(try clear hb2);(try clear hk);(try clear hi)))
 go_ret
 exact ⟨Ye2,be HB.out⟩

end Go.Proofs.YthfpoacindblgaaDoor.P


namespace Go.Proofs.YthfpoacindblgaaDoor.P
open Go.RowKit Go.Proofs.YthfpoacindblgaaDoorW.PrintWords Go.Proofs.YthfpoacindblgaaDoorW.PrintLast Go.Proofs.YthfpoacindblgaaDoorW.PrintMore
attribute [local go_sem] max2_int min2_int max_two min_two max_three min_three max_four min_four
set_option linter.unusedVariables false
set_option linter.unusedSimpArgs false

mutual
def spec_ValidTree.l0:Nat→Int→List (S55)→Option (Bool)
 | 0,_,_=>none
 | k+1,x3,a7=>if x3<(a7.length:Int) then (if 0≤x3 then ((spec_ValidPath.f k ((rd_T55 a7 x3).f0)).bind fun aI=>(if aI=true then (if (((rd_T55 a7 x3).f1).size:Int)>1500 then (spec_ValidTree.j1 k x3 true a7 ((rd_T55 a7 x3).f0) ((rd_T55 a7 x3).f1) ((rd_T55 a7 x3).f2)) else (if x3>0 then (if 0≤(wrap64 (x3 - 1)) then (if (wrap64 (x3 - 1))<(a7.length:Int) then (spec_ValidTree.j1 k x3 (!(Op.bytesLess (((rd_T55 a7 (wrap64 (x3 - 1))).f0).toList) (((rd_T55 a7 x3).f0).toList))) a7 ((rd_T55 a7 x3).f0) ((rd_T55 a7 x3).f1) ((rd_T55 a7 x3).f2)) else (none)) else (none)) else (spec_ValidTree.j1 k x3 false a7 ((rd_T55 a7 x3).f0) ((rd_T55 a7 x3).f1) ((rd_T55 a7 x3).f2)))) else (spec_ValidTree.j1 k x3 true a7 ((rd_T55 a7 x3).f0) ((rd_T55 a7 x3).f1) ((rd_T55 a7 x3).f2)))) else (none)) else (some true)
def spec_ValidTree.j1:Nat→Int→Bool→List (S55)→ByteArray→ByteArray→Bool→Option (Bool)
 | 0,_,_,_,_,_,_=>none
 | k+1,x3,x47,a7,az,aJ,aK=>if x47=true then (some false) else (spec_ValidTree.l1 k x3 0 a7 az aJ aK)
def spec_ValidTree.l1:Nat→Int→Int→List (S55)→ByteArray→ByteArray→Bool→Option (Bool)
 | 0,_,_,_,_,_,_=>none
 | k+1,x3,x5,a7,az,aJ,aK=>if x5<x3 then (if 0≤x5 then (if x5<(a7.length:Int) then ((spec_l5Begins.f ((rd_T55 a7 x5).f0) az).bind fun aL=>(if aL=true then (some false) else (spec_ValidTree.l1 k x3 (wrap64 (x5+1)) a7 az aJ aK))) else (none)) else (none)) else (spec_ValidTree.l0 k (wrap64 (x3+1)) a7)
end
def spec_ValidTree.f (k:Nat) (a1:List (S55)):Option (Bool):=if (a1.length:Int)>100 then (some false) else (spec_ValidTree.l0 k 0 a1)
theorem spec_ValidTree.mono_l:∀ k,(∀ y0 y1,LeO (spec_ValidTree.l0 k y0 y1) (spec_ValidTree.l0 (k+1) y0 y1))∧(∀ y0 y1 y2 y3 y4 y5,LeO (spec_ValidTree.j1 k y0 y1 y2 y3 y4 y5) (spec_ValidTree.j1 (k+1) y0 y1 y2 y3 y4 y5))∧(∀ y0 y1 y2 y3 y4 y5,LeO (spec_ValidTree.l1 k y0 y1 y2 y3 y4 y5) (spec_ValidTree.l1 (k+1) y0 y1 y2 y3 y4 y5))
 | 0=>⟨fun _ _ r h=>by simp [spec_ValidTree.l0] at h,fun _ _ _ _ _ _ r h=>by simp [spec_ValidTree.j1] at h,fun _ _ _ _ _ _ r h=>by simp [spec_ValidTree.l1] at h⟩
 | k + 1 => by
  obtain ⟨ih0,ih1,ih2⟩:=spec_ValidTree.mono_l k;refine ⟨?_,?_,?_⟩
  ·intro y0 y1
   unfold spec_ValidTree.l0
   exact mo4 ih0 ih1 ih2 @spec_ValidPath.mono
  ·intro y0 y1 y2 y3 y4 y5
   unfold spec_ValidTree.j1
   exact mo4 ih0 ih1 ih2 @spec_ValidPath.mono
  ·intro y0 y1 y2 y3 y4 y5
   unfold spec_ValidTree.l1
   exact mo4 ih0 ih1 ih2 @spec_ValidPath.mono
theorem spec_ValidTree.mono:∀ a0 k,LeO (spec_ValidTree.f k a0) (spec_ValidTree.f (k+1) a0):=by
 intro a0 k;obtain ⟨ih0,ih1,ih2⟩:=spec_ValidTree.mono_l k
 unfold spec_ValidTree.f
 exact mo4 ih0 ih1 ih2 @spec_ValidPath.mono
def spec_ValidTree.T7:Bool×List (List Nat×List Nat):=(true,[([],[]),([0],[0]),([1],[1]),([2],[2]),([3,2],[3]),([4],[4]),([5,4],[4,5]),([6,4],[4,6]),([7,4],[4,7]),([4,8],[4,8]),([9,4],[9]),([10],[10]),([11,10],[10,11]),([12,10,10],[10,12]),([13],[13]),([14,13],[13,14]),([13],[13]),([16,13],[13,16]),([15,17,13],[13,15,17]),([18,13],[13,18]),([19,13],[13,19]),([13],[13]),([21,13],[13,21]),([20,22,13],[13,20,22]),([13,23,10],[10,13,23]),([10,24],[10,24])])
def spec_ValidTree.B7:List Nat:=[0,1,3,7,15,31,63,127,255,511,1023,2047,4095,8191,16383,32767,16383,81919,262143,524287,1048575,16383,2113535,8388607,16777215,33554431]
theorem spec_ValidTree.tab7:rtab .any (opsOf Tryd.f32 7)=spec_ValidTree.T7:=by kernel_rfl
theorem spec_ValidTree.bits7:waitsOk spec_ValidTree.T7.2 spec_ValidTree.B7=true:=by kernel_rfl
def spec_ValidTree.T12:Bool×List (List Nat×List Nat):=(true,[([],[]),([0],[0]),([],[]),([1,2],[1,2]),([3],[3]),([4],[4]),([],[]),([6],[6]),([5,7],[5,7])])
def spec_ValidTree.B12:List Nat:=[0,1,0,7,15,31,0,64,255]
theorem spec_ValidTree.tab12:rtab .any (opsOf Tryd.f32 12)=spec_ValidTree.T12:=by kernel_rfl
theorem spec_ValidTree.bits12:waitsOk spec_ValidTree.T12.2 spec_ValidTree.B12=true:=by kernel_rfl
set_option maxHeartbeats 8000000 in
set_option maxRecDepth 100000 in
theorem spec_ValidTree.calls (k : Nat) (au : Option Addr) (ae : Nat) (a1 : List (S55)) (r : Bool) (w : World) (aU : Kd.C k55 w au a1.length a1) (aV : a1.length ≤ ae) (h : spec_ValidTree.f k a1 = some r) :
  Calls Tryd.prog 32 #[.agg #[.slice au a1.length ae]] w fun e w'=>e = .returned (.bool r)∧Below w.heap.size w w':=by
 have hu32:=Tryd.underlying32;have hu55:=Tryd.underlying55;have aA:=Aside0.mk aU;have HC0_0:=Aside0.mk aV;clear aU aV;have HB:=Aside0.mk (Below.refl w.heap.size w);have H:(if (a1.length:Int)>100 then (some false) else (spec_ValidTree.l0 k 0 a1))=some r:=h;clear h
 by_cases c2:(a1.length:Int)>100
 ·rw [if_pos c2] at H
  have aW:decide (100<(a1.length:Int))=true:=decide_eq_true c2;have aX:decide (100<a1.length)=true:=decide_eq_true (by omega);clear c2;obtain rfl:=Option.some.inj H
  go_enter Tryd.func32,Tryd.ntmps32
  go_wp2_with (first|((with_reducible refine gd 1 rfl ?_);(try (refine gate_guard (by rfl) ?_;dsimp only));refine bx 1 32 (#[.slice au a1.length ae]) ?_;intro af hg w3 hbox hb;refine Ya4 (below_step (be HB.out) hb) (hbox) (bs hg (be HB.out)) (bs hg (be HB.out)) ?_;clear HB;intro HB a4 b0 b1;clear hb hbox hg;have ⟨b2,b3⟩:=Yc1 a4.out))
  go_ret
  exact ⟨Ye2,(bf HB.out)⟩
 ·rw [if_neg c2] at H
  have aW:decide (100<(a1.length:Int))=false:=decide_eq_false c2;have aX:decide (100<a1.length)=false:=decide_eq_false (by omega);clear c2;have H':=Aside0.mk H;clear H
  go_enter Tryd.func32,Tryd.ntmps32
  go_wp2_with (first|((with_reducible refine gd 1 rfl ?_);(try (refine gate_guard (by rfl) ?_;dsimp only));refine bx 1 32 (#[.slice au a1.length ae]) ?_;intro af hg w5 hbox hb;refine Ya4 (below_step (be HB.out) hb) (hbox) (bs hg (be HB.out)) (bs hg (be HB.out)) ?_;clear HB;intro HB a4 b0 b1;clear hb hbox hg;have ⟨b4,b5⟩:=Yc1 a4.out))
  go_loopg [3] k (fun kq v3 w' => ∃ (a2:Int),v3 = .int .i64 a2∧Aside0 (spec_ValidTree.l0 kq a2 a1=some r)∧Aside0 (kq≤k)∧Aside0 (w'.heap[af]? = some (.cells #[(.slice au a1.length ae)] 32 (0,0)))∧Aside0 (Below w.heap.size w w'))
  case atStart=>exact ⟨(0),Ye1,H',⟨Nat.le_refl _⟩,⟨bk a4.out⟩,⟨bf HB.out⟩⟩
  case round =>
   clear H';(try clear c2);(try clear aW);(try clear aX);(try clear p2);(try clear c3);(try clear b2);(try clear b4);(try clear b3);(try clear b5);obtain ⟨a2,rfl,HA,HK1,a4,HB⟩:=hrel
   cases gk with
   | zero=>exact absurd HA.out (by simp [spec_ValidTree.l0])
   | succ k1 =>
    have H:=HA.out;clear HA;simp only [spec_ValidTree.l0] at H
    by_cases c7:a2<(a1.length:Int)
    ·rw [if_pos c7] at H
     have b6:decide (a2<(a1.length:Int))=true:=decide_eq_true c7;clear c7
     by_cases c8:0≤a2
     ·rw [if_pos c8] at H
      have c8b0:decide (0≤a2)=true:=decide_eq_true c8;clear c8;have aM:=Aside0.mk H;clear H;have ⟨bh,bi⟩:=Yc1 a4.out;have aN:0≤(a2:Int):=oda;have aO:a2<(a1.length:Int):=oda;obtain ⟨a8,b7,bj,bm,bn⟩:=at_T55 (Kd.C_below aA.out HB.out) a2 aN aO
      cases b7
      replace aN:=eq_true aN;replace aO:=eq_true aO
      go_upto_region 7 with (first|((with_reducible refine gd 4 rfl ?_);(try (refine gate_guard (by rfl) ?_;dsimp only));refine bx 4 55 (#[.string (⟨#[]⟩:ByteArray),.string (⟨#[]⟩:ByteArray),.bool false]) ?_;intro a5 hg aa hbox hb;refine Ya7 (bb a4 hb) (below_step (bf HB.out) hb) (hbox) (bs hg (bf HB.out)) (bs hg (bf HB.out)) (bl hg a4) (br hg a4) ?_;clear a4 HB;intro a4 HB a3 GW124 GE124 av b8;clear hb hbox hg;have hnb12:=b8.out;have hnc12:=av.out;have ⟨bo,bq,bu,bv,bw,bz⟩:=Yc3 a3.out))
      (try simp only [Act.put,List.setIfInBounds_toArray,List.set_cons_zero,List.set_cons_succ])
      go_cut [47] (fun v47 wc => ∃ (kq:Nat) (aB:Bool),v47 = .bool aB∧Aside0 (spec_ValidTree.j1 kq a2 aB a1 ((rd_T55 a1 a2).f0) ((rd_T55 a1 a2).f1) ((rd_T55 a1 a2).f2)=some r)∧Aside0 (kq≤k1)∧Aside0 (wc.heap[af]? = some (.cells #[(.slice (some a8) a1.length ae)] 32 (0,0)))∧Aside0 (wc.heap[a5]? = some (.cells #[.string ((rd_T55 a1 a2).f0),.string ((rd_T55 a1 a2).f1),.bool ((rd_T55 a1 a2).f2)] 55 (0,0)))∧Aside0 (Below w.heap.size w wc))
      case first =>
       have H:=aM.out;clear aM;replace H:=Option.bind_eq_some_iff.mp H;obtain ⟨aI,aY,H⟩:=H;(try dsimp only at H);have aw:=Aside0.mk aY;clear aY
       by_cases am:aI=true
       ·subst am
        rw [if_pos rfl] at H
        by_cases an:(((rd_T55 a1 a2).f1).size:Int)>1500
        ·rw [if_pos an] at H
         have ax:decide (1500<(((rd_T55 a1 a2).f1).size:Int))=true:=decide_eq_true an;have b9:decide (1500<((rd_T55 a1 a2).f1).size)=true:=decide_eq_true (by omega);clear an;(first|rw [ax]|(simp only [i64_w,i32_w];rw [ax])|skip);have H':=Aside0.mk H;clear H
         try go_wp2
         have ab:Aside0 ((((aa.setCell ⟨a5,0,none⟩ (.string ((rd_T55 a1 a2).f0))).setCell ⟨a5,1,none⟩ (.string ((rd_T55 a1 a2).f1))).setCell ⟨a5,2,none⟩ (.bool ((rd_T55 a1 a2).f2))).heap[af]? = some (.cells #[.slice (some a8) a1.length ae] 32 (0,0))):=⟨bkf a4.out av.out⟩
         have ac:Aside0 ((((aa.setCell ⟨a5,0,none⟩ (.string ((rd_T55 a1 a2).f0))).setCell ⟨a5,1,none⟩ (.string ((rd_T55 a1 a2).f1))).setCell ⟨a5,2,none⟩ (.bool ((rd_T55 a1 a2).f2))).heap[a5]? = some (.cells #[.string ((rd_T55 a1 a2).f0),.string ((rd_T55 a1 a2).f1),.bool ((rd_T55 a1 a2).f2)] 55 (0,0))):=⟨bp a3.out⟩
         have ad:Aside0 (Below w.heap.size w (((aa.setCell ⟨a5,0,none⟩ (.string ((rd_T55 a1 a2).f0))).setCell ⟨a5,1,none⟩ (.string ((rd_T55 a1 a2).f1))).setCell ⟨a5,2,none⟩ (.bool ((rd_T55 a1 a2).f2)))):=⟨bf HB.out⟩
         (try clear a4);(try clear a3);(try clear HB);generalize (((aa.setCell ⟨a5,0,none⟩ (.string ((rd_T55 a1 a2).f0))).setCell ⟨a5,1,none⟩ (.string ((rd_T55 a1 a2).f1))).setCell ⟨a5,2,none⟩ (.bool ((rd_T55 a1 a2).f2)))=w17 at ab ac ad ⊢; have a4:=ab;have a3:=ac;have HB:=ad;clear ab ac ad;refine Ya3 (blk_drew a4.out) (blk_drew a3.out) (below_drew1 HB.out) ?_;clear a4 a3 HB;intro a4 a3 HB;refine start_ (n:=26) (S:=fun w'=>w'.cell? ⟨a5,0,none⟩=some (.string ((rd_T55 a1 a2).f0))∧w'.cell? ⟨a5,1,none⟩=some (.string ((rd_T55 a1 a2).f1))∧w'.cell? ⟨a5,2,none⟩=some (.bool ((rd_T55 a1 a2).f2))) (ds:=[]) (fb 26 0) (by kernel_rfl) rfl rfl ⟨bc a3 0,bc a3 1,bc a3 2⟩ (fun hHeld => ?_);refine with_tabW spec_ValidTree.tab7 spec_ValidTree.bits7 (fun HT_ HW_ => ?_);generalize w17.drew=w18 at a4 a3 HB hHeld ⊢; refine pu 0 22 (fb 26 1) HT_ ?_;refine tk 1 23 (fb 26 3) HT_ HW_ hHeld ?_;refine o1 2 (some 24) (fb 26 7) HT_ (fun K hK => ?_);refine gs _ (#[.string ((rd_T55 a1 a2).f0)]) Tryd.func15 ?_;(with_reducible refine (spec_ValidPath.calls k1 ((rd_T55 a1 a2).f0) true _ aw.out).mono ?_);rintro e w19 ⟨rfl,hb⟩;refine ⟨_,rfl,?_⟩;refine Ya3 (bb a4 hb) (bb a3 hb) (below_step (bf HB.out) hb) ?_;clear a4 a3 HB;intro a4 a3 HB;(try clear hb);(try clear hb2);(try clear hk);(try clear hi);refine hK.out _ _ ⟨bc a3 0,bc a3 1,bc a3 2⟩ (fun hHeld => ?_);clear hK K;refine nm 24 ?_;refine pu 3 25 (fb 26 15) HT_ ?_;refine pu 4 26 (fb 26 31) HT_ ?_;refine pu 5 27 (fb 26 63) HT_ ?_;refine tk 6 28 (fb 26 127) HT_ HW_ hHeld ?_;refine pu 7 29 (fb 26 255) HT_ ?_;refine pu 8 30 (fb 26 511) HT_ ?_;refine pu 9 31 (fb 26 1023) HT_ ?_;refine pu 10 32 (fb 26 2047) HT_ ?_;refine pn 11 33 (fb 26 4095) HT_ ?_;refine pn 12 34 (fb 26 8191) HT_ ?_;refine pn 13 35 (fb 26 16383) HT_ ?_;refine pn 14 36 (fb 26 32767) HT_ ?_;refine pn 15 37 (fb 26 65535) HT_ ?_;refine pn 16 38 (fb 26 131071) HT_ ?_;refine pn 17 39 (fb 26 262143) HT_ ?_;refine pn 18 40 (fb 26 524287) HT_ ?_;refine pn 19 41 (fb 26 1048575) HT_ ?_;refine pn 20 42 (fb 26 2097151) HT_ ?_;refine pn 21 43 (fb 26 4194303) HT_ ?_;refine pn 22 44 (fb 26 8388607) HT_ ?_;refine pn 23 45 (fb 26 16777215) HT_ ?_;refine pn 24 46 (fb 26 33554431) HT_ ?_;refine pu 25 47 (fb 26 67108863) HT_ ?_;refine done_ (done_of HT_.out (by kernel_rfl)) ?_
         try go_wp2
         go_meet
         case rel=>exact ⟨_,(true),Ye1,H',⟨by have:=HK1.out;first|omega|exact Nat.le_refl _⟩,⟨bk a4.out⟩,⟨bk a3.out⟩,⟨bf HB.out⟩⟩
        ·rw [if_neg an] at H
         have ax:decide (1500<(((rd_T55 a1 a2).f1).size:Int))=false:=decide_eq_false an;have b9:decide (1500<((rd_T55 a1 a2).f1).size)=false:=decide_eq_false (by omega);clear an;(first|rw [ax]|(simp only [i64_w,i32_w];rw [ax])|skip)
         by_cases aj:a2>0
         ·rw [if_pos aj] at H
          have aP:decide (0<a2)=true:=decide_eq_true aj;clear aj
          obtain ⟨a9,ao⟩:∃ j_:Int,(wrap64 (a2 - 1))=j_:=⟨_,rfl⟩
          rw [ao] at H
          (try rw [ao] at aw);have hji21w:(IntKind.i64.wrap (a2 - 1))=a9:=(i64_w _).trans ao
          by_cases ap:0≤(a9)
          ·rw [if_pos ap] at H
           have c22b0:decide (0≤(a9))=true:=decide_eq_true ap;clear ap
           by_cases aq:(a9)<(a1.length:Int)
           ·rw [if_pos aq] at H
            have c23b0:decide ((a9)<(a1.length:Int))=true:=decide_eq_true aq;clear aq;have H':=Aside0.mk H;clear H
            try go_wp2
            have ab:Aside0 ((((aa.setCell ⟨a5,0,none⟩ (.string ((rd_T55 a1 a2).f0))).setCell ⟨a5,1,none⟩ (.string ((rd_T55 a1 a2).f1))).setCell ⟨a5,2,none⟩ (.bool ((rd_T55 a1 a2).f2))).heap[af]? = some (.cells #[.slice (some a8) a1.length ae] 32 (0,0))):=⟨bkf a4.out av.out⟩
            have ac:Aside0 ((((aa.setCell ⟨a5,0,none⟩ (.string ((rd_T55 a1 a2).f0))).setCell ⟨a5,1,none⟩ (.string ((rd_T55 a1 a2).f1))).setCell ⟨a5,2,none⟩ (.bool ((rd_T55 a1 a2).f2))).heap[a5]? = some (.cells #[.string ((rd_T55 a1 a2).f0),.string ((rd_T55 a1 a2).f1),.bool ((rd_T55 a1 a2).f2)] 55 (0,0))):=⟨bp a3.out⟩
            have ad:Aside0 (Below w.heap.size w (((aa.setCell ⟨a5,0,none⟩ (.string ((rd_T55 a1 a2).f0))).setCell ⟨a5,1,none⟩ (.string ((rd_T55 a1 a2).f1))).setCell ⟨a5,2,none⟩ (.bool ((rd_T55 a1 a2).f2)))):=⟨bf HB.out⟩
            (try clear a4);(try clear a3);(try clear HB);generalize (((aa.setCell ⟨a5,0,none⟩ (.string ((rd_T55 a1 a2).f0))).setCell ⟨a5,1,none⟩ (.string ((rd_T55 a1 a2).f1))).setCell ⟨a5,2,none⟩ (.bool ((rd_T55 a1 a2).f2)))=w24 at ab ac ad ⊢; have a4:=ab;have a3:=ac;have HB:=ad;clear ab ac ad;refine Ya3 (blk_drew a4.out) (blk_drew a3.out) (below_drew1 HB.out) ?_;clear a4 a3 HB;intro a4 a3 HB;have aQ:0≤((a9):Int):=oda;have aR:(a9)<(a1.length:Int):=oda;obtain ⟨ba,bd,aC,aD,aE⟩:=at_T55 aA.out (a9) aQ aR;have hw126_2:=aE;have hw126_1:=aD;have hw126_0:=aC
            obtain rfl:a8=ba:=(by injection bd)
            replace aC:=pw_cell_below HB.out aC;replace aD:=pw_cell_below HB.out aD;replace aE:=pw_cell_below HB.out aE;replace aQ:=eq_true aQ;replace aR:=eq_true aR;refine start_ (n:=26) (S:=fun w'=>w'.cell? ⟨a5,0,none⟩=some (.string ((rd_T55 a1 a2).f0))∧w'.cell? ⟨a5,1,none⟩=some (.string ((rd_T55 a1 a2).f1))∧w'.cell? ⟨a5,2,none⟩=some (.bool ((rd_T55 a1 a2).f2))∧w'.cell? ⟨af,0,none⟩=some (.slice (some a8) a1.length ae)∧w'.cell? (a8.add (((a9)).toNat*3))=some (.string ((rd_T55 a1 (a9)).f0))∧w'.cell? ⟨(a8.add (((a9)).toNat*3)).block,(a8.add (((a9)).toNat*3)).off+1,none⟩=some (.string ((rd_T55 a1 (a9)).f1))∧w'.cell? ⟨(a8.add (((a9)).toNat*3)).block,(a8.add (((a9)).toNat*3)).off+2,none⟩=some (.bool ((rd_T55 a1 (a9)).f2))) (ds:=[]) (fb 26 0) (by kernel_rfl) rfl rfl ⟨bc a3 0,bc a3 1,bc a3 2,bc a4 0,(pw_cell_below HB.out hw126_0),(pw_cell_below HB.out hw126_1),(pw_cell_below HB.out hw126_2)⟩ (fun hHeld => ?_);refine with_tabW spec_ValidTree.tab7 spec_ValidTree.bits7 (fun HT_ HW_ => ?_);generalize w24.drew=w25 at a4 a3 HB aC aD aE hHeld ⊢; refine pu 0 22 (fb 26 1) HT_ ?_;refine tk 1 23 (fb 26 3) HT_ HW_ hHeld ?_;refine o1 2 (some 24) (fb 26 7) HT_ (fun K hK => ?_);refine gs _ (#[.string ((rd_T55 a1 a2).f0)]) Tryd.func15 ?_;(with_reducible refine (spec_ValidPath.calls k1 ((rd_T55 a1 a2).f0) true _ aw.out).mono ?_);rintro e w26 ⟨rfl,hb⟩;refine ⟨_,rfl,?_⟩;refine Ya3 (bb a4 hb) (bb a3 hb) (below_step (bf HB.out) hb) ?_;clear a4 a3 HB;intro a4 a3 HB;(try clear hb);(try clear hb2);(try clear hk);(try clear hi);refine hK.out _ _ ⟨bc a3 0,bc a3 1,bc a3 2,bc a4 0,(pw_cell_below HB.out hw126_0),(pw_cell_below HB.out hw126_1),(pw_cell_below HB.out hw126_2)⟩ (fun hHeld => ?_);clear hK K;refine nm 24 ?_;refine pu 3 25 (fb 26 15) HT_ ?_;refine pu 4 26 (fb 26 31) HT_ ?_;refine pu 5 27 (fb 26 63) HT_ ?_;refine tk 6 28 (fb 26 127) HT_ HW_ hHeld ?_;refine pu 7 29 (fb 26 255) HT_ ?_;refine pu 8 30 (fb 26 511) HT_ ?_;refine pu 9 31 (fb 26 1023) HT_ ?_;refine pu 10 32 (fb 26 2047) HT_ ?_;refine pu 11 33 (fb 26 4095) HT_ ?_;refine pu 12 34 (fb 26 8191) HT_ ?_;refine pu 13 35 (fb 26 16383) HT_ ?_;refine pu 14 36 (fb 26 32767) HT_ ?_;refine pu 16 38 (fb 26 98303) HT_ ?_;refine pu 17 39 (fb 26 229375) HT_ ?_;refine pu 21 43 (fb 26 2326527) HT_ ?_;refine tk 15 37 (fb 26 2359295) HT_ HW_ hHeld ?_;refine pu 18 40 (fb 26 2621439) HT_ ?_;refine pu 19 41 (fb 26 3145727) HT_ ?_;refine tk 20 42 (fb 26 4194303) HT_ HW_ hHeld ?_;refine tk 22 44 (fb 26 8388607) HT_ HW_ hHeld ?_;refine pu 23 45 (fb 26 16777215) HT_ ?_;refine pu 24 46 (fb 26 33554431) HT_ ?_;refine pu 25 47 (fb 26 67108863) HT_ ?_;refine done_ (done_of HT_.out (by kernel_rfl)) ?_
            try go_wp2
            go_meet
            case rel=>exact ⟨_,(!(Op.bytesLess (((rd_T55 a1 (a9)).f0).toList) (((rd_T55 a1 a2).f0).toList))),(by first|rfl|(simp;done)|(simp only [←ao] <;> (first|rfl|simp))|(simp [*];done)),(by first|exact H'|(subst ao;exact H')|(simp only [←ao] at H' ⊢; exact H')),⟨by have:=HK1.out;first|omega|exact Nat.le_refl _⟩,⟨bk a4.out⟩,⟨bk a3.out⟩,⟨bf HB.out⟩⟩
           ·rw [if_neg aq] at H
            exact absurd H (by simp)
          ·rw [if_neg ap] at H
           exact absurd H (by simp)
         ·rw [if_neg aj] at H
          have aP:decide (0<a2)=false:=decide_eq_false aj;clear aj;have H':=Aside0.mk H;clear H
          try go_wp2
          have ab:Aside0 ((((aa.setCell ⟨a5,0,none⟩ (.string ((rd_T55 a1 a2).f0))).setCell ⟨a5,1,none⟩ (.string ((rd_T55 a1 a2).f1))).setCell ⟨a5,2,none⟩ (.bool ((rd_T55 a1 a2).f2))).heap[af]? = some (.cells #[.slice (some a8) a1.length ae] 32 (0,0))):=⟨bkf a4.out av.out⟩
          have ac:Aside0 ((((aa.setCell ⟨a5,0,none⟩ (.string ((rd_T55 a1 a2).f0))).setCell ⟨a5,1,none⟩ (.string ((rd_T55 a1 a2).f1))).setCell ⟨a5,2,none⟩ (.bool ((rd_T55 a1 a2).f2))).heap[a5]? = some (.cells #[.string ((rd_T55 a1 a2).f0),.string ((rd_T55 a1 a2).f1),.bool ((rd_T55 a1 a2).f2)] 55 (0,0))):=⟨bp a3.out⟩
          have ad:Aside0 (Below w.heap.size w (((aa.setCell ⟨a5,0,none⟩ (.string ((rd_T55 a1 a2).f0))).setCell ⟨a5,1,none⟩ (.string ((rd_T55 a1 a2).f1))).setCell ⟨a5,2,none⟩ (.bool ((rd_T55 a1 a2).f2)))):=⟨bf HB.out⟩
          (try clear a4);(try clear a3);(try clear HB);generalize (((aa.setCell ⟨a5,0,none⟩ (.string ((rd_T55 a1 a2).f0))).setCell ⟨a5,1,none⟩ (.string ((rd_T55 a1 a2).f1))).setCell ⟨a5,2,none⟩ (.bool ((rd_T55 a1 a2).f2)))=w27 at ab ac ad ⊢; have a4:=ab;have a3:=ac;have HB:=ad;clear ab ac ad;refine Ya3 (blk_drew a4.out) (blk_drew a3.out) (below_drew1 HB.out) ?_;clear a4 a3 HB;intro a4 a3 HB;refine start_ (n:=26) (S:=fun w'=>w'.cell? ⟨a5,0,none⟩=some (.string ((rd_T55 a1 a2).f0))∧w'.cell? ⟨a5,1,none⟩=some (.string ((rd_T55 a1 a2).f1))∧w'.cell? ⟨a5,2,none⟩=some (.bool ((rd_T55 a1 a2).f2))) (ds:=[]) (fb 26 0) (by kernel_rfl) rfl rfl ⟨bc a3 0,bc a3 1,bc a3 2⟩ (fun hHeld => ?_);refine with_tabW spec_ValidTree.tab7 spec_ValidTree.bits7 (fun HT_ HW_ => ?_);generalize w27.drew=w28 at a4 a3 HB hHeld ⊢; refine pu 0 22 (fb 26 1) HT_ ?_;refine tk 1 23 (fb 26 3) HT_ HW_ hHeld ?_;refine o1 2 (some 24) (fb 26 7) HT_ (fun K hK => ?_);refine gs _ (#[.string ((rd_T55 a1 a2).f0)]) Tryd.func15 ?_;(with_reducible refine (spec_ValidPath.calls k1 ((rd_T55 a1 a2).f0) true _ aw.out).mono ?_);rintro e w29 ⟨rfl,hb⟩;refine ⟨_,rfl,?_⟩;refine Ya3 (bb a4 hb) (bb a3 hb) (below_step (bf HB.out) hb) ?_;clear a4 a3 HB;intro a4 a3 HB;(try clear hb);(try clear hb2);(try clear hk);(try clear hi);refine hK.out _ _ ⟨bc a3 0,bc a3 1,bc a3 2⟩ (fun hHeld => ?_);clear hK K;refine nm 24 ?_;refine pu 3 25 (fb 26 15) HT_ ?_;refine pu 4 26 (fb 26 31) HT_ ?_;refine pu 5 27 (fb 26 63) HT_ ?_;refine tk 6 28 (fb 26 127) HT_ HW_ hHeld ?_;refine pu 7 29 (fb 26 255) HT_ ?_;refine pu 8 30 (fb 26 511) HT_ ?_;refine pu 9 31 (fb 26 1023) HT_ ?_;refine pu 10 32 (fb 26 2047) HT_ ?_;refine pu 11 33 (fb 26 4095) HT_ ?_;refine pu 12 34 (fb 26 8191) HT_ ?_;refine pu 13 35 (fb 26 16383) HT_ ?_;refine pn 14 36 (fb 26 32767) HT_ ?_;refine pn 15 37 (fb 26 65535) HT_ ?_;refine pn 16 38 (fb 26 131071) HT_ ?_;refine pn 17 39 (fb 26 262143) HT_ ?_;refine pn 18 40 (fb 26 524287) HT_ ?_;refine pn 19 41 (fb 26 1048575) HT_ ?_;refine pn 20 42 (fb 26 2097151) HT_ ?_;refine pn 21 43 (fb 26 4194303) HT_ ?_;refine pn 22 44 (fb 26 8388607) HT_ ?_;refine pn 23 45 (fb 26 16777215) HT_ ?_;refine pu 24 46 (fb 26 33554431) HT_ ?_;refine pu 25 47 (fb 26 67108863) HT_ ?_;refine done_ (done_of HT_.out (by kernel_rfl)) ?_
          try go_wp2
          go_meet
          case rel=>exact ⟨_,(false),Ye1,H',⟨by have:=HK1.out;first|omega|exact Nat.le_refl _⟩,⟨bk a4.out⟩,⟨bk a3.out⟩,⟨bf HB.out⟩⟩
       ·replace am:=Bool.eq_false_iff.mpr am;subst am
        rw [if_neg (show ¬(false=true) by decide)] at H
        have H':=Aside0.mk H;clear H
        try go_wp2
        have ab:Aside0 ((((aa.setCell ⟨a5,0,none⟩ (.string ((rd_T55 a1 a2).f0))).setCell ⟨a5,1,none⟩ (.string ((rd_T55 a1 a2).f1))).setCell ⟨a5,2,none⟩ (.bool ((rd_T55 a1 a2).f2))).heap[af]? = some (.cells #[.slice (some a8) a1.length ae] 32 (0,0))):=⟨bkf a4.out av.out⟩
        have ac:Aside0 ((((aa.setCell ⟨a5,0,none⟩ (.string ((rd_T55 a1 a2).f0))).setCell ⟨a5,1,none⟩ (.string ((rd_T55 a1 a2).f1))).setCell ⟨a5,2,none⟩ (.bool ((rd_T55 a1 a2).f2))).heap[a5]? = some (.cells #[.string ((rd_T55 a1 a2).f0),.string ((rd_T55 a1 a2).f1),.bool ((rd_T55 a1 a2).f2)] 55 (0,0))):=⟨bp a3.out⟩
        have ad:Aside0 (Below w.heap.size w (((aa.setCell ⟨a5,0,none⟩ (.string ((rd_T55 a1 a2).f0))).setCell ⟨a5,1,none⟩ (.string ((rd_T55 a1 a2).f1))).setCell ⟨a5,2,none⟩ (.bool ((rd_T55 a1 a2).f2)))):=⟨bf HB.out⟩
        (try clear a4);(try clear a3);(try clear HB);generalize (((aa.setCell ⟨a5,0,none⟩ (.string ((rd_T55 a1 a2).f0))).setCell ⟨a5,1,none⟩ (.string ((rd_T55 a1 a2).f1))).setCell ⟨a5,2,none⟩ (.bool ((rd_T55 a1 a2).f2)))=w30 at ab ac ad ⊢; have a4:=ab;have a3:=ac;have HB:=ad;clear ab ac ad;refine Ya3 (blk_drew a4.out) (blk_drew a3.out) (below_drew1 HB.out) ?_;clear a4 a3 HB;intro a4 a3 HB;refine start_ (n:=26) (S:=fun w'=>w'.cell? ⟨a5,0,none⟩=some (.string ((rd_T55 a1 a2).f0))∧w'.cell? ⟨a5,1,none⟩=some (.string ((rd_T55 a1 a2).f1))∧w'.cell? ⟨a5,2,none⟩=some (.bool ((rd_T55 a1 a2).f2))) (ds:=[]) (fb 26 0) (by kernel_rfl) rfl rfl ⟨bc a3 0,bc a3 1,bc a3 2⟩ (fun hHeld => ?_);refine with_tabW spec_ValidTree.tab7 spec_ValidTree.bits7 (fun HT_ HW_ => ?_);generalize w30.drew=w31 at a4 a3 HB hHeld ⊢; refine pu 0 22 (fb 26 1) HT_ ?_;refine tk 1 23 (fb 26 3) HT_ HW_ hHeld ?_;refine o1 2 (some 24) (fb 26 7) HT_ (fun K hK => ?_);refine gs _ (#[.string ((rd_T55 a1 a2).f0)]) Tryd.func15 ?_;(with_reducible refine (spec_ValidPath.calls k1 ((rd_T55 a1 a2).f0) false _ aw.out).mono ?_);rintro e w32 ⟨rfl,hb⟩;refine ⟨_,rfl,?_⟩;refine Ya3 (bb a4 hb) (bb a3 hb) (below_step (bf HB.out) hb) ?_;clear a4 a3 HB;intro a4 a3 HB;(try clear hb);(try clear hb2);(try clear hk);(try clear hi);refine hK.out _ _ ⟨bc a3 0,bc a3 1,bc a3 2⟩ (fun hHeld => ?_);clear hK K;refine nm 24 ?_;refine pu 3 25 (fb 26 15) HT_ ?_;refine pu 4 26 (fb 26 31) HT_ ?_;refine pn 5 27 (fb 26 63) HT_ ?_;refine pn 6 28 (fb 26 127) HT_ ?_;refine pn 7 29 (fb 26 255) HT_ ?_;refine pn 8 30 (fb 26 511) HT_ ?_;refine pu 9 31 (fb 26 1023) HT_ ?_;refine pu 10 32 (fb 26 2047) HT_ ?_;refine pn 11 33 (fb 26 4095) HT_ ?_;refine pn 12 34 (fb 26 8191) HT_ ?_;refine pn 13 35 (fb 26 16383) HT_ ?_;refine pn 14 36 (fb 26 32767) HT_ ?_;refine pn 15 37 (fb 26 65535) HT_ ?_;refine pn 16 38 (fb 26 131071) HT_ ?_;refine pn 17 39 (fb 26 262143) HT_ ?_;refine pn 18 40 (fb 26 524287) HT_ ?_;refine pn 19 41 (fb 26 1048575) HT_ ?_;refine pn 20 42 (fb 26 2097151) HT_ ?_;refine pn 21 43 (fb 26 4194303) HT_ ?_;refine pn 22 44 (fb 26 8388607) HT_ ?_;refine pn 23 45 (fb 26 16777215) HT_ ?_;refine pn 24 46 (fb 26 33554431) HT_ ?_;refine pu 25 47 (fb 26 67108863) HT_ ?_;refine done_ (done_of HT_.out (by kernel_rfl)) ?_
        try go_wp2
        go_meet
        case rel=>exact ⟨_,(true),Ye1,H',⟨by have:=HK1.out;first|omega|exact Nat.le_refl _⟩,⟨bk a4.out⟩,⟨bk a3.out⟩,⟨bf HB.out⟩⟩
      case rest =>
       clear aM;(try clear c1);(try clear c2);(try clear p2);(try clear am);(try clear aj);(try clear aP);(try clear ap);(try clear aq);obtain ⟨kq,aB,rfl,HA,HJ8,a4,a3,HB⟩:=hcut
       cases kq with
       | zero=>exact absurd HA.out (by simp [spec_ValidTree.j1])
       | succ kj8 =>
        have H:=HA.out;clear HA;simp only [spec_ValidTree.j1] at H
        by_cases ay:aB=true
        ·subst ay
         rw [if_pos rfl] at H
         obtain rfl:=Option.some.inj H
         go_wp2
         go_ret
         exact ⟨Ye2,(bf HB.out)⟩
        ·replace ay:=Bool.eq_false_iff.mpr ay;subst ay
         rw [if_neg (show ¬(false=true) by decide)] at H
         have H':=Aside0.mk H;clear H
         go_wp2
         go_loopg [5] kj8 (fun kq v5 w' => ∃ (a6:Int),v5 = .int .i64 a6∧Aside0 (spec_ValidTree.l1 kq a2 a6 a1 ((rd_T55 a1 a2).f0) ((rd_T55 a1 a2).f1) ((rd_T55 a1 a2).f2)=some r)∧Aside0 (kq≤kj8)∧Aside0 (w'.heap[af]? = some (.cells #[(.slice (some a8) a1.length ae)] 32 (0,0)))∧Aside0 (w'.heap[a5]? = some (.cells #[.string ((rd_T55 a1 a2).f0),.string ((rd_T55 a1 a2).f1),.bool ((rd_T55 a1 a2).f2)] 55 (0,0)))∧Aside0 (Below w.heap.size w w'))
         case atStart=>exact ⟨(0),Ye1,H',⟨Nat.le_refl _⟩,⟨bk a4.out⟩,⟨bk a3.out⟩,⟨bf HB.out⟩⟩
         case round =>
          clear H';(try clear c1);(try clear c2);(try clear p2);(try clear c3);(try clear am);(try clear aj);(try clear aP);(try clear ap);(try clear aq);(try clear ay);(try clear p2);obtain ⟨a6,rfl,HA,HK3,a4,a3,HB⟩:=hrel
          cases gk with
          | zero=>exact absurd HA.out (by simp [spec_ValidTree.l1])
          | succ k3 =>
           have H:=HA.out;clear HA;simp only [spec_ValidTree.l1] at H
           by_cases ar:a6<a2
           ·rw [if_pos ar] at H
            have bg:decide (a6<a2)=true:=decide_eq_true ar;clear ar
            by_cases aF:0≤a6
            ·rw [if_pos aF] at H
             have c35b0:decide (0≤a6)=true:=decide_eq_true aF;clear aF
             by_cases aG:a6<(a1.length:Int)
             ·rw [if_pos aG] at H
              have c36b0:decide (a6<(a1.length:Int))=true:=decide_eq_true aG;clear aG;replace H:=Option.bind_eq_some_iff.mp H;obtain ⟨aL,aZ,H⟩:=H;(try dsimp only at H);have A37:=Aside0.mk aZ;clear aZ
              by_cases aH:aL=true
              ·subst aH
               rw [if_pos rfl] at H
               obtain rfl:=Option.some.inj H
               try go_wp2
               refine Ya3 (blk_drew a4.out) (blk_drew a3.out) (below_drew1 HB.out) ?_;clear a4 a3 HB;intro a4 a3 HB;have ak:0≤(a6:Int):=oda;have al:a6<(a1.length:Int):=oda;obtain ⟨aS,aT,ag,ah,ai⟩:=at_T55 aA.out a6 ak al;have hw127_2:=ai;have hw127_1:=ah;have hw127_0:=ag
               obtain rfl:a8=aS:=(by injection aT)
               replace ag:=pw_cell_below HB.out ag;replace ah:=pw_cell_below HB.out ah;replace ai:=pw_cell_below HB.out ai;replace ak:=eq_true ak;replace al:=eq_true al;refine start_ (n:=9) (S:=fun w'=>w'.cell? ⟨af,0,none⟩=some (.slice (some a8) a1.length ae)∧w'.cell? ⟨a5,0,none⟩=some (.string ((rd_T55 a1 a2).f0))∧w'.cell? ⟨a5,1,none⟩=some (.string ((rd_T55 a1 a2).f1))∧w'.cell? ⟨a5,2,none⟩=some (.bool ((rd_T55 a1 a2).f2))∧w'.cell? (a8.add ((a6).toNat*3))=some (.string ((rd_T55 a1 a6).f0))∧w'.cell? ⟨(a8.add ((a6).toNat*3)).block,(a8.add ((a6).toNat*3)).off+1,none⟩=some (.string ((rd_T55 a1 a6).f1))∧w'.cell? ⟨(a8.add ((a6).toNat*3)).block,(a8.add ((a6).toNat*3)).off+2,none⟩=some (.bool ((rd_T55 a1 a6).f2))) (ds:=[]) (fb 9 0) (by kernel_rfl) rfl rfl ⟨bc a4 0,bc a3 0,bc a3 1,bc a3 2,(pw_cell_below HB.out hw127_0),(pw_cell_below HB.out hw127_1),(pw_cell_below HB.out hw127_2)⟩ (fun hHeld => ?_);refine with_tabW spec_ValidTree.tab12 spec_ValidTree.bits12 (fun HT_ HW_ => ?_);generalize wr.drew=w39 at a4 a3 HB ag ah ai hHeld ⊢; refine pu 0 53 (fb 9 1) HT_ ?_;refine pu 2 55 (fb 9 5) HT_ ?_;refine pu 6 59 (fb 9 69) HT_ ?_;refine tk 1 54 (fb 9 71) HT_ HW_ hHeld ?_;refine pu 3 56 (fb 9 79) HT_ ?_;refine pu 4 57 (fb 9 95) HT_ ?_;refine tk 5 58 (fb 9 127) HT_ HW_ hHeld ?_;refine tk 7 60 (fb 9 255) HT_ HW_ hHeld ?_;refine o1 8 (some 61) (fb 9 511) HT_ (fun K hK => ?_);refine gs _ (#[.string ((rd_T55 a1 a6).f0),.string ((rd_T55 a1 a2).f0)]) Tryd.func38 ?_;(with_reducible refine (spec_l5Begins.calls ((rd_T55 a1 a6).f0) ((rd_T55 a1 a2).f0) true _ A37.out).mono ?_);rintro e w' ⟨rfl,⟨nd,rfl⟩⟩;refine ⟨_,rfl,?_⟩;refine hK.out _ _ ⟨bc a4 0,bc a3 0,bc a3 1,bc a3 2,(pw_cell_below HB.out hw127_0),(pw_cell_below HB.out hw127_1),(pw_cell_below HB.out hw127_2)⟩ (fun hHeld => ?_);clear hK K;refine nm 61 ?_;refine done_ (done_of HT_.out (by kernel_rfl)) ?_
               try go_wp2
               go_ret
               exact ⟨Ye2,(bf HB.out)⟩
              ·replace aH:=Bool.eq_false_iff.mpr aH;subst aH
               rw [if_neg (show ¬(false=true) by decide)] at H
               have H':=Aside0.mk H;clear H
               try go_wp2
               refine Ya3 (blk_drew a4.out) (blk_drew a3.out) (below_drew1 HB.out) ?_;clear a4 a3 HB;intro a4 a3 HB;have ak:0≤(a6:Int):=oda;have al:a6<(a1.length:Int):=oda;obtain ⟨aS,aT,ag,ah,ai⟩:=at_T55 aA.out a6 ak al;have hw127_2:=ai;have hw127_1:=ah;have hw127_0:=ag
               obtain rfl:a8=aS:=(by injection aT)
               replace ag:=pw_cell_below HB.out ag;replace ah:=pw_cell_below HB.out ah;replace ai:=pw_cell_below HB.out ai;replace ak:=eq_true ak;replace al:=eq_true al;refine start_ (n:=9) (S:=fun w'=>w'.cell? ⟨af,0,none⟩=some (.slice (some a8) a1.length ae)∧w'.cell? ⟨a5,0,none⟩=some (.string ((rd_T55 a1 a2).f0))∧w'.cell? ⟨a5,1,none⟩=some (.string ((rd_T55 a1 a2).f1))∧w'.cell? ⟨a5,2,none⟩=some (.bool ((rd_T55 a1 a2).f2))∧w'.cell? (a8.add ((a6).toNat*3))=some (.string ((rd_T55 a1 a6).f0))∧w'.cell? ⟨(a8.add ((a6).toNat*3)).block,(a8.add ((a6).toNat*3)).off+1,none⟩=some (.string ((rd_T55 a1 a6).f1))∧w'.cell? ⟨(a8.add ((a6).toNat*3)).block,(a8.add ((a6).toNat*3)).off+2,none⟩=some (.bool ((rd_T55 a1 a6).f2))) (ds:=[]) (fb 9 0) (by kernel_rfl) rfl rfl ⟨bc a4 0,bc a3 0,bc a3 1,bc a3 2,(pw_cell_below HB.out hw127_0),(pw_cell_below HB.out hw127_1),(pw_cell_below HB.out hw127_2)⟩ (fun hHeld => ?_);refine with_tabW spec_ValidTree.tab12 spec_ValidTree.bits12 (fun HT_ HW_ => ?_);generalize wr.drew=w40 at a4 a3 HB ag ah ai hHeld ⊢; refine pu 0 53 (fb 9 1) HT_ ?_;refine pu 2 55 (fb 9 5) HT_ ?_;refine pu 6 59 (fb 9 69) HT_ ?_;refine tk 1 54 (fb 9 71) HT_ HW_ hHeld ?_;refine pu 3 56 (fb 9 79) HT_ ?_;refine pu 4 57 (fb 9 95) HT_ ?_;refine tk 5 58 (fb 9 127) HT_ HW_ hHeld ?_;refine tk 7 60 (fb 9 255) HT_ HW_ hHeld ?_;refine o1 8 (some 61) (fb 9 511) HT_ (fun K hK => ?_);refine gs _ (#[.string ((rd_T55 a1 a6).f0),.string ((rd_T55 a1 a2).f0)]) Tryd.func38 ?_;(with_reducible refine (spec_l5Begins.calls ((rd_T55 a1 a6).f0) ((rd_T55 a1 a2).f0) false _ A37.out).mono ?_);rintro e w' ⟨rfl,⟨nd,rfl⟩⟩;refine ⟨_,rfl,?_⟩;refine hK.out _ _ ⟨bc a4 0,bc a3 0,bc a3 1,bc a3 2,(pw_cell_below HB.out hw127_0),(pw_cell_below HB.out hw127_1),(pw_cell_below HB.out hw127_2)⟩ (fun hHeld => ?_);clear hK K;refine nm 61 ?_;refine done_ (done_of HT_.out (by kernel_rfl)) ?_
               try go_wp2
               go_roundg k3
               case measure=>have:=HK1.out;have:=HJ8.out;have:=HK3.out;omega
               case rel=>exact ⟨(wrap64 (a6+1)),Ye1,H',⟨by have:=HK1.out;have:=HJ8.out;have:=HK3.out;omega⟩,⟨bk a4.out⟩,⟨bk a3.out⟩,⟨bf HB.out⟩⟩
             ·rw [if_neg aG] at H
              exact absurd H (by simp)
            ·rw [if_neg aF] at H
             exact absurd H (by simp)
           ·rw [if_neg ar] at H
            have bg:decide (a6<a2)=false:=decide_eq_false ar;clear ar;have H':=Aside0.mk H;clear H
            go_wp2
            go_roundg k3
            case measure=>have:=HK1.out;have:=HJ8.out;have:=HK3.out;omega
            case rel=>exact ⟨(wrap64 (a2+1)),Ye1,H',⟨by have:=HK1.out;have:=HJ8.out;have:=HK3.out;omega⟩,⟨bk a4.out⟩,⟨bf HB.out⟩⟩
     ·rw [if_neg c8] at H
      exact absurd H (by simp)
    ·rw [if_neg c7] at H
     have b6:decide (a2<(a1.length:Int))=false:=decide_eq_false c7;clear c7;obtain rfl:=Option.some.inj H;have ⟨bA,bB⟩:=Yc1 a4.out
     go_wp2
     go_ret
     exact ⟨Ye2,(bf HB.out)⟩

end Go.Proofs.YthfpoacindblgaaDoor.P


namespace Go.Proofs.YthfpoacindblgaaDoor.P
open Go.RowKit Go.Proofs.YthfpoacindblgaaDoorW.PrintWords Go.Proofs.YthfpoacindblgaaDoorW.PrintLast Go.Proofs.YthfpoacindblgaaDoorW.PrintMore
attribute [local go_sem] max2_int min2_int max_two min_two max_three min_three max_four min_four
set_option linter.unusedVariables false
set_option linter.unusedSimpArgs false

mutual
def spec_Sum.l0:Nat→ByteArray→Int→Int→Int→Option (ByteArray)
 | 0,_,_,_,_=>none
 | k+1,x0,x1,x5,x6=>if x6<(x0.size:Int) then (if 0≤x6 then (spec_Sum.l0 k x0 x1 (IntKind.u64.wrap ((Go.bits .xor .u64 x5 (IntKind.u64.wrap (bt x0 x6)))*1099511628211)) (wrap64 (x6+1))) else (none)) else (spec_Sum.l1 k x1 x5 (⟨#[]⟩:ByteArray) 0)
def spec_Sum.l1:Nat→Int→Int→ByteArray→Int→Option (ByteArray)
 | 0,_,_,_,_=>none
 | k+1,x1,x5,x7,x8=>if x8<x1 then ((some (([(Int.tmod x5 256) % 256]:List Int):List Int)).bind fun a4=>(if (strOfNums a4).size+x7.size≤9223372036854775807 then (spec_Sum.l1 k x1 (IntKind.u64.wrap (Int.tdiv x5 256)) ((strOfNums a4)++x7) (wrap64 (x8+1))) else (none))) else (some x7)
end
def spec_Sum.f (k:Nat) (a0:ByteArray) (a1:Int):Option (ByteArray):=(spec_l1In.f a1 1 8).bind fun a7=>(if a7=true then (spec_Sum.l0 k a0 a1 14695981039346656037 0) else (some (⟨#[]⟩:ByteArray)))
theorem spec_Sum.mono_l:∀ k,(∀ y0 y1 y2 y3,LeO (spec_Sum.l0 k y0 y1 y2 y3) (spec_Sum.l0 (k+1) y0 y1 y2 y3))∧(∀ y0 y1 y2 y3,LeO (spec_Sum.l1 k y0 y1 y2 y3) (spec_Sum.l1 (k+1) y0 y1 y2 y3))
 | 0=>⟨fun _ _ _ _ r h=>by simp [spec_Sum.l0] at h,fun _ _ _ _ r h=>by simp [spec_Sum.l1] at h⟩
 | k + 1 => by
  obtain ⟨ih0,ih1⟩:=spec_Sum.mono_l k;refine ⟨?_,?_⟩
  ·intro y0 y1 y2 y3
   unfold spec_Sum.l0
   exact mo2 ih0 ih1
  ·intro y0 y1 y2 y3
   unfold spec_Sum.l1
   exact mo2 ih0 ih1
theorem spec_Sum.mono:∀ a0 a1 k,LeO (spec_Sum.f k a0 a1) (spec_Sum.f (k+1) a0 a1):=by
 intro a0 a1 k;obtain ⟨ih0,ih1⟩:=spec_Sum.mono_l k
 unfold spec_Sum.f
 exact mo2 ih0 ih1
set_option maxHeartbeats 8000000 in
set_option maxRecDepth 100000 in
theorem spec_Sum.calls (k : Nat) (a0 : ByteArray) (a1 : Int) (r : ByteArray) (w : World) (h : spec_Sum.f k a0 a1 = some r) :
  Calls Tryd.prog 37 #[.string a0,.int .i64 a1] w fun e w'=>e = .returned (.string r)∧Below w.heap.size w w':=by
 have HB:=Aside0.mk (Below.refl w.heap.size w);have H:((spec_l1In.f a1 1 8).bind fun a7=>(if a7=true then (spec_Sum.l0 k a0 a1 14695981039346656037 0) else (some (⟨#[]⟩:ByteArray))))=some r:=h;clear h;replace H:=Option.bind_eq_some_iff.mp H;obtain ⟨a7,A30,H⟩:=H;(try dsimp only at H);have A3:=Aside0.mk A30;clear A30
 by_cases c4:a7=true
 ·subst c4
  rw [if_pos rfl] at H
  have H':=Aside0.mk H;clear H
  go_enter Tryd.func37,Tryd.ntmps37
  go_wp2_with (first|((with_reducible refine gc 33 rfl ?_);refine gl (some 10) _ (#[.int .i64 a1,.int .i64 1,.int .i64 8]) Tryd.func33 ?_;(with_reducible refine (spec_l1In.calls a1 1 8 true _ A3.out).mono ?_);rintro e w' ⟨rfl,⟨nd,rfl⟩⟩;refine ⟨_,rfl,?_⟩))
  go_loopg [5,6] k (fun kq v5 v6 w' => ∃ (a8:Int) (a2:Int),v5 = .int .u64 a8∧v6 = .int .i64 a2∧Aside0 (spec_Sum.l0 kq a0 a1 a8 a2=some r)∧Aside0 (kq≤k)∧Aside0 (Below w.heap.size w w'))
  case atStart=>exact ⟨(14695981039346656037),(0),Ye1,Ye1,H',⟨Nat.le_refl _⟩,⟨be HB.out⟩⟩
  case round =>
   clear H';(try clear p2);(try clear c3);(try clear c4);obtain ⟨a8,a2,rfl,rfl,HA,HK1,HB⟩:=hrel
   cases gk with
   | zero=>exact absurd HA.out (by simp [spec_Sum.l0])
   | succ k1 =>
    have H:=HA.out;clear HA;simp only [spec_Sum.l0] at H
    by_cases c5:a2<(a0.size:Int)
    ·rw [if_pos c5] at H
     have aa:decide (a2<(a0.size:Int))=true:=decide_eq_true c5;clear c5
     by_cases c6:0≤a2
     ·rw [if_pos c6] at H
      have ac:decide (0≤a2)=true:=decide_eq_true c6;clear c6;have H':=Aside0.mk H;clear H;have p7:0≤(a2:Int):=oda;have q7:a2<(a0.size:Int):=oda;have hx7:=bt_at a0 a2;replace p7:=eq_true p7;replace q7:=eq_true q7
      go_wp2
      go_roundg k1
      case measure=>have:=HK1.out;omega
      case rel=>exact ⟨(IntKind.u64.wrap ((Go.bits .xor .u64 a8 (IntKind.u64.wrap (bt a0 a2)))*1099511628211)),(wrap64 (a2+1)),Ye1,Ye1,H',⟨by have:=HK1.out;omega⟩,⟨be HB.out⟩⟩
     ·rw [if_neg c6] at H
      exact absurd H (by simp)
    ·rw [if_neg c5] at H
     have aa:decide (a2<(a0.size:Int))=false:=decide_eq_false c5;clear c5;have H':=Aside0.mk H;clear H
     go_wp2
     go_loopg [5,7,8] k1 (fun kq v5 v7 v8 w' => ∃ (a3:Int) (a5:ByteArray) (a6:Int),v5 = .int .u64 a3∧v7 = .string a5∧v8 = .int .i64 a6∧Aside0 (spec_Sum.l1 kq a1 a3 a5 a6=some r)∧Aside0 (kq≤k1)∧Aside0 (Below w.heap.size w w'))
     case atStart=>exact ⟨(a8),((⟨#[]⟩:ByteArray)),(0),Ye1,Ye1,Ye1,H',⟨Nat.le_refl _⟩,⟨be HB.out⟩⟩
     case round =>
      clear H';(try clear p2);(try clear c3);(try clear c4);(try clear c5);(try clear aa);(try clear c6);(try clear ac);(try clear p6);(try clear p7);(try clear q7);(try clear hx7);(try clear p2);(try clear p7);(try clear q7);obtain ⟨a3,a5,a6,rfl,rfl,rfl,HA,HK2,HB⟩:=hrel
      cases gk with
      | zero=>exact absurd HA.out (by simp [spec_Sum.l1])
      | succ k2 =>
       have H:=HA.out;clear HA;simp only [spec_Sum.l1] at H
       by_cases c8:a6<a1
       ·rw [if_pos c8] at H
        have ad:decide (a6<a1)=true:=decide_eq_true c8;clear c8
        obtain ⟨a4,a9⟩:∃ y_:List Int,y_=(([(Int.tmod a3 256) % 256]:List Int)):=⟨_,rfl⟩
        (first|replace H:=bl_ a9 H|rw [←a9] at H);(try dsimp only at H);have ab:=Aside0.mk a9;clear a9
        by_cases c9:(strOfNums a4).size+a5.size≤9223372036854775807
        ·rw [if_pos c9] at H
         have c9b0:=eq_true c9;have c9b1:decide ((strOfNums a4).size+a5.size≤9223372036854775807)=true:=decide_eq_true c9
         try have c9b2:(9223372036854775807<(strOfNums a4).size+a5.size)=False:=eq_false (Nat.not_lt.2 c9)
         have H':=Aside0.mk H;clear H
         go_wp2_with (first|((with_reducible refine gd 33 rfl ?_);refine Kd.R_lit (Kd.int .u8) _ 5 ?hg (N:=33) ?hd (xs:=([(Int.tmod a3 256) % 256]:List Int)) (inner:=[.int .u8 ((Int.tmod a3 256) % 256)]) (ok:=fun _=>True) (okp:=fun _=>True) ?hr ?hp (fun _ hk=>hk) trivial (Below.refl _ _) (Nat.le_refl _) (by simp) ?_;(case hd=>rfl);(case hg=>rfl);(case hr=>first|(go_simp;done)|(go_simp;rfl));(case hp=>exact (Reps.one (show Kd.M (Kd.int .u8) _ _ _ ((Int.tmod a3 256) % 256) [.int .u8 ((Int.tmod a3 256) % 256)] from rfl) (Reps.none _ _)));intro v177 w10 ho11 hb hg_ hnew_;clear hg_ hnew_;(first|rw [←ab.out] at ho11|(simp only [Int.reduceToNat] at ho11;rw [←ab.out] at ho11));refine Ya2 (Kd.R_lower ho11 (below_size (be HB.out))) (below_step (be HB.out) hb) ?_;clear HB;intro ae HB;clear hb ho11;have hcv12:=own_string (P:=Tryd.prog) Tryd.underlying64 Tryd.underlying5 Tryd.underlying9 (Kd.own_of_R ae.out)))
         go_roundg k2
         case measure=>have:=HK1.out;have:=HK2.out;omega
         case rel=>exact ⟨(IntKind.u64.wrap (Int.tdiv a3 256)),((strOfNums a4)++a5),(wrap64 (a6+1)),Ye1,Ye1,Ye1,H',⟨by have:=HK1.out;have:=HK2.out;omega⟩,⟨be HB.out⟩⟩
        ·rw [if_neg c9] at H
         exact absurd H (by simp)
       ·rw [if_neg c8] at H
        have ad:decide (a6<a1)=false:=decide_eq_false c8;clear c8;obtain rfl:=Option.some.inj H
        go_wp2
        go_ret
        exact ⟨Ye2,be HB.out⟩
 ·replace c4:=Bool.eq_false_iff.mpr c4;subst c4
  rw [if_neg (show ¬(false=true) by decide)] at H
  obtain rfl:=Option.some.inj H
  go_enter Tryd.func37,Tryd.ntmps37
  go_wp2_with (first|((with_reducible refine gc 33 rfl ?_);refine gl (some 10) _ (#[.int .i64 a1,.int .i64 1,.int .i64 8]) Tryd.func33 ?_;(with_reducible refine (spec_l1In.calls a1 1 8 false _ A3.out).mono ?_);rintro e w' ⟨rfl,⟨nd,rfl⟩⟩;refine ⟨_,rfl,?_⟩))
  go_ret
  exact ⟨Ye2,be HB.out⟩

end Go.Proofs.YthfpoacindblgaaDoor.P


namespace Go.Proofs.YthfpoacindblgaaDoor.P
open Go.RowKit Go.Proofs.YthfpoacindblgaaDoorW.PrintWords Go.Proofs.YthfpoacindblgaaDoorW.PrintLast Go.Proofs.YthfpoacindblgaaDoorW.PrintMore
attribute [local go_sem] max2_int min2_int max_two min_two max_three min_three max_four min_four
set_option linter.unusedVariables false
set_option linter.unusedSimpArgs false

def impl_find.g (l:List S55) (path:ByteArray) (i:Nat):Int:=Go.Lib.compareBytes path.data.toList (rd_T55 l (i:Int)).f0.data.toList
def impl_find.l0 (g:Nat→Int):Nat→Nat→Nat→Option Nat
 | 0,_,_=>none
 | k+1,i,j=>if i<j then (if g ((i+j) / 2)>0 then impl_find.l0 g k ((i+j) / 2+1) j else impl_find.l0 g k i ((i+j) / 2)) else some i
def impl_find.f (k:Nat) (l0:List S55) (a1:ByteArray):Option (Int×Bool):=if l0.length≤4611686018427387904 then ((impl_find.l0 (impl_find.g l0 a1) k 0 l0.length).bind fun i=>some ((i:Int),if i<l0.length then (impl_find.g l0 a1 i==0) else false)) else none
theorem impl_find.mono_l (g:Nat→Int):∀ k i j,LeO (impl_find.l0 g k i j) (impl_find.l0 g (k+1) i j)
 | 0,_,_=>fun r h=>by simp [impl_find.l0] at h
 | k+1,i,j=>by
  unfold impl_find.l0
  exact LeO.ite (LeO.ite (impl_find.mono_l g k _ _) (impl_find.mono_l g k _ _)) (LeO.refl _)
theorem impl_find.mono:∀ l0 a1 k,LeO (impl_find.f k l0 a1) (impl_find.f (k+1) l0 a1):=fun l0 a1 k=>by
 unfold impl_find.f
 exact LeO.ite (LeO.bind (impl_find.mono_l _ _ _ _) (fun _=>LeO.refl _)) (LeO.refl _)
set_option maxHeartbeats 1000000 in
set_option maxRecDepth 100000 in
theorem impl_find.cmp_calls (A:Option Addr) (c:Nat) (l:List S55) (path:ByteArray) (Bp Bt:Nat) (W:World) (hp:W.cell? ⟨Bp,0,none⟩=some (.string path)) (ht:W.cell? ⟨Bt,0,none⟩=some (.slice A l.length c)) (hc:Kd.C k55 W A l.length l) (i:Nat) (hi:i<l.length) :
  Calls Tryd.prog 48 #[.int .i64 (i:Int),.pointer (some ⟨Bp,0,none⟩),.pointer (some ⟨Bt,0,none⟩)] W fun e w'=>e = .returned (.int .i64 (impl_find.g l path i)) ∧ ∃ nd,w'=W.drewN nd:=by
 obtain ⟨ad,e1,hx0⟩:=at_T55 hc (i:Int) (by omega) (by omega);subst e1;have hu29:=Tryd.underlying32;have hu45:=Tryd.underlying55;obtain ⟨hx1,hx2,hx3⟩:=hx0
 rw [Int.toNat_natCast] at hx1 hx2 hx3
 have c1:decide ((i:Int)<(l.length:Int))=true:=decide_eq_true (by omega);have c2:decide (0≤(i:Int))=true:=decide_eq_true (by omega);have c3:decide (i<l.length)=true:=decide_eq_true hi
 go_enter Tryd.func48,Tryd.ntmps48
 go_wp2
 go_quiet (first|(go_at_call 49;exact Calls.quiet_of_same (Tryd.strings_Compare path (rd_T55 l (i:Int)).f0 _)))
 go_wp2
 go_ret
 exact ⟨rfl,nq,rfl⟩
set_option maxHeartbeats 1000000 in
set_option maxRecDepth 100000 in
theorem impl_find.calls (k:Nat) (a2:Option Addr) (a3:Nat) (a0:List S55) (a1:ByteArray) (r1:Int) (r2:Bool) (w:World) (a4:Kd.C k55 w a2 a0.length a0) (hc0_0:a0.length≤a3) (h:impl_find.f k a0 a1=some (r1,r2)) :
  Calls Tryd.prog 25 #[.agg #[.slice a2 a0.length a3],.string a1] w fun e w'=>e = .returned (.tuple #[.int .i64 r1,.bool r2])∧Below w.heap.size w w':=by
 have hu29:=Tryd.underlying32;have hu45:=Tryd.underlying55
 unfold impl_find.f at h
 have hl62:a0.length≤4611686018427387904:=by
  refine Classical.byContradiction fun hn => ?_
  rw [if_neg hn] at h
  cases h
 rw [if_pos hl62] at h
 have HL:=Aside0.mk hl62;clear hl62;obtain ⟨m,hm,h2⟩:=Option.bind_eq_some_iff.1 h;obtain ⟨rfl,rfl⟩:=Prod.mk.inj (Option.some.inj h2);clear h h2;have HM:=Aside0.mk hm;clear hm
 go_enter Tryd.func25,Tryd.ntmps25
 go_wp2
 have ht:((w.alloc (.cells #[.slice a2 a0.length a3] 32)).alloc (.cells #[.string a1] 9)).cell? ⟨w.heap.size,0,none⟩=some (.slice a2 a0.length a3):=by simp
 have hp:((w.alloc (.cells #[.slice a2 a0.length a3] 32)).alloc (.cells #[.string a1] 9)).cell? ⟨w.heap.size+1,0,none⟩=some (.string a1):=by simp
 have hc:Kd.C k55 ((w.alloc (.cells #[.slice a2 a0.length a3] 32)).alloc (.cells #[.string a1] 9)) a2 a0.length a0:=Kd.C_alloc (Kd.C_alloc a4 _) _;have hb:Below w.heap.size w ((w.alloc (.cells #[.slice a2 a0.length a3] 32)).alloc (.cells #[.string a1] 9)):=below_alloc (below_alloc (Below.refl _ _) _) _;generalize ((w.alloc (.cells #[.slice a2 a0.length a3] 32)).alloc (.cells #[.string a1] 9))=W at ht hp hc hb ⊢
 have HC:=fun (nd i:Nat) (hi:i<a0.length)=>impl_find.cmp_calls a2 a3 a0 a1 (w.heap.size+1) w.heap.size (W.drewN nd) hp ht (Kd.C_drewN hc nd) i hi
 clear hc hp ht a4
 go_loopg [4,6] k (fun kq v4 v6 w' => ∃ (i j nd:Nat),v4 = .int .i64 (i:Int)∧v6 = .int .i64 (j:Int)∧Aside0 (impl_find.l0 (impl_find.g a0 a1) kq i j=some m)∧Aside0 (j≤a0.length)∧w'=W.drewN nd)
 case atStart=>exact ⟨0,a0.length,0,rfl,rfl,HM,⟨Nat.le_refl _⟩,rfl⟩
 case round =>
  clear HM;obtain ⟨i,j,nd,rfl,rfl,HM,HJ,rfl⟩:=hrel
  cases gk with
  | zero=>exact absurd HM.out (by simp [impl_find.l0])
  | succ k1 =>
   have H:=HM.out;clear HM
   unfold impl_find.l0 at H
   by_cases hij:i<j
   ·rw [if_pos hij] at H
    have c1:decide ((i:Int)<(j:Int))=true:=decide_eq_true (by omega);have c2:decide (i<j)=true:=decide_eq_true hij
    have he:wrap64 (IntKind.u64.wrap (wrap64 ((i:Int)+(j:Int))) / 2)=(((i+j) / 2:Nat):Int):=by
     have hl:=HL.out;have hj:=HJ.out
     have e1:wrap64 ((i:Int)+(j:Int))=(i:Int)+(j:Int):=by unfold wrap64;omega
     have e2:IntKind.u64.wrap ((i:Int)+(j:Int))=(i:Int)+(j:Int):=by simp [IntKind.wrap,IntKind.bits,IntKind.signed];omega
     rw [e1,e2]
     unfold wrap64
     omega
    have hh:(i+j) / 2<a0.length:=by have:=HJ.out;omega
    by_cases hg:impl_find.g a0 a1 ((i+j) / 2)>0
    ·rw [if_pos hg] at H
     have d1:decide (0<impl_find.g a0 a1 ((i+j) / 2))=true:=decide_eq_true hg;have H':=Aside0.mk H;clear H
     go_wp2_with (go_at_call 48;rw [he];refine (HC nd _ hh).mono ?_;rintro e w' ⟨rfl,nd2,rfl⟩)
     go_roundg k1
     case measure=>omega
     case rel=>exact ⟨(i+j) / 2+1,j,nd+nd2,by rw [show wrap64 (((i:Int)+(j:Int)) / 2+1)=(((i+j) / 2+1:Nat):Int) from by have:=HL.out;have:=HJ.out;unfold wrap64;omega],rfl,H',HJ,rfl⟩
    ·rw [if_neg hg] at H
     have d1:decide (0<impl_find.g a0 a1 ((i+j) / 2))=false:=decide_eq_false hg;have H':=Aside0.mk H;clear H
     go_wp2_with (go_at_call 48;rw [he];refine (HC nd _ hh).mono ?_;rintro e w' ⟨rfl,nd2,rfl⟩)
     go_roundg k1
     case measure=>omega
     case rel=>exact ⟨i,(i+j) / 2,nd+nd2,rfl,by rw [show ((i:Int)+(j:Int)) / 2=(((i+j) / 2:Nat):Int) from by omega],H',⟨by have:=HJ.out;omega⟩,rfl⟩
   ·rw [if_neg hij] at H
    obtain rfl:=Option.some.inj H;have c1:decide ((i:Int)<(j:Int))=false:=decide_eq_false (by omega);have c2:decide (i<j)=false:=decide_eq_false hij
    by_cases hi:i<a0.length
    ·have d1:decide ((i:Int)<(a0.length:Int))=true:=decide_eq_true (by omega);have d2:decide (i<a0.length)=true:=decide_eq_true hi
     go_wp2_with (go_at_call 48;refine (HC nd i hi).mono ?_;rintro e w' ⟨rfl,nd2,rfl⟩)
     go_ret2
     exact ⟨by simp [hi],pw_below_drewN hb _⟩
    ·have d1:decide ((i:Int)<(a0.length:Int))=false:=decide_eq_false (by omega);have d2:decide (i<a0.length)=false:=decide_eq_false hi
     go_wp2
     go_ret2
     exact ⟨by simp [hi],pw_below_drewN hb _⟩


end Go.Proofs.YthfpoacindblgaaDoor.P


namespace Go.Proofs.YthfpoacindblgaaDoor.P
open Go.RowKit Go.Proofs.YthfpoacindblgaaDoorW.PrintWords Go.Proofs.YthfpoacindblgaaDoorW.PrintLast Go.Proofs.YthfpoacindblgaaDoorW.PrintMore
attribute [local go_sem] max2_int min2_int max_two min_two max_three min_three max_four min_four
set_option linter.unusedVariables false
set_option linter.unusedSimpArgs false

def laws_markText.l0:Nat→Int→ByteArray→Option (ByteArray)
 | 0,_,_=>none
 | k+1,x0,x3=>if x0>0 then ((some (([(wrap64 (48+(Int.tmod x0 10))) % 256]:List Int):List Int)).bind fun a3=>(if (strOfNums a3).size+x3.size≤9223372036854775807 then (laws_markText.l0 k (wrap64 (Int.tdiv x0 10)) ((strOfNums a3)++x3)) else (none))) else (if 1+x3.size≤9223372036854775807 then (some ((⟨#[109]⟩:ByteArray)++x3)) else (none))
def laws_markText.f (k:Nat) (a0:Int):Option (ByteArray):=if a0≤0 then (some (⟨#[109,48]⟩:ByteArray)) else (laws_markText.l0 k a0 (⟨#[]⟩:ByteArray))
theorem laws_markText.mono_l:∀ k,(∀ y0 y1,LeO (laws_markText.l0 k y0 y1) (laws_markText.l0 (k+1) y0 y1))
 | 0=>fun _ _ r h=>by simp [laws_markText.l0] at h
 | k + 1 => by
  have ih0:=laws_markText.mono_l k
  ·intro y0 y1
   unfold laws_markText.l0
   exact mo1 ih0
theorem laws_markText.mono:∀ a0 k,LeO (laws_markText.f k a0) (laws_markText.f (k+1) a0):=by
 intro a0 k;have ih0:=laws_markText.mono_l k
 unfold laws_markText.f
 exact mo1 ih0
set_option maxHeartbeats 8000000 in
set_option maxRecDepth 100000 in
theorem laws_markText.calls (k:Nat) (a0:Int) (r:ByteArray) (w:World) (h:laws_markText.f k a0=some r) :
  Calls Tryd.prog 51 #[.int .i64 a0] w fun e w'=>e = .returned (.string r)∧Below w.heap.size w w':=by
 have HB:=Aside0.mk (Below.refl w.heap.size w);have H:(if a0≤0 then (some (⟨#[109,48]⟩:ByteArray)) else (laws_markText.l0 k a0 (⟨#[]⟩:ByteArray)))=some r:=h;clear h
 by_cases c2:a0≤0
 ·rw [if_pos c2] at H
  have a5:decide (a0≤0)=true:=decide_eq_true c2;clear c2;obtain rfl:=Option.some.inj H
  go_enter Tryd.func51,Tryd.ntmps51
  go_wp2
  go_ret
  exact ⟨Ye2,be HB.out⟩
 ·rw [if_neg c2] at H
  have a5:decide (a0≤0)=false:=decide_eq_false c2;clear c2;have H':=Aside0.mk H;clear H
  go_enter Tryd.func51,Tryd.ntmps51
  go_wp2
  go_loopg [0,3] k (fun kq v0 v3 w' => ∃ (a1:Int) (a2:ByteArray),v0 = .int .i64 a1∧v3 = .string a2∧Aside0 (laws_markText.l0 kq a1 a2=some r)∧Aside0 (kq≤k)∧Aside0 (Below w.heap.size w w'))
  case atStart=>exact ⟨(a0),((⟨#[]⟩:ByteArray)),Ye1,Ye1,H',⟨Nat.le_refl _⟩,⟨be HB.out⟩⟩
  case round =>
   clear H';(try clear c2);(try clear a5);(try clear p2);obtain ⟨a1,a2,rfl,rfl,HA,HK1,HB⟩:=hrel
   cases gk with
   | zero=>exact absurd HA.out (by simp [laws_markText.l0])
   | succ k1 =>
    have H:=HA.out;clear HA;simp only [laws_markText.l0] at H
    by_cases c3:a1>0
    ·rw [if_pos c3] at H
     have a7:decide (0<a1)=true:=decide_eq_true c3;clear c3
     obtain ⟨a3,a4⟩:∃ y_:List Int,y_=(([(wrap64 (48+(Int.tmod a1 10))) % 256]:List Int)):=⟨_,rfl⟩
     (first|replace H:=bl_ a4 H|rw [←a4] at H);(try dsimp only at H);have a6:=Aside0.mk a4;clear a4
     by_cases c4:(strOfNums a3).size+a2.size≤9223372036854775807
     ·rw [if_pos c4] at H
      have c4b0:=eq_true c4;have c4b1:decide ((strOfNums a3).size+a2.size≤9223372036854775807)=true:=decide_eq_true c4
      try have c4b2:(9223372036854775807<(strOfNums a3).size+a2.size)=False:=eq_false (Nat.not_lt.2 c4)
      have H':=Aside0.mk H;clear H
      go_wp2_with (first|((with_reducible refine gd 12 rfl ?_);refine Kd.R_lit (Kd.int .u8) _ 5 ?hg (N:=12) ?hd (xs:=([(wrap64 (48+(Int.tmod a1 10))) % 256]:List Int)) (inner:=[.int .u8 ((wrap64 (48+(Int.tmod a1 10))) % 256)]) (ok:=fun _=>True) (okp:=fun _=>True) ?hr ?hp (fun _ hk=>hk) trivial (Below.refl _ _) (Nat.le_refl _) (by simp) ?_;(case hd=>rfl);(case hg=>rfl);(case hr=>first|(go_simp;done)|(go_simp;rfl));(case hp=>exact (Reps.one (show Kd.M (Kd.int .u8) _ _ _ ((wrap64 (48+(Int.tmod a1 10))) % 256) [.int .u8 ((wrap64 (48+(Int.tmod a1 10))) % 256)] from rfl) (Reps.none _ _)));intro v442 w5 ho6 hb hg_ hnew_;clear hg_ hnew_;(first|rw [←a6.out] at ho6|(simp only [Int.reduceToNat] at ho6;rw [←a6.out] at ho6));refine Ya2 (Kd.R_lower ho6 (below_size (be HB.out))) (below_step (be HB.out) hb) ?_;clear HB;intro a8 HB;clear hb ho6;have hcv7:=own_string (P:=Tryd.prog) Tryd.underlying64 Tryd.underlying5 Tryd.underlying9 (Kd.own_of_R a8.out)))
      go_roundg k1
      case measure=>have:=HK1.out;omega
      case rel=>exact ⟨(wrap64 (Int.tdiv a1 10)),((strOfNums a3)++a2),Ye1,Ye1,H',⟨by have:=HK1.out;omega⟩,⟨be HB.out⟩⟩
     ·rw [if_neg c4] at H
      exact absurd H (by simp)
    ·rw [if_neg c3] at H
     have a7:decide (0<a1)=false:=decide_eq_false c3;clear c3
     by_cases c8:1+a2.size≤9223372036854775807
     ·rw [if_pos c8] at H
      have c8b0:=eq_true c8;have c8b1:decide (1+a2.size≤9223372036854775807)=true:=decide_eq_true c8
      try have c8b2:(9223372036854775807<1+a2.size)=False:=eq_false (Nat.not_lt.2 c8)
      obtain rfl:=Option.some.inj H
      go_wp2
      go_ret
      exact ⟨Ye2,be HB.out⟩
     ·rw [if_neg c8] at H
      exact absurd H (by simp)

end Go.Proofs.YthfpoacindblgaaDoor.P


namespace Go.Proofs.YthfpoacindblgaaDoor.P
open Go.RowKit Go.Proofs.YthfpoacindblgaaDoorW.PrintWords Go.Proofs.YthfpoacindblgaaDoorW.PrintLast Go.Proofs.YthfpoacindblgaaDoorW.PrintMore
attribute [local go_sem] max2_int min2_int max_two min_two max_three min_three max_four min_four
set_option linter.unusedVariables false
set_option linter.unusedSimpArgs false

def laws_heldStringS.l0:Nat→List ByteArray→Int→Int→Option (Int)
 | 0,_,_,_=>none
 | k+1,x0,x1,x5=>if x5<(x0.length:Int) then (if 0≤x5 then ((laws_markText.f k x1).bind fun a3=>(if (rdOf ByteArray.empty x0 x5).toList=a3.toList then (laws_heldStringS.l0 k x0 (wrap64 (x1+1)) (wrap64 (x5+1))) else (some (-1)))) else (none)) else (some x1)
def laws_heldStringS.f (k:Nat) (l0:List ByteArray) (a1:Int):Option (Int):=laws_heldStringS.l0 k l0 a1 0
theorem laws_heldStringS.mono_l:∀ k,(∀ y0 y1 y2,LeO (laws_heldStringS.l0 k y0 y1 y2) (laws_heldStringS.l0 (k+1) y0 y1 y2))
 | 0=>fun _ _ _ r h=>by simp [laws_heldStringS.l0] at h
 | k + 1 => by
  have ih0:=laws_heldStringS.mono_l k
  ·intro y0 y1 y2
   unfold laws_heldStringS.l0
   exact mo2 ih0 @laws_markText.mono
theorem laws_heldStringS.mono:∀ a0 a1 k,LeO (laws_heldStringS.f k a0 a1) (laws_heldStringS.f (k+1) a0 a1):=by
 intro a0 a1 k;have ih0:=laws_heldStringS.mono_l k
 unfold laws_heldStringS.f
 exact mo2 ih0 @laws_markText.mono
set_option maxHeartbeats 8000000 in
set_option maxRecDepth 100000 in
theorem laws_heldStringS.calls (k:Nat) (A0:Option Addr) (c0:Nat) (l0:List ByteArray) (a1:Int) (r:Int) (w:World) (hr0:Kd.C Kd.string w A0 l0.length l0) (hc0:l0.length≤c0) (h:laws_heldStringS.f k l0 a1=some r) :
  Calls Tryd.prog 30 #[.slice A0 l0.length c0,.int .i64 a1] w fun e w'=>e = .returned (.int .i64 r)∧Below w.heap.size w w':=by
 have HR0:=Aside0.mk hr0;have HC0:=Aside0.mk hc0;clear hr0 hc0;have HB:=Aside0.mk (Below.refl w.heap.size w);have H:(laws_heldStringS.l0 k l0 a1 0)=some r:=h;clear h;have H':=Aside0.mk H;clear H
 go_enter Tryd.func30,Tryd.ntmps30
 go_wp2
 go_loopg [1,5] k (fun kq v1 v5 w' => ∃ (a5:Int) (a2:Int),v1 = .int .i64 a5∧v5 = .int .i64 a2∧Aside0 (laws_heldStringS.l0 kq l0 a5 a2=some r)∧Aside0 (kq≤k)∧Aside0 (Below w.heap.size w w'))
 case atStart=>exact ⟨(a1),(0),Ye1,Ye1,H',⟨Nat.le_refl _⟩,⟨be HB.out⟩⟩
 case round =>
  clear H';(try clear p2);obtain ⟨a5,a2,rfl,rfl,HA,HK1,HB⟩:=hrel
  cases gk with
  | zero=>exact absurd HA.out (by simp [laws_heldStringS.l0])
  | succ k1 =>
   have H:=HA.out;clear HA;simp only [laws_heldStringS.l0] at H
   by_cases c3:a2<(l0.length:Int)
   ·rw [if_pos c3] at H
    have aa:decide (a2<(l0.length:Int))=true:=decide_eq_true c3;clear c3
    by_cases c4:0≤a2
    ·rw [if_pos c4] at H
     have c4b0:decide (0≤a2)=true:=decide_eq_true c4;clear c4;replace H:=Option.bind_eq_some_iff.mp H;obtain ⟨a3,A50,H⟩:=H;(try dsimp only at H);have A5:=Aside0.mk A50;clear A50
     by_cases c6:(rdOf ByteArray.empty l0 a2).toList=a3.toList
     ·rw [if_pos c6] at H
      have ab:((rdOf ByteArray.empty l0 a2).toList==a3.toList)=true:=beq_iff_eq.mpr c6;have ac:((rdOf ByteArray.empty l0 a2).toList != a3.toList)=false:=bne_eq_false_iff_eq.mpr c6;clear c6;have H':=Aside0.mk H;clear H
      try go_wp2
      refine Ya1 (below_drew1 HB.out) ?_;clear HB;intro HB;have a6:0≤(a2:Int):=oda;have a7:a2<(l0.length:Int):=oda;obtain ⟨a8,a9,a4⟩:=Kd.at_string HR0.out a2 a6 a7;have hw457_0:=a4
      cases a9
      replace a4:=pw_cell_below HB.out a4;replace a6:=eq_true a6;replace a7:=eq_true a7;refine start_ (n:=7) (S:=fun w'=>w'.cell? (a8.add (a2).toNat)=some (.string (rdOf ByteArray.empty l0 a2))) (ds:=[]) (fb 7 0) (by kernel_rfl) rfl rfl ((pw_cell_below HB.out hw457_0)) (fun hHeld => ?_);generalize wr.drew=w7 at HB a4 hHeld ⊢; refine pure_ (i:=0) (N:=some 12) (v:=?_) (a':=?_) (fb 7 1) rfl rfl (by kernel_rfl) (fun _ _ _ h=>h) (Or.inl ⟨by rfl,?_⟩) ?_ ?_;rotate_left
      ·intro w';go_simp;(with_reducible rfl)
      rotate_left
      ·simp only [Act.put,List.setIfInBounds_toArray,List.set_cons_zero,List.set_cons_succ,i64_w,i32_w];rfl
      refine pure_ (i:=1) (N:=some 13) (v:=?_) (a':=?_) (fb 7 3) rfl rfl (by kernel_rfl) (fun _ _ _ h=>h) (Or.inl ⟨by rfl,?_⟩) ?_ ?_;rotate_left
      ·intro w';go_simp;(with_reducible rfl)
      rotate_left
      ·simp only [Act.put,List.setIfInBounds_toArray,List.set_cons_zero,List.set_cons_succ,i64_w,i32_w];rfl
      refine pure_ (i:=2) (N:=some 14) (v:=?_) (a':=?_) (fb 7 7) rfl rfl (by kernel_rfl) (fun _ _ _ h=>h) (Or.inl ⟨by rfl,?_⟩) ?_ ?_;rotate_left
      ·intro w';go_simp;(with_reducible rfl)
      rotate_left
      ·simp only [Act.put,List.setIfInBounds_toArray,List.set_cons_zero,List.set_cons_succ,i64_w,i32_w];rfl
      refine pure_ (i:=4) (N:=some 16) (v:=?_) (a':=?_) (fb 7 23) rfl rfl (by kernel_rfl) (fun _ _ _ h=>h) (Or.inl ⟨by rfl,?_⟩) ?_ ?_;rotate_left
      ·intro w';go_simp;(with_reducible rfl)
      rotate_left
      ·simp only [Act.put,List.setIfInBounds_toArray,List.set_cons_zero,List.set_cons_succ,i64_w,i32_w];rfl
      refine take_ (i:=3) (N:=some 15) (v:=?_) (a':=?_) (fb 7 31) rfl rfl (by kernel_rfl) (fun _ _ _ h=>h) (Or.inl ⟨by rfl,?_⟩) hHeld ?_ ?_;rotate_left
      ·intro w' s0;go_simp;(with_reducible rfl)
      rotate_left
      ·simp only [Act.put,List.setIfInBounds_toArray,List.set_cons_zero,List.set_cons_succ,i64_w,i32_w];rfl
      refine one_ (i:=5) (N:=some 17) (fb 7 63) rfl rfl (by kernel_rfl) (by decide) (fun K hK => ?_);refine gs _ (#[.int .i64 a5]) Tryd.func51 ?_;(with_reducible refine (laws_markText.calls k1 a5 a3 _ A5.out).mono ?_);rintro e w8 ⟨rfl,hb⟩;refine ⟨_,rfl,?_⟩;refine Ya1 (below_step (be HB.out) hb) ?_;clear HB;intro HB;(try clear hb);(try clear hb2);(try clear hk);(try clear hi);refine hK.out _ _ ((pw_cell_below HB.out hw457_0)) (fun hHeld => ?_);clear hK K;refine nm 17 ?_;refine pure_ (i:=6) (N:=some 18) (v:=?_) (a':=?_) (fb 7 127) rfl rfl (by kernel_rfl) (fun _ _ _ h=>h) (Or.inl ⟨by rfl,?_⟩) ?_ ?_;rotate_left
      ·intro w';go_simp;(with_reducible rfl)
      rotate_left
      ·simp only [Act.put,List.setIfInBounds_toArray,List.set_cons_zero,List.set_cons_succ,i64_w,i32_w];rfl
      refine done_ (by kernel_rfl) ?_
      try go_wp2
      go_roundg k1
      case measure=>have:=HK1.out;omega
      case rel=>exact ⟨(wrap64 (a5+1)),(wrap64 (a2+1)),Ye1,Ye1,H',⟨by have:=HK1.out;omega⟩,⟨be HB.out⟩⟩
     ·rw [if_neg c6] at H
      have ab:((rdOf ByteArray.empty l0 a2).toList==a3.toList)=false:=beq_eq_false_iff_ne.mpr c6;have ac:((rdOf ByteArray.empty l0 a2).toList != a3.toList)=true:=bne_iff_ne.mpr c6;obtain rfl:=Option.some.inj H
      try go_wp2
      refine Ya1 (below_drew1 HB.out) ?_;clear HB;intro HB;have a6:0≤(a2:Int):=oda;have a7:a2<(l0.length:Int):=oda;obtain ⟨a8,a9,a4⟩:=Kd.at_string HR0.out a2 a6 a7;have hw457_0:=a4
      cases a9
      replace a4:=pw_cell_below HB.out a4;replace a6:=eq_true a6;replace a7:=eq_true a7;refine start_ (n:=7) (S:=fun w'=>w'.cell? (a8.add (a2).toNat)=some (.string (rdOf ByteArray.empty l0 a2))) (ds:=[]) (fb 7 0) (by kernel_rfl) rfl rfl ((pw_cell_below HB.out hw457_0)) (fun hHeld => ?_);generalize wr.drew=w9 at HB a4 hHeld ⊢; refine pure_ (i:=0) (N:=some 12) (v:=?_) (a':=?_) (fb 7 1) rfl rfl (by kernel_rfl) (fun _ _ _ h=>h) (Or.inl ⟨by rfl,?_⟩) ?_ ?_;rotate_left
      ·intro w';go_simp;(with_reducible rfl)
      rotate_left
      ·simp only [Act.put,List.setIfInBounds_toArray,List.set_cons_zero,List.set_cons_succ,i64_w,i32_w];rfl
      refine pure_ (i:=1) (N:=some 13) (v:=?_) (a':=?_) (fb 7 3) rfl rfl (by kernel_rfl) (fun _ _ _ h=>h) (Or.inl ⟨by rfl,?_⟩) ?_ ?_;rotate_left
      ·intro w';go_simp;(with_reducible rfl)
      rotate_left
      ·simp only [Act.put,List.setIfInBounds_toArray,List.set_cons_zero,List.set_cons_succ,i64_w,i32_w];rfl
      refine pure_ (i:=2) (N:=some 14) (v:=?_) (a':=?_) (fb 7 7) rfl rfl (by kernel_rfl) (fun _ _ _ h=>h) (Or.inl ⟨by rfl,?_⟩) ?_ ?_;rotate_left
      ·intro w';go_simp;(with_reducible rfl)
      rotate_left
      ·simp only [Act.put,List.setIfInBounds_toArray,List.set_cons_zero,List.set_cons_succ,i64_w,i32_w];rfl
      refine pure_ (i:=4) (N:=some 16) (v:=?_) (a':=?_) (fb 7 23) rfl rfl (by kernel_rfl) (fun _ _ _ h=>h) (Or.inl ⟨by rfl,?_⟩) ?_ ?_;rotate_left
      ·intro w';go_simp;(with_reducible rfl)
      rotate_left
      ·simp only [Act.put,List.setIfInBounds_toArray,List.set_cons_zero,List.set_cons_succ,i64_w,i32_w];rfl
      refine take_ (i:=3) (N:=some 15) (v:=?_) (a':=?_) (fb 7 31) rfl rfl (by kernel_rfl) (fun _ _ _ h=>h) (Or.inl ⟨by rfl,?_⟩) hHeld ?_ ?_;rotate_left
      ·intro w' s0;go_simp;(with_reducible rfl)
      rotate_left
      ·simp only [Act.put,List.setIfInBounds_toArray,List.set_cons_zero,List.set_cons_succ,i64_w,i32_w];rfl
      refine one_ (i:=5) (N:=some 17) (fb 7 63) rfl rfl (by kernel_rfl) (by decide) (fun K hK => ?_);refine gs _ (#[.int .i64 a5]) Tryd.func51 ?_;(with_reducible refine (laws_markText.calls k1 a5 a3 _ A5.out).mono ?_);rintro e w10 ⟨rfl,hb⟩;refine ⟨_,rfl,?_⟩;refine Ya1 (below_step (be HB.out) hb) ?_;clear HB;intro HB;(try clear hb);(try clear hb2);(try clear hk);(try clear hi);refine hK.out _ _ ((pw_cell_below HB.out hw457_0)) (fun hHeld => ?_);clear hK K;refine nm 17 ?_;refine pure_ (i:=6) (N:=some 18) (v:=?_) (a':=?_) (fb 7 127) rfl rfl (by kernel_rfl) (fun _ _ _ h=>h) (Or.inl ⟨by rfl,?_⟩) ?_ ?_;rotate_left
      ·intro w';go_simp;(with_reducible rfl)
      rotate_left
      ·simp only [Act.put,List.setIfInBounds_toArray,List.set_cons_zero,List.set_cons_succ,i64_w,i32_w];rfl
      refine done_ (by kernel_rfl) ?_
      try go_wp2
      go_ret
      exact ⟨Ye2,be HB.out⟩
    ·rw [if_neg c4] at H
     exact absurd H (by simp)
   ·rw [if_neg c3] at H
    have aa:decide (a2<(l0.length:Int))=false:=decide_eq_false c3;clear c3;obtain rfl:=Option.some.inj H
    go_wp2
    go_ret
    exact ⟨Ye2,be HB.out⟩

end Go.Proofs.YthfpoacindblgaaDoor.P


namespace Go.Proofs.YthfpoacindblgaaDoor.P
open Go.RowKit Go.Proofs.YthfpoacindblgaaDoorW.PrintWords Go.Proofs.YthfpoacindblgaaDoorW.PrintLast Go.Proofs.YthfpoacindblgaaDoorW.PrintMore
attribute [local go_sem] max2_int min2_int max_two min_two max_three min_three max_four min_four
set_option linter.unusedVariables false
set_option linter.unusedSimpArgs false

def laws_heldProof.f (k:Nat) (a4:List ByteArray) (a0_1:Bool) (a0_2:ByteArray) (a1:Int):Option (Int):=(laws_heldStringS.f k a4 a1).bind fun a5=>(if a5<0 then (some (-1)) else (some a5))
theorem laws_heldProof.mono:∀ a0 a1 a2 a3 k,LeO (laws_heldProof.f k a0 a1 a2 a3) (laws_heldProof.f (k+1) a0 a1 a2 a3):=by
 intro a0 a1 a2 a3 k
 unfold laws_heldProof.f
 exact mo1 @laws_heldStringS.mono
set_option maxHeartbeats 8000000 in
set_option maxRecDepth 100000 in
theorem laws_heldProof.calls (k:Nat) (a7:Option Addr) (a8:Nat) (a4:List ByteArray) (a0_1:Bool) (a0_2:ByteArray) (a1:Int) (r:Int) (w:World) (a9:Kd.C Kd.string w a7 a4.length a4) (aa:a4.length≤a8) (h:laws_heldProof.f k a4 a0_1 a0_2 a1=some r) :
  Calls Tryd.prog 12 #[.agg #[.slice a7 a4.length a8,.bool a0_1,.string a0_2],.int .i64 a1] w fun e w'=>e = .returned (.int .i64 r)∧Below w.heap.size w w':=by
 have hu28:=Tryd.underlying28;have ab:=Aside0.mk a9;have ac:=Aside0.mk aa;clear a9 aa;have HB:=Aside0.mk (Below.refl w.heap.size w);have H:((laws_heldStringS.f k a4 a1).bind fun a5=>(if a5<0 then (some (-1)) else (some a5)))=some r:=h;clear h;replace H:=Option.bind_eq_some_iff.mp H;obtain ⟨a5,A30,H⟩:=H;(try dsimp only at H);have A3:=Aside0.mk A30;clear A30
 by_cases c4:a5<0
 ·rw [if_pos c4] at H
  have ad:decide (a5<0)=true:=decide_eq_true c4;clear c4;obtain rfl:=Option.some.inj H
  go_enter Tryd.func12,Tryd.ntmps12
  go_wp2_with (first|((with_reducible refine gd 2 rfl ?_);refine bx 2 28 (#[.slice a7 a4.length a8,.bool a0_1,.string a0_2]) ?_;intro ae hg w5 hbox hb;refine Ya4 (below_step (be HB.out) hb) (hbox) (bs hg (be HB.out)) (bs hg (be HB.out)) ?_;clear HB;intro HB a6 af ag;clear hb hbox hg;have ⟨ah,ai,aj,ak,al,am⟩:=Yc3 a6.out)|((with_reducible refine gc 30 rfl ?_);refine gl (some 8) _ (#[.slice a7 a4.length a8,.int .i64 a1]) Tryd.func30 ?_;(with_reducible refine (laws_heldStringS.calls k _ _ a4 a1 a5 _ ?side1 ?side2 A3.out).mono ?_);(case side1=>exact cb (Kd.C_below ab.out HB.out));(case side2=>exact ac.out);rintro e w7 ⟨rfl,hb⟩;refine ⟨_,rfl,?_⟩;refine Ya2 (bb a6 hb) (below_step (bf HB.out) hb) ?_;clear a6 HB;intro a6 HB;(try clear hb);(try clear hb2);(try clear hk);(try clear hi)))
  go_ret
  exact ⟨Ye2,(bf HB.out)⟩
 ·rw [if_neg c4] at H
  have ad:decide (a5<0)=false:=decide_eq_false c4;clear c4;obtain rfl:=Option.some.inj H
  go_enter Tryd.func12,Tryd.ntmps12
  go_wp2_with (first|((with_reducible refine gd 2 rfl ?_);refine bx 2 28 (#[.slice a7 a4.length a8,.bool a0_1,.string a0_2]) ?_;intro ae hg w8 hbox hb;refine Ya4 (below_step (be HB.out) hb) (hbox) (bs hg (be HB.out)) (bs hg (be HB.out)) ?_;clear HB;intro HB a6 af ag;clear hb hbox hg;have ⟨an,ao,ap,aq,ar,au⟩:=Yc3 a6.out)|((with_reducible refine gc 30 rfl ?_);refine gl (some 8) _ (#[.slice a7 a4.length a8,.int .i64 a1]) Tryd.func30 ?_;(with_reducible refine (laws_heldStringS.calls k _ _ a4 a1 a5 _ ?side1 ?side2 A3.out).mono ?_);(case side1=>exact cb (Kd.C_below ab.out HB.out));(case side2=>exact ac.out);rintro e w10 ⟨rfl,hb⟩;refine ⟨_,rfl,?_⟩;refine Ya2 (bb a6 hb) (below_step (bf HB.out) hb) ?_;clear a6 HB;intro a6 HB;(try clear hb);(try clear hb2);(try clear hk);(try clear hi)))
  go_ret
  exact ⟨Ye2,(bf HB.out)⟩

end Go.Proofs.YthfpoacindblgaaDoor.P


namespace Go.Proofs.YthfpoacindblgaaDoor.P
open Go.RowKit Go.Proofs.YthfpoacindblgaaDoorW.PrintWords Go.Proofs.YthfpoacindblgaaDoorW.PrintLast Go.Proofs.YthfpoacindblgaaDoorW.PrintMore
attribute [local go_sem] max2_int min2_int max_two min_two max_three min_three max_four min_four
set_option linter.unusedVariables false
set_option linter.unusedSimpArgs false

def laws_markStringS.l0:Nat→List ByteArray→Int→Int→Option (Int×List ByteArray)
 | 0,_,_,_=>none
 | k+1,x0,x1,x5=>if x5<(x0.length:Int) then ((laws_markText.f k x1).bind fun a5=>(if 0≤x5 then (laws_markStringS.l0 k (x0.set (x5:Int).toNat a5) (wrap64 (x1+1)) (wrap64 (x5+1))) else (none))) else (some (x1,x0))
def laws_markStringS.f (k:Nat) (l0:List ByteArray) (a1:Int):Option (Int×List ByteArray):=laws_markStringS.l0 k l0 a1 0
theorem laws_markStringS.mono_l:∀ k,(∀ y0 y1 y2,LeO (laws_markStringS.l0 k y0 y1 y2) (laws_markStringS.l0 (k+1) y0 y1 y2))
 | 0=>fun _ _ _ r h=>by simp [laws_markStringS.l0] at h
 | k + 1 => by
  have ih0:=laws_markStringS.mono_l k
  ·intro y0 y1 y2
   unfold laws_markStringS.l0
   exact mo2 ih0 @laws_markText.mono
theorem laws_markStringS.mono:∀ a0 a1 k,LeO (laws_markStringS.f k a0 a1) (laws_markStringS.f (k+1) a0 a1):=by
 intro a0 a1 k;have ih0:=laws_markStringS.mono_l k
 unfold laws_markStringS.f
 exact mo2 ih0 @laws_markText.mono
set_option maxHeartbeats 8000000 in
set_option maxRecDepth 100000 in
theorem laws_markStringS.calls (k:Nat) (P0_:Nat→Prop) (u9000_:Value) (l0:List ByteArray) (a1:Int) (r1:Int) (r2:List ByteArray) (w0 w:World) (hB:Below w0.heap.size w0 w) (ho0:Kd.R Kd.string 9 w w0.heap.size P0_ u9000_ l0) (h:laws_markStringS.f k l0 a1=some (r1,r2)) :
  Calls Tryd.prog 29 #[u9000_,.int .i64 a1] w fun e w'=>e = .returned (.int .i64 r1)∧Kd.R Kd.string 9 w' w0.heap.size (fun k_=>(P0_ k_∨w.heap.size≤k_)) u9000_ r2∧Below w0.heap.size w0 w'∧Kept w w' (fun k_=>P0_ k_):=by
 have HO0:=Aside0.mk (show Kd.R Kd.string 9 w w0.heap.size (fun k_=>(P0_ k_∨w.heap.size≤k_)) u9000_ l0 from Kd.R_mono ho0 (fun k_ hk=>(.inl hk)));have HK:=Aside0.mk (Kept.refl w (fun k_=>P0_ k_));have HW0:=Aside0.mk hB.size;have HB:=Aside0.mk hB;clear hB;have H:(laws_markStringS.l0 k l0 a1 0)=some (r1,r2):=h;clear h;have H':=Aside0.mk H;clear H
 go_enter Tryd.func29,Tryd.ntmps29
 go_wp2
 go_loopg [1,5] k (fun kq v1 v5 w' => ∃ (a4:List ByteArray) (a6:Int) (a2:Int),v1 = .int .i64 a6∧v5 = .int .i64 a2∧Aside0 (laws_markStringS.l0 kq a4 a6 a2=some (r1,r2))∧Aside0 (kq≤k)∧Aside0 (Kd.R Kd.string 9 w' w0.heap.size (fun k_=>(P0_ k_∨w.heap.size≤k_)) u9000_ a4)∧Aside0 (Kept w w' (fun k_=>P0_ k_))∧Aside0 (Below w0.heap.size w0 w'))
 case atStart=>exact ⟨(l0),(a1),(0),Ye1,Ye1,H',⟨Nat.le_refl _⟩,⟨kr HO0.out⟩,⟨by repeat (first|(with_reducible first|exact HK.out|apply Kept.alloc|apply Kept.drewN|apply Kept.drew)|exact HK.out)⟩,⟨be HB.out⟩⟩
 case round =>
  clear H';(try clear c2);(try clear p2);obtain ⟨a4,a6,a2,rfl,rfl,HA,HK1,a3,HK,HB⟩:=hrel
  cases gk with
  | zero=>exact absurd HA.out (by simp [laws_markStringS.l0])
  | succ k1 =>
   have H:=HA.out;clear HA;simp only [laws_markStringS.l0] at H
   by_cases c3:a2<(a4.length:Int)
   ·rw [if_pos c3] at H
    have ac:decide (a2<(a4.length:Int))=true:=decide_eq_true c3;clear c3;replace H:=Option.bind_eq_some_iff.mp H;obtain ⟨a5,A40,H⟩:=H;(try dsimp only at H);have A4:=Aside0.mk A40;clear A40
    by_cases c5:0≤a2
    ·rw [if_pos c5] at H
     have c5b0:decide (0≤a2)=true:=decide_eq_true c5;clear c5
     obtain ⟨ab,a8⟩:∃ y_:List ByteArray,y_=(a4.set (a2:Int).toNat a5):=⟨_,rfl⟩
     (first|replace H:=bl_ a8 H|rw [←a8] at H);(try dsimp only at H);have ad:=Aside0.mk a8;clear a8;have H':=Aside0.mk H;clear H;obtain ⟨Ao7,co7,eo7⟩:=Kd.R_slice a3.out;subst eo7
     go_wp2_with (first|((with_reducible refine gc 51 rfl ?_);refine gl (some 15) _ (#[.int .i64 a6]) Tryd.func51 ?_;(with_reducible refine (laws_markText.calls k1 a6 a5 _ A4.out).mono ?_);rintro e w8 ⟨rfl,hb⟩;refine ⟨_,rfl,?_⟩;refine Ya3 (Kd.R_below (kr a3.out) hb) (Kept.below (S:=(fun k_=>P0_ k_)) (by repeat (first|(with_reducible first|exact HK.out|apply Kept.alloc|apply Kept.drewN|apply Kept.drew)|exact HK.out)) hb) (below_step (be HB.out) hb) ?_;clear a3 HK HB;intro a3 HK HB;(try clear hb);(try clear hb2);(try clear hk);(try clear hi);have p6:0≤(a2:Int):=oda;have q6:(a2:Int)<((a4.length:Int):Int):=oda;obtain ⟨a7,co6,eo6,gb6,gl6,cl6,HG6⟩:=Kd.R_form a3.out (by omega);(first|cases eo6|(injection eo6 with ea_ en_ ec_;(first|subst ea_|(injection ea_ with ea_;subst ea_));subst ec_;clear en_));have GB6:=Aside0.mk gb6;have GG6:=Aside0.mk HG6;clear gb6 gl6 HG6;have HMgo6:=Aside0.mk (show (P0_ a7∨w.heap.size≤a7) from (a3.out.1 _ rfl));obtain ⟨hx6_0,hf6_0⟩:=Kd.R_celln (⟨#[]⟩:ByteArray) a3.out (a2:Int) p6 q6;replace p6:=eq_true p6;replace q6:=eq_true q6;obtain ⟨hy9_,hz9_⟩:=Kd.R_celln (⟨#[]⟩:ByteArray) a3.out (a2:Int) (oda) (oda);have a9:=Kd.R_putg a3.out (a2:Int) a5)|((with_reducible refine gate_store (t:=9) (p:=16) rfl ?_);refine store_event (t:=9) (p:=16) (v:=?vo_w10) (w1:=(w8.setCell ⟨a7,(a2:Int).toNat,none⟩ (.string a5))) ?hg ?ho ?hn ?hr ?_;(case ho=>rfl);(case hg=>rfl);(case hn=>rfl);(case hr=>first|(go_simp;done)|(go_simp;rfl));intro aa hw;have hg:w8.grownBy aa (some a7):=(by rw [hw];exact a9.2);have hp_:Kd.R Kd.string 9 aa w0.heap.size (fun k_=>(P0_ k_∨w.heap.size≤k_)) (.slice (some ⟨a7,0,none⟩) a4.length co7) ab:=(by rw [hw,ad.out];exact a9.1);clear a9;refine Ya3 (hp_) ((by rw [hw];exact below_set (HB.out) GB6.out:Below w0.heap.size w0 aa)) (Kept.of_grown (S:=(fun k_=>P0_ k_)) hg (by repeat (first|(with_reducible first|exact HK.out|apply Kept.alloc|apply Kept.drewN|apply Kept.drew)|exact HK.out)) (fun k_ e_=>(a3.out.1 k_ e_))) ?_;clear a3 HB HK;intro a3 HB HK;clear hg hw hp_))
     go_roundg k1
     case measure=>have:=HK1.out;omega
     case rel=>exact ⟨(ab),(wrap64 (a6+1)),(wrap64 (a2+1)),Ye1,Ye1,H',⟨by have:=HK1.out;omega⟩,⟨kr a3.out⟩,⟨by repeat (first|(with_reducible first|exact HK.out|apply Kept.alloc|apply Kept.drewN|apply Kept.drew)|exact HK.out)⟩,⟨be HB.out⟩⟩
    ·rw [if_neg c5] at H
     exact absurd H (by simp)
   ·rw [if_neg c3] at H
    have ac:decide (a2<(a4.length:Int))=false:=decide_eq_false c3;clear c3;simp only [Option.some.injEq,Prod.mk.injEq] at H;obtain ⟨rfl,rfl⟩:=H;obtain ⟨Ao11,co11,ae⟩:=Kd.R_slice a3.out;subst ae
    go_wp2
    go_ret
    exact ⟨Ye2,kr a3.out,be HB.out,by repeat (first|(with_reducible first|exact HK.out|apply Kept.alloc|apply Kept.drewN|apply Kept.drew)|exact HK.out)⟩

end Go.Proofs.YthfpoacindblgaaDoor.P


namespace Go.Proofs.YthfpoacindblgaaDoor.P
open Go.RowKit Go.Proofs.YthfpoacindblgaaDoorW.PrintWords Go.Proofs.YthfpoacindblgaaDoorW.PrintLast Go.Proofs.YthfpoacindblgaaDoorW.PrintMore
attribute [local go_sem] max2_int min2_int max_two min_two max_three min_three max_four min_four
set_option linter.unusedVariables false
set_option linter.unusedSimpArgs false

def laws_markProof.f (k:Nat) (a4:List ByteArray) (a0_1:Bool) (a0_2:ByteArray) (a1:Int):Option (Int×List ByteArray):=(laws_markStringS.f k a4 a1).bind fun bt455=>(some (bt455.1,bt455.2))
theorem laws_markProof.mono:∀ a0 a1 a2 a3 k,LeO (laws_markProof.f k a0 a1 a2 a3) (laws_markProof.f (k+1) a0 a1 a2 a3):=by
 intro a0 a1 a2 a3 k
 unfold laws_markProof.f
 exact mo1 @laws_markStringS.mono
set_option maxHeartbeats 8000000 in
set_option maxRecDepth 100000 in
theorem laws_markProof.calls (k:Nat) (P0_0_:Nat→Prop) (u9000_:Value) (a4:List ByteArray) (a0_1:Bool) (a0_2:ByteArray) (a1:Int) (r1:Int) (r2:List ByteArray) (w0 w:World) (hB:Below w0.heap.size w0 w) (ho0_0:Kd.R Kd.string 9 w w0.heap.size P0_0_ u9000_ a4) (h:laws_markProof.f k a4 a0_1 a0_2 a1=some (r1,r2)) :
  Calls Tryd.prog 11 #[.agg #[u9000_,.bool a0_1,.string a0_2],.int .i64 a1] w fun e w'=>e = .returned (.int .i64 r1)∧Kd.R Kd.string 9 w' w0.heap.size (fun k_=>(P0_0_ k_∨w.heap.size≤k_)) u9000_ r2∧Below w0.heap.size w0 w'∧Kept w w' (fun k_=>P0_0_ k_):=by
 have hu28:=Tryd.underlying28;have a5:=Aside0.mk (show Kd.R Kd.string 9 w w0.heap.size (fun k_=>(P0_0_ k_∨w.heap.size≤k_)) u9000_ a4 from Kd.R_mono ho0_0 (fun k_ hk=>(.inl hk)));have HK:=Aside0.mk (Kept.refl w (fun k_=>P0_0_ k_));have HW0:=Aside0.mk hB.size;have HB:=Aside0.mk hB;clear hB;have H:((laws_markStringS.f k a4 a1).bind fun bt455=>(some (bt455.1,bt455.2)))=some (r1,r2):=h;clear h;replace H:=Option.bind_eq_some_iff.mp H;obtain ⟨⟨a9,aa⟩,A30,H⟩:=H;replace H:(some (a9,aa))=some (r1,r2):=H;have A3:=Aside0.mk A30;clear A30;simp only [Option.some.injEq,Prod.mk.injEq] at H;obtain ⟨rfl,rfl⟩:=H;obtain ⟨a7,a8,eo4⟩:=Kd.R_slice a5.out;subst eo4
 go_enter Tryd.func11,Tryd.ntmps11
 go_wp2_with (first|((with_reducible refine gd 2 rfl ?_);refine bx 2 28 (#[.slice a7 a4.length a8,.bool a0_1,.string a0_2]) ?_;intro ab hg w5 hbox hb;refine Ya6 (Kd.R_below (kr a5.out) hb) (Kept.below (S:=(fun k_=>P0_0_ k_)) (by repeat (first|(with_reducible first|exact HK.out|apply Kept.alloc|apply Kept.drewN|apply Kept.drew)|exact HK.out)) hb) (below_step (be HB.out) hb) (hbox) ((by rw [hg];exact (by first|exact HK.out.1|exact (show Kept w _ (fun k_=>P0_0_ k_) from by repeat (first|(with_reducible first|exact HK.out|apply Kept.alloc|apply Kept.drewN|apply Kept.drew)|exact HK.out)).1):w.heap.size≤ab)) ((by rw [hg];exact (below_size (be HB.out)):w0.heap.size≤ab)) ?_;clear a5 HK HB;intro a5 HK HB a6 ac GE454;clear hb hbox hg;have ⟨ad,ae,af,ag,ah,ai⟩:=Yc3 a6.out)|((with_reducible refine gc 29 rfl ?_);refine gl (some 8) _ (#[.slice a7 a4.length a8,.int .i64 a1]) Tryd.func29 ?_;(with_reducible refine (laws_markStringS.calls k (fun k_=>some k_=(.slice a7 a4.length a8:Value).ownBlock) (.slice a7 a4.length a8) a4 a1 a9 aa w0 _ ?side1 ?side2 A3.out).mono ?_);(case side1=>exact bf HB.out);(case side2=>exact Kd.R_tight rfl a5.out);rintro e w7 ⟨rfl,hy0,hb,hkp⟩;refine ⟨_,rfl,?_⟩;refine Ya4 (Kd.R_reok rfl hy0 (fun k_ e_=>a5.out.1 k_ e_)) (blk_kept (bk a6.out) hkp (fun hs_=>(fun e_=>(Kd.R_ne a5.out a6.out (by decide)) e_) hs_)) (Kept.then_ (S:=(fun k_=>P0_0_ k_)) (by repeat (first|(with_reducible first|exact HK.out|apply Kept.alloc|apply Kept.drewN|apply Kept.drew|refine Kept.setCell ?_ (.inr ac.out) _)|exact HK.out)) hkp (fun k_ hs_=>(fun e_=>(a5.out.1 k_ e_.symm)) hs_)) (hb) ?_;clear a5 a6 HK HB;intro a5 a6 HK HB;(try clear hb);(try clear hkp);(try clear hy0)))
 go_ret
 exact ⟨Ye2,kr a5.out,(bf HB.out),by repeat (first|(with_reducible first|exact HK.out|apply Kept.alloc|apply Kept.drewN|apply Kept.drew|refine Kept.setCell ?_ (.inr ac.out) _)|exact HK.out)⟩

end Go.Proofs.YthfpoacindblgaaDoor.P


namespace Go.Proofs.YthfpoacindblgaaDoor.P
open Go.RowKit Go.Proofs.YthfpoacindblgaaDoorW.PrintWords Go.Proofs.YthfpoacindblgaaDoorW.PrintLast Go.Proofs.YthfpoacindblgaaDoorW.PrintMore
attribute [local go_sem] max2_int min2_int max_two min_two max_three min_three max_four min_four
set_option linter.unusedVariables false
set_option linter.unusedSimpArgs false

def laws_markEntryS.l0:Nat→List (S55)→Int→Int→Option (Int×(List (S55)))
 | 0,_,_,_=>none
 | k+1,x0,x1,x5=>if x5<(x0.length:Int) then ((laws_markText.f k x1).bind fun ac=>(if 0≤x5 then ((some (x0.set (x5:Int).toNat (⟨ac,(rd_T55 x0 x5).f1,(rd_T55 x0 x5).f2⟩:S55):List (S55))).bind fun a6=>((laws_markText.f k (wrap64 (x1+1))).bind fun ad=>((some (a6.set (x5:Int).toNat (⟨(rd_T55 a6 x5).f0,ad,(rd_T55 a6 x5).f2⟩:S55):List (S55))).bind fun a7=>(laws_markEntryS.l0 k (a7.set (x5:Int).toNat (⟨(rd_T55 a7 x5).f0,(rd_T55 a7 x5).f1,((Int.tmod (wrap64 ((wrap64 (x1+1))+1)) 3)==0)⟩:S55)) (wrap64 ((wrap64 ((wrap64 (x1+1))+1))+1)) (wrap64 (x5+1)))))) else (none))) else (some (x1,x0))
def laws_markEntryS.f (k:Nat) (l0:List (S55)) (a1:Int):Option (Int×(List (S55))):=laws_markEntryS.l0 k l0 a1 0
theorem laws_markEntryS.mono_l:∀ k,(∀ y0 y1 y2,LeO (laws_markEntryS.l0 k y0 y1 y2) (laws_markEntryS.l0 (k+1) y0 y1 y2))
 | 0=>fun _ _ _ r h=>by simp [laws_markEntryS.l0] at h
 | k + 1 => by
  have ih0:=laws_markEntryS.mono_l k
  ·intro y0 y1 y2
   unfold laws_markEntryS.l0
   exact mo2 ih0 @laws_markText.mono
theorem laws_markEntryS.mono:∀ a0 a1 k,LeO (laws_markEntryS.f k a0 a1) (laws_markEntryS.f (k+1) a0 a1):=by
 intro a0 a1 k;have ih0:=laws_markEntryS.mono_l k
 unfold laws_markEntryS.f
 exact mo2 ih0 @laws_markText.mono
set_option maxHeartbeats 8000000 in
set_option maxRecDepth 100000 in
theorem laws_markEntryS.calls (k:Nat) (P0_:Nat→Prop) (u9000_:Value) (l0:List (S55)) (a1:Int) (r1:Int) (r2:List (S55)) (w0 w:World) (hB:Below w0.heap.size w0 w) (ho0:Kd.R k55 55 w w0.heap.size P0_ u9000_ l0) (h:laws_markEntryS.f k l0 a1=some (r1,r2)) :
  Calls Tryd.prog 28 #[u9000_,.int .i64 a1] w fun e w'=>e = .returned (.int .i64 r1)∧Kd.R k55 55 w' w0.heap.size (fun k_=>(P0_ k_∨w.heap.size≤k_)) u9000_ r2∧Below w0.heap.size w0 w'∧Kept w w' (fun k_=>P0_ k_):=by
 have HO0:=Aside0.mk (show Kd.R k55 55 w w0.heap.size (fun k_=>(P0_ k_∨w.heap.size≤k_)) u9000_ l0 from Kd.R_mono ho0 (fun k_ hk=>(.inl hk)));have HK:=Aside0.mk (Kept.refl w (fun k_=>P0_ k_));have HW0:=Aside0.mk hB.size;have HB:=Aside0.mk hB;clear hB;have H:(laws_markEntryS.l0 k l0 a1 0)=some (r1,r2):=h;clear h;have H':=Aside0.mk H;clear H
 go_enter Tryd.func28,Tryd.ntmps28
 go_wp2
 go_loopg [1,5] k (fun kq v1 v5 w' => ∃ (a4:List (S55)) (a8:Int) (a2:Int),v1 = .int .i64 a8∧v5 = .int .i64 a2∧Aside0 (laws_markEntryS.l0 kq a4 a8 a2=some (r1,r2))∧Aside0 (kq≤k)∧Aside0 (Kd.R k55 55 w' w0.heap.size (fun k_=>(P0_ k_∨w.heap.size≤k_)) u9000_ a4)∧Aside0 (Kept w w' (fun k_=>P0_ k_))∧Aside0 (Below w0.heap.size w0 w'))
 case atStart=>exact ⟨(l0),(a1),(0),Ye1,Ye1,H',⟨Nat.le_refl _⟩,⟨kr HO0.out⟩,⟨by repeat (first|(with_reducible first|exact HK.out|apply Kept.alloc|apply Kept.drewN|apply Kept.drew)|exact HK.out)⟩,⟨be HB.out⟩⟩
 case round =>
  clear H';(try clear c2);(try clear p2);obtain ⟨a4,a8,a2,rfl,rfl,HA,HK1,a3,HK,HB⟩:=hrel
  cases gk with
  | zero=>exact absurd HA.out (by simp [laws_markEntryS.l0])
  | succ k1 =>
   have H:=HA.out;clear HA;simp only [laws_markEntryS.l0] at H
   by_cases c3:a2<(a4.length:Int)
   ·rw [if_pos c3] at H
    have au:decide (a2<(a4.length:Int))=true:=decide_eq_true c3;clear c3;replace H:=Option.bind_eq_some_iff.mp H;obtain ⟨ac,A40,H⟩:=H;(try dsimp only at H);have A4:=Aside0.mk A40;clear A40
    by_cases c5:0≤a2
    ·rw [if_pos c5] at H
     have c5b0:decide (0≤a2)=true:=decide_eq_true c5;clear c5
     obtain ⟨a6,af⟩:∃ y_:List (S55),y_=(a4.set (a2:Int).toNat (⟨ac,(rd_T55 a4 a2).f1,(rd_T55 a4 a2).f2⟩:S55)):=⟨_,rfl⟩
     (first|replace H:=bl_ af H|rw [←af] at H);(try dsimp only at H);have av:=Aside0.mk af;clear af;replace H:=Option.bind_eq_some_iff.mp H;obtain ⟨ad,A70,H⟩:=H;(try dsimp only at H);have A7:=Aside0.mk A70;clear A70
     obtain ⟨a7,ag⟩:∃ y_:List (S55),y_=(a6.set (a2:Int).toNat (⟨(rd_T55 a6 a2).f0,ad,(rd_T55 a6 a2).f2⟩:S55)):=⟨_,rfl⟩
     (first|replace H:=bl_ ag H|rw [←ag] at H);(try dsimp only at H);have aw:=Aside0.mk ag;clear ag
     obtain ⟨ao,ah⟩:∃ y_:List (S55),y_=(a7.set (a2:Int).toNat (⟨(rd_T55 a7 a2).f0,(rd_T55 a7 a2).f1,((Int.tmod (wrap64 ((wrap64 (a8+1))+1)) 3)==0)⟩:S55)):=⟨_,rfl⟩
     (first|replace H:=bl_ ah H|rw [←ah] at H);(try dsimp only at H);have ax:=Aside0.mk ah;clear ah;have H':=Aside0.mk H;clear H;obtain ⟨Ao10,ae,ay⟩:=Kd.R_slice a3.out;subst ay
     go_wp2_with (first|((with_reducible refine gc 51 rfl ?_);refine gl (some 15) _ (#[.int .i64 a8]) Tryd.func51 ?_;(with_reducible refine (laws_markText.calls k1 a8 ac _ A4.out).mono ?_);rintro e aa ⟨rfl,hb⟩;refine ⟨_,rfl,?_⟩;refine Ya3 (Kd.R_below (kr a3.out) hb) (Kept.below (S:=(fun k_=>P0_ k_)) (by repeat (first|(with_reducible first|exact HK.out|apply Kept.alloc|apply Kept.drewN|apply Kept.drew)|exact HK.out)) hb) (below_step (be HB.out) hb) ?_;clear a3 HK HB;intro a3 HK HB;(try clear hb);(try clear hb2);(try clear hk);(try clear hi);have p6:0≤(a2:Int):=oda;have q6:(a2:Int)<((a4.length:Int):Int):=oda;obtain ⟨a5,co6,eo6,gb6,gl6,cl6,HG6⟩:=Kd.R_form a3.out (by omega);(first|cases eo6|(injection eo6 with ea_ en_ ec_;(first|subst ea_|(injection ea_ with ea_;subst ea_));subst ec_;clear en_));have ai:=Aside0.mk gb6;have GG6:=Aside0.mk HG6;clear gb6 gl6 HG6;have HMgo6:=Aside0.mk (show (P0_ a5∨w.heap.size≤a5) from (a3.out.1 _ rfl));obtain ⟨ce6,hcl6,hM6,hcc6,hfr6⟩:=Kd.R_elem a3.out z55 (a2:Int) p6 q6;obtain rfl:=k55_openM hM6;have hx6_0:aa.cell? ⟨a5,(a2:Int).toNat*3,none⟩=some (.string ((rd_T55 a4 a2).f0)):=hcc6 0 _ rfl;have hx6_1:aa.cell? ⟨a5,(a2:Int).toNat*3+1,none⟩=some (.string ((rd_T55 a4 a2).f1)):=hcc6 1 _ rfl;have hx6_2:aa.cell? ⟨a5,(a2:Int).toNat*3+2,none⟩=some (.bool ((rd_T55 a4 a2).f2)):=hcc6 2 _ rfl;have hf6_0:aa.frozen? ⟨a5,(a2:Int).toNat*3,none⟩=false:=hfr6 0;have hf6_1:aa.frozen? ⟨a5,(a2:Int).toNat*3+1,none⟩=false:=hfr6 1;have hf6_2:aa.frozen? ⟨a5,(a2:Int).toNat*3+2,none⟩=false:=hfr6 2;(try clear hM6);clear hcl6 hcc6 hfr6;replace p6:=eq_true p6;replace q6:=eq_true q6;have ap:=Aside0.mk (show Kd.R k55 55 aa w0.heap.size (fun k_=>(P0_ k_∨w.heap.size≤k_)) (.slice (some ⟨a5,0,none⟩) a4.length ae) a4 from (kr a3.out));obtain ⟨ce12,hcl12,hM12,hcc12,hfr12⟩:=Kd.R_elem ap.out z55 (a2:Int) (oda) (by have h_:(a2:Int)<((a4.length:Int):Int):=oda;first|exact h_|(have e_:=(Kd.R_reads' a3.out).1;omega)|simpa using h_);obtain rfl:=k55_openM hM12;have aj:=Kd.R_seg ap.out (a2:Int) (oda) (by have h_:(a2:Int)<((a4.length:Int):Int):=oda;first|exact h_|(have e_:=(Kd.R_reads' a3.out).1;omega)|simpa using h_) (seg:=[.string ac]) (j:=0) hcl12 hcc12 (show 1≤3 from by decide) (x':=(⟨ac,(rd_T55 a4 a2).f1,(rd_T55 a4 a2).f2⟩:S55)) (k55_mkM _ _ _ (⟨ac,(rd_T55 a4 a2).f1,(rd_T55 a4 a2).f2⟩:S55) ) (fun _ hk=>hk);have az:=hcc12 0 _ rfl;(try simp only [show (k55).sz=3 from rfl,Nat.mul_one,Nat.add_zero] at az);have hf12_0:=hfr12 0;(try simp only [show (k55).sz=3 from rfl,Nat.mul_one,Nat.add_zero] at hf12_0);(try clear hM12);clear hcl12 hcc12 hfr12)|((with_reducible refine gate_store (t:=9) (p:=17) rfl ?_);refine store_event (t:=9) (p:=17) (v:=?vo_w13) (w1:=(aa.setCell ⟨a5,(a2:Int).toNat*3,none⟩ (.string ac))) ?hg ?ho ?hn ?hr ?_;(case ho=>rfl);(case hg=>rfl);(case hn=>rfl);(case hr=>first|(go_simp;done)|(go_simp;rfl));intro ak hw;have hg:aa.grownBy ak (some a5):=(by rw [hw];exact aj.2);have hp_:Kd.R k55 55 ak w0.heap.size (fun k_=>(P0_ k_∨w.heap.size≤k_)) (.slice (some ⟨a5,0,none⟩) a4.length ae) a6:=(by rw [hw,av.out];exact aj.1);clear aj;refine Ya3 (hp_) ((by rw [hw];exact below_set (HB.out) ai.out:Below w0.heap.size w0 ak)) (Kept.of_grown (S:=(fun k_=>P0_ k_)) hg (by repeat (first|(with_reducible first|exact HK.out|apply Kept.alloc|apply Kept.drewN|apply Kept.drew)|exact HK.out)) (fun k_ e_=>(a3.out.1 k_ e_))) ?_;clear a3 HB HK;intro a3 HB HK;clear hg hw hp_)|((with_reducible refine gc 51 rfl ?_);refine gl (some 23) _ (#[.int .i64 (wrap64 (a8+1))]) Tryd.func51 ?_;(with_reducible refine (laws_markText.calls k1 (wrap64 (a8+1)) ad _ A7.out).mono ?_);rintro e ab ⟨rfl,hb⟩;refine ⟨_,rfl,?_⟩;refine Ya3 (Kd.R_below (kr a3.out) hb) (Kept.below (S:=(fun k_=>P0_ k_)) (by repeat (first|(with_reducible first|exact HK.out|apply Kept.alloc|apply Kept.drewN|apply Kept.drew)|exact HK.out)) hb) (below_step (be HB.out) hb) ?_;clear a3 HK HB;intro a3 HK HB;(try clear hb);(try clear hb2);(try clear hk);(try clear hi);have p8:0≤(a2:Int):=oda;have q8:(a2:Int)<((a4.length:Int):Int):=oda;obtain ⟨ce8,hcl8,hM8,hcc8,hfr8⟩:=Kd.R_elem a3.out z55 (a2:Int) p8 q8;obtain rfl:=k55_openM hM8;have hx8_0:ab.cell? ⟨a5,(a2:Int).toNat*3,none⟩=some (.string ((rd_T55 a6 a2).f0)):=hcc8 0 _ rfl;have hx8_1:ab.cell? ⟨a5,(a2:Int).toNat*3+1,none⟩=some (.string ((rd_T55 a6 a2).f1)):=hcc8 1 _ rfl;have hx8_2:ab.cell? ⟨a5,(a2:Int).toNat*3+2,none⟩=some (.bool ((rd_T55 a6 a2).f2)):=hcc8 2 _ rfl;have hf8_0:ab.frozen? ⟨a5,(a2:Int).toNat*3,none⟩=false:=hfr8 0;have hf8_1:ab.frozen? ⟨a5,(a2:Int).toNat*3+1,none⟩=false:=hfr8 1;have hf8_2:ab.frozen? ⟨a5,(a2:Int).toNat*3+2,none⟩=false:=hfr8 2;(try clear hM8);clear hcl8 hcc8 hfr8;replace p8:=eq_true p8;replace q8:=eq_true q8;have aq:=Aside0.mk (show Kd.R k55 55 ab w0.heap.size (fun k_=>(P0_ k_∨w.heap.size≤k_)) (.slice (some ⟨a5,0,none⟩) a4.length ae) a6 from (kr a3.out));obtain ⟨ce15,hcl15,hM15,hcc15,hfr15⟩:=Kd.R_elem aq.out z55 (a2:Int) (oda) (by have h_:(a2:Int)<((a4.length:Int):Int):=oda;first|exact h_|(have e_:=(Kd.R_reads' a3.out).1;omega)|simpa using h_);obtain rfl:=k55_openM hM15;have al:=Kd.R_seg aq.out (a2:Int) (oda) (by have h_:(a2:Int)<((a4.length:Int):Int):=oda;first|exact h_|(have e_:=(Kd.R_reads' a3.out).1;omega)|simpa using h_) (seg:=[.string ad]) (j:=1) hcl15 hcc15 (show 2≤3 from by decide) (x':=(⟨(rd_T55 a6 a2).f0,ad,(rd_T55 a6 a2).f2⟩:S55)) (k55_mkM _ _ _ (⟨(rd_T55 a6 a2).f0,ad,(rd_T55 a6 a2).f2⟩:S55) ) (fun _ hk=>hk);have aA:=hcc15 1 _ rfl;(try simp only [show (k55).sz=3 from rfl,Nat.mul_one,Nat.add_zero] at aA);have hf15_1:=hfr15 1;(try simp only [show (k55).sz=3 from rfl,Nat.mul_one,Nat.add_zero] at hf15_1);(try clear hM15);clear hcl15 hcc15 hfr15)|((with_reducible refine gate_store (t:=9) (p:=25) rfl ?_);refine store_event (t:=9) (p:=25) (v:=?vo_w16) (w1:=(ab.setCell ⟨a5,(a2:Int).toNat*3+1,none⟩ (.string ad))) ?hg ?ho ?hn ?hr ?_;(case ho=>rfl);(case hg=>rfl);(case hn=>rfl);(case hr=>first|(go_simp;done)|(go_simp;rfl));intro a9 hw;have hg:ab.grownBy a9 (some a5):=(by rw [hw];exact al.2);have hp_:Kd.R k55 55 a9 w0.heap.size (fun k_=>(P0_ k_∨w.heap.size≤k_)) (.slice (some ⟨a5,0,none⟩) a4.length ae) a7:=(by rw [hw,aw.out];exact al.1);clear al;refine Ya3 (hp_) ((by rw [hw];exact below_set (HB.out) ai.out:Below w0.heap.size w0 a9)) (Kept.of_grown (S:=(fun k_=>P0_ k_)) hg (by repeat (first|(with_reducible first|exact HK.out|apply Kept.alloc|apply Kept.drewN|apply Kept.drew)|exact HK.out)) (fun k_ e_=>(a3.out.1 k_ e_))) ?_;clear a3 HB HK;intro a3 HB HK;clear hg hw hp_;have p9:0≤(a2:Int):=oda;have q9:(a2:Int)<((a4.length:Int):Int):=oda;obtain ⟨ce9,hcl9,hM9,hcc9,hfr9⟩:=Kd.R_elem a3.out z55 (a2:Int) p9 q9;obtain rfl:=k55_openM hM9;have hx9_0:a9.cell? ⟨a5,(a2:Int).toNat*3,none⟩=some (.string ((rd_T55 a7 a2).f0)):=hcc9 0 _ rfl;have hx9_1:a9.cell? ⟨a5,(a2:Int).toNat*3+1,none⟩=some (.string ((rd_T55 a7 a2).f1)):=hcc9 1 _ rfl;have hx9_2:a9.cell? ⟨a5,(a2:Int).toNat*3+2,none⟩=some (.bool ((rd_T55 a7 a2).f2)):=hcc9 2 _ rfl;have hf9_0:a9.frozen? ⟨a5,(a2:Int).toNat*3,none⟩=false:=hfr9 0;have hf9_1:a9.frozen? ⟨a5,(a2:Int).toNat*3+1,none⟩=false:=hfr9 1;have hf9_2:a9.frozen? ⟨a5,(a2:Int).toNat*3+2,none⟩=false:=hfr9 2;(try clear hM9);clear hcl9 hcc9 hfr9;replace p9:=eq_true p9;replace q9:=eq_true q9;have ar:=Aside0.mk (show Kd.R k55 55 a9 w0.heap.size (fun k_=>(P0_ k_∨w.heap.size≤k_)) (.slice (some ⟨a5,0,none⟩) a4.length ae) a7 from (kr a3.out));obtain ⟨ce17,hcl17,hM17,hcc17,hfr17⟩:=Kd.R_elem ar.out z55 (a2:Int) (oda) (by have h_:(a2:Int)<((a4.length:Int):Int):=oda;first|exact h_|(have e_:=(Kd.R_reads' a3.out).1;omega)|simpa using h_);obtain rfl:=k55_openM hM17;have am:=Kd.R_seg ar.out (a2:Int) (oda) (by have h_:(a2:Int)<((a4.length:Int):Int):=oda;first|exact h_|(have e_:=(Kd.R_reads' a3.out).1;omega)|simpa using h_) (seg:=[.bool ((Int.tmod (wrap64 ((wrap64 (a8+1))+1)) 3)==0)]) (j:=2) hcl17 hcc17 (show 3≤3 from by decide) (x':=(⟨(rd_T55 a7 a2).f0,(rd_T55 a7 a2).f1,((Int.tmod (wrap64 ((wrap64 (a8+1))+1)) 3)==0)⟩:S55)) (k55_mkM _ _ _ (⟨(rd_T55 a7 a2).f0,(rd_T55 a7 a2).f1,((Int.tmod (wrap64 ((wrap64 (a8+1))+1)) 3)==0)⟩:S55) ) (fun _ hk=>hk);have aB:=hcc17 2 _ rfl;(try simp only [show (k55).sz=3 from rfl,Nat.mul_one,Nat.add_zero] at aB);have hf17_2:=hfr17 2;(try simp only [show (k55).sz=3 from rfl,Nat.mul_one,Nat.add_zero] at hf17_2);(try clear hM17);clear hcl17 hcc17 hfr17)|((with_reducible refine gate_store (t:=4) (p:=34) rfl ?_);refine store_event (t:=4) (p:=34) (v:=?vo_w18) (w1:=(a9.setCell ⟨a5,(a2:Int).toNat*3+2,none⟩ (.bool ((Int.tmod (wrap64 ((wrap64 (a8+1))+1)) 3)==0)))) ?hg ?ho ?hn ?hr ?_;(case ho=>rfl);(case hg=>rfl);(case hn=>rfl);(case hr=>first|(go_simp;done)|(go_simp;rfl));intro an hw;have hg:a9.grownBy an (some a5):=(by rw [hw];exact am.2);have hp_:Kd.R k55 55 an w0.heap.size (fun k_=>(P0_ k_∨w.heap.size≤k_)) (.slice (some ⟨a5,0,none⟩) a4.length ae) ao:=(by rw [hw,ax.out];exact am.1);clear am;refine Ya3 (hp_) ((by rw [hw];exact below_set (HB.out) ai.out:Below w0.heap.size w0 an)) (Kept.of_grown (S:=(fun k_=>P0_ k_)) hg (by repeat (first|(with_reducible first|exact HK.out|apply Kept.alloc|apply Kept.drewN|apply Kept.drew)|exact HK.out)) (fun k_ e_=>(a3.out.1 k_ e_))) ?_;clear a3 HB HK;intro a3 HB HK;clear hg hw hp_))
     go_roundg k1
     case measure=>have:=HK1.out;omega
     case rel=>exact ⟨(ao),(wrap64 ((wrap64 ((wrap64 (a8+1))+1))+1)),(wrap64 (a2+1)),Ye1,Ye1,H',⟨by have:=HK1.out;omega⟩,⟨kr a3.out⟩,⟨by repeat (first|(with_reducible first|exact HK.out|apply Kept.alloc|apply Kept.drewN|apply Kept.drew)|exact HK.out)⟩,⟨be HB.out⟩⟩
    ·rw [if_neg c5] at H
     exact absurd H (by simp)
   ·rw [if_neg c3] at H
    have au:decide (a2<(a4.length:Int))=false:=decide_eq_false c3;clear c3;simp only [Option.some.injEq,Prod.mk.injEq] at H;obtain ⟨rfl,rfl⟩:=H;obtain ⟨Ao19,co19,aC⟩:=Kd.R_slice a3.out;subst aC
    go_wp2
    go_ret
    exact ⟨Ye2,kr a3.out,be HB.out,by repeat (first|(with_reducible first|exact HK.out|apply Kept.alloc|apply Kept.drewN|apply Kept.drew)|exact HK.out)⟩

end Go.Proofs.YthfpoacindblgaaDoor.P


namespace Go.Proofs.YthfpoacindblgaaDoor.P
open Go.RowKit Go.Proofs.YthfpoacindblgaaDoorW.PrintWords Go.Proofs.YthfpoacindblgaaDoorW.PrintLast Go.Proofs.YthfpoacindblgaaDoorW.PrintMore
attribute [local go_sem] max2_int min2_int max_two min_two max_three min_three max_four min_four
set_option linter.unusedVariables false
set_option linter.unusedSimpArgs false

def laws_markTree.f (k:Nat) (a2:List (S55)) (a1:Int):Option (Int×(List (S55))):=(laws_markEntryS.f k a2 a1).bind fun bt450=>(some (bt450.1,bt450.2))
theorem laws_markTree.mono:∀ a0 a1 k,LeO (laws_markTree.f k a0 a1) (laws_markTree.f (k+1) a0 a1):=by
 intro a0 a1 k
 unfold laws_markTree.f
 exact mo1 @laws_markEntryS.mono
set_option maxHeartbeats 8000000 in
set_option maxRecDepth 100000 in
theorem laws_markTree.calls (k:Nat) (P0_0_:Nat→Prop) (u9000_:Value) (a2:List (S55)) (a1:Int) (r1:Int) (r2:List (S55)) (w0 w:World) (hB:Below w0.heap.size w0 w) (ho0_0:Kd.R k55 55 w w0.heap.size P0_0_ u9000_ a2) (h:laws_markTree.f k a2 a1=some (r1,r2)) :
  Calls Tryd.prog 10 #[.agg #[u9000_],.int .i64 a1] w fun e w'=>e = .returned (.int .i64 r1)∧Kd.R k55 55 w' w0.heap.size (fun k_=>(P0_0_ k_∨w.heap.size≤k_)) u9000_ r2∧Below w0.heap.size w0 w'∧Kept w w' (fun k_=>P0_0_ k_):=by
 have hu32:=Tryd.underlying32;have a3:=Aside0.mk (show Kd.R k55 55 w w0.heap.size (fun k_=>(P0_0_ k_∨w.heap.size≤k_)) u9000_ a2 from Kd.R_mono ho0_0 (fun k_ hk=>(.inl hk)));have HK:=Aside0.mk (Kept.refl w (fun k_=>P0_0_ k_));have HW0:=Aside0.mk hB.size;have HB:=Aside0.mk hB;clear hB;have H:((laws_markEntryS.f k a2 a1).bind fun bt450=>(some (bt450.1,bt450.2)))=some (r1,r2):=h;clear h;replace H:=Option.bind_eq_some_iff.mp H;obtain ⟨⟨a7,a8⟩,A30,H⟩:=H;replace H:(some (a7,a8))=some (r1,r2):=H;have A3:=Aside0.mk A30;clear A30;simp only [Option.some.injEq,Prod.mk.injEq] at H;obtain ⟨rfl,rfl⟩:=H;obtain ⟨a5,a6,eo4⟩:=Kd.R_slice a3.out;subst eo4
 go_enter Tryd.func10,Tryd.ntmps10
 go_wp2_with (first|((with_reducible refine gd 2 rfl ?_);refine bx 2 32 (#[.slice a5 a2.length a6]) ?_;intro a9 hg w5 hbox hb;refine Ya6 (Kd.R_below (kr a3.out) hb) (Kept.below (S:=(fun k_=>P0_0_ k_)) (by repeat (first|(with_reducible first|exact HK.out|apply Kept.alloc|apply Kept.drewN|apply Kept.drew)|exact HK.out)) hb) (below_step (be HB.out) hb) (hbox) ((by rw [hg];exact (by first|exact HK.out.1|exact (show Kept w _ (fun k_=>P0_0_ k_) from by repeat (first|(with_reducible first|exact HK.out|apply Kept.alloc|apply Kept.drewN|apply Kept.drew)|exact HK.out)).1):w.heap.size≤a9)) ((by rw [hg];exact (below_size (be HB.out)):w0.heap.size≤a9)) ?_;clear a3 HK HB;intro a3 HK HB a4 aa GE449;clear hb hbox hg;have ⟨ab,ac⟩:=Yc1 a4.out)|((with_reducible refine gc 28 rfl ?_);refine gl (some 8) _ (#[.slice a5 a2.length a6,.int .i64 a1]) Tryd.func28 ?_;(with_reducible refine (laws_markEntryS.calls k (fun k_=>some k_=(.slice a5 a2.length a6:Value).ownBlock) (.slice a5 a2.length a6) a2 a1 a7 a8 w0 _ ?side1 ?side2 A3.out).mono ?_);(case side1=>exact bf HB.out);(case side2=>exact Kd.R_tight rfl a3.out);rintro e w7 ⟨rfl,hy0,hb,hkp⟩;refine ⟨_,rfl,?_⟩;refine Ya4 (Kd.R_reok rfl hy0 (fun k_ e_=>a3.out.1 k_ e_)) (blk_kept (bk a4.out) hkp (fun hs_=>(fun e_=>(Kd.R_ne a3.out a4.out (by decide)) e_) hs_)) (Kept.then_ (S:=(fun k_=>P0_0_ k_)) (by repeat (first|(with_reducible first|exact HK.out|apply Kept.alloc|apply Kept.drewN|apply Kept.drew|refine Kept.setCell ?_ (.inr aa.out) _)|exact HK.out)) hkp (fun k_ hs_=>(fun e_=>(a3.out.1 k_ e_.symm)) hs_)) (hb) ?_;clear a3 a4 HK HB;intro a3 a4 HK HB;(try clear hb);(try clear hkp);(try clear hy0)))
 go_ret
 exact ⟨Ye2,kr a3.out,(bf HB.out),by repeat (first|(with_reducible first|exact HK.out|apply Kept.alloc|apply Kept.drewN|apply Kept.drew|refine Kept.setCell ?_ (.inr aa.out) _)|exact HK.out)⟩

end Go.Proofs.YthfpoacindblgaaDoor.P


namespace Go.Proofs.YthfpoacindblgaaDoor.P
open Go.RowKit Go.Proofs.YthfpoacindblgaaDoorW.PrintWords Go.Proofs.YthfpoacindblgaaDoorW.PrintLast Go.Proofs.YthfpoacindblgaaDoorW.PrintMore
attribute [local go_sem] max2_int min2_int max_two min_two max_three min_three max_four min_four
set_option linter.unusedVariables false
set_option linter.unusedSimpArgs false

def laws_eqStringS.l0:Nat→List ByteArray→List ByteArray→Int→Option (Bool)
 | 0,_,_,_=>none
 | k+1,x0,x1,x5=>if x5<(x0.length:Int) then (if 0≤x5 then (if x5<(x1.length:Int) then (if (rdOf ByteArray.empty x0 x5).toList=(rdOf ByteArray.empty x1 x5).toList then (laws_eqStringS.l0 k x0 x1 (wrap64 (x5+1))) else (some false)) else (none)) else (none)) else (some true)
def laws_eqStringS.f (k:Nat) (l0:List ByteArray) (l1:List ByteArray):Option (Bool):=if (l0.length:Int)=(l1.length:Int) then (laws_eqStringS.l0 k l0 l1 0) else (some false)
theorem laws_eqStringS.mono_l:∀ k,(∀ y0 y1 y2,LeO (laws_eqStringS.l0 k y0 y1 y2) (laws_eqStringS.l0 (k+1) y0 y1 y2))
 | 0=>fun _ _ _ r h=>by simp [laws_eqStringS.l0] at h
 | k + 1 => by
  have ih0:=laws_eqStringS.mono_l k
  ·intro y0 y1 y2
   unfold laws_eqStringS.l0
   exact mo1 ih0
theorem laws_eqStringS.mono:∀ a0 a1 k,LeO (laws_eqStringS.f k a0 a1) (laws_eqStringS.f (k+1) a0 a1):=by
 intro a0 a1 k;have ih0:=laws_eqStringS.mono_l k
 unfold laws_eqStringS.f
 exact mo1 ih0
set_option maxHeartbeats 8000000 in
set_option maxRecDepth 100000 in
theorem laws_eqStringS.calls (k : Nat) (A0 : Option Addr) (c0 : Nat) (l0 : List ByteArray) (A1 : Option Addr) (c1 : Nat) (l1 : List ByteArray) (r : Bool) (w : World) (hr0 : Kd.C Kd.string w A0 l0.length l0) (hc0 : l0.length ≤ c0) (hr1 : Kd.C Kd.string w A1 l1.length l1) (hc1 : l1.length ≤ c1) (h : laws_eqStringS.f k l0 l1 = some r) :
  Calls Tryd.prog 26 #[.slice A0 l0.length c0,.slice A1 l1.length c1] w fun e w'=>e = .returned (.bool r)∧Drawn0 w w':=by
 have HR0:=Aside0.mk hr0;have HC0:=Aside0.mk hc0;clear hr0 hc0;have HR1:=Aside0.mk hr1;have HC1:=Aside0.mk hc1;clear hr1 hc1;have H:(if (l0.length:Int)=(l1.length:Int) then (laws_eqStringS.l0 k l0 l1 0) else (some false))=some r:=h;clear h
 by_cases c3:(l0.length:Int)=(l1.length:Int)
 ·rw [if_pos c3] at H
  have a9:((l0.length:Int)==(l1.length:Int))=true:=beq_iff_eq.mpr c3;have aa:((l0.length:Int) != (l1.length:Int))=false:=bne_eq_false_iff_eq.mpr c3
  have ab:(l0.length==l1.length)=true:=by first|simpa using c3|(simp at c3 ⊢; omega)
  clear c3;have H':=Aside0.mk H;clear H
  go_enter Tryd.func26,Tryd.ntmps26
  go_wp2
  repeat (go_quiet (fail);try go_wp2)
  go_loopg [5] k (fun kq v5 w' => ∃ (a2:Int),v5 = .int .i64 a2∧Aside0 (laws_eqStringS.l0 kq l0 l1 a2=some r)∧Aside0 (kq≤k)∧Drawn0 w w')
  case atStart=>exact ⟨(0),Ye1,H',⟨Nat.le_refl _⟩,dz⟩
  case round =>
   clear H';(try clear c1);(try clear c2);(try clear p2);(try clear c3);(try clear a9);(try clear aa);(try clear ab);obtain ⟨a2,rfl,HA,HK1,⟨m1,rfl⟩⟩:=hrel
   cases gk with
   | zero=>exact absurd HA.out (by simp [laws_eqStringS.l0])
   | succ k1 =>
    have H:=HA.out;clear HA;simp only [laws_eqStringS.l0] at H
    by_cases c4:a2<(l0.length:Int)
    ·rw [if_pos c4] at H
     have ac:decide (a2<(l0.length:Int))=true:=decide_eq_true c4;clear c4
     by_cases c5:0≤a2
     ·rw [if_pos c5] at H
      have c5b0:decide (0≤a2)=true:=decide_eq_true c5;clear c5
      by_cases c6:a2<(l1.length:Int)
      ·rw [if_pos c6] at H
       have c6b0:decide (a2<(l1.length:Int))=true:=decide_eq_true c6;clear c6
       by_cases c7:(rdOf ByteArray.empty l0 a2).toList=(rdOf ByteArray.empty l1 a2).toList
       ·rw [if_pos c7] at H
        have ad:((rdOf ByteArray.empty l0 a2).toList==(rdOf ByteArray.empty l1 a2).toList)=true:=beq_iff_eq.mpr c7;have ae:((rdOf ByteArray.empty l0 a2).toList != (rdOf ByteArray.empty l1 a2).toList)=false:=bne_eq_false_iff_eq.mpr c7;clear c7;have H':=Aside0.mk H;clear H;have a3:0≤(a2:Int):=oda;have a4:a2<(l0.length:Int):=oda;obtain ⟨af,a7,ag⟩:=Kd.at_string HR0.out a2 a3 a4
        cases a7
        replace a3:=eq_true a3;replace a4:=eq_true a4;have a5:0≤(a2:Int):=oda;have a6:a2<(l1.length:Int):=oda;obtain ⟨ah,a8,ai⟩:=Kd.at_string HR1.out a2 a5 a6
        cases a8
        replace a5:=eq_true a5;replace a6:=eq_true a6
        go_wp2
        repeat (go_quiet (fail);try go_wp2)
        go_roundg k1
        case measure=>have:=HK1.out;omega
        case rel=>exact ⟨(wrap64 (a2+1)),Ye1,H',⟨by have:=HK1.out;omega⟩,dz⟩
       ·rw [if_neg c7] at H
        have ad:((rdOf ByteArray.empty l0 a2).toList==(rdOf ByteArray.empty l1 a2).toList)=false:=beq_eq_false_iff_ne.mpr c7;have ae:((rdOf ByteArray.empty l0 a2).toList != (rdOf ByteArray.empty l1 a2).toList)=true:=bne_iff_ne.mpr c7;obtain rfl:=Option.some.inj H;have a3:0≤(a2:Int):=oda;have a4:a2<(l0.length:Int):=oda;obtain ⟨af,a7,ag⟩:=Kd.at_string HR0.out a2 a3 a4
        cases a7
        replace a3:=eq_true a3;replace a4:=eq_true a4;have a5:0≤(a2:Int):=oda;have a6:a2<(l1.length:Int):=oda;obtain ⟨ah,a8,ai⟩:=Kd.at_string HR1.out a2 a5 a6
        cases a8
        replace a5:=eq_true a5;replace a6:=eq_true a6
        go_wp2
        repeat (go_quiet (fail);try go_wp2)
        go_ret
        exact ⟨Ye1,dz⟩
      ·rw [if_neg c6] at H
       exact absurd H (by simp)
     ·rw [if_neg c5] at H
      exact absurd H (by simp)
    ·rw [if_neg c4] at H
     have ac:decide (a2<(l0.length:Int))=false:=decide_eq_false c4;clear c4;obtain rfl:=Option.some.inj H
     go_wp2
     repeat (go_quiet (fail);try go_wp2)
     go_ret
     exact ⟨Ye1,dz⟩
 ·rw [if_neg c3] at H
  have a9:((l0.length:Int)==(l1.length:Int))=false:=beq_eq_false_iff_ne.mpr c3;have aa:((l0.length:Int) != (l1.length:Int))=true:=bne_iff_ne.mpr c3
  have ab:(l0.length==l1.length)=false:=by first|simpa using c3|(simp at c3 ⊢; omega)
  obtain rfl:=Option.some.inj H
  go_enter Tryd.func26,Tryd.ntmps26
  go_wp2
  repeat (go_quiet (fail);try go_wp2)
  go_ret
  exact ⟨Ye1,dz⟩

end Go.Proofs.YthfpoacindblgaaDoor.P


namespace Go.Proofs.YthfpoacindblgaaDoor.P
open Go.RowKit Go.Proofs.YthfpoacindblgaaDoorW.PrintWords Go.Proofs.YthfpoacindblgaaDoorW.PrintLast Go.Proofs.YthfpoacindblgaaDoorW.PrintMore
attribute [local go_sem] max2_int min2_int max_two min_two max_three min_three max_four min_four
set_option linter.unusedVariables false
set_option linter.unusedSimpArgs false

def laws_eqProof.f (k:Nat) (a7:List ByteArray) (a0_1:Bool) (a0_2:ByteArray) (a8:List ByteArray) (a1_1:Bool) (a1_2:ByteArray):Option (Bool):=(laws_eqStringS.f k a7 a8).bind fun ah=>(if ah=true then (if (a0_1 != a1_1)=true then (some false) else (if a0_2.toList=a1_2.toList then (some true) else (some false))) else (some false))
theorem laws_eqProof.mono:∀ a0 a1 a2 a3 a4 a5 k,LeO (laws_eqProof.f k a0 a1 a2 a3 a4 a5) (laws_eqProof.f (k+1) a0 a1 a2 a3 a4 a5):=by
 intro a0 a1 a2 a3 a4 a5 k
 unfold laws_eqProof.f
 exact mo1 @laws_eqStringS.mono
set_option maxHeartbeats 8000000 in
set_option maxRecDepth 100000 in
theorem laws_eqProof.calls (k:Nat) (a9:Option Addr) (aa:Nat) (a7:List ByteArray) (a0_1:Bool) (a0_2:ByteArray) (ab:Option Addr) (ac:Nat) (a8:List ByteArray) (a1_1:Bool) (a1_2:ByteArray) (r:Bool) (w:World) (au:Kd.C Kd.string w a9 a7.length a7) (av:a7.length≤aa) (aw:Kd.C Kd.string w ab a8.length a8) (ax:a8.length≤ac) (h:laws_eqProof.f k a7 a0_1 a0_2 a8 a1_1 a1_2=some r) :
  Calls Tryd.prog 8 #[.agg #[.slice a9 a7.length aa,.bool a0_1,.string a0_2],.agg #[.slice ab a8.length ac,.bool a1_1,.string a1_2]] w fun e w'=>e = .returned (.bool r)∧Below w.heap.size w w':=by
 have hu28:=Tryd.underlying28;have ai:=Aside0.mk au;have aj:=Aside0.mk av;clear au av;have ak:=Aside0.mk aw;have al:=Aside0.mk ax;clear aw ax;have HB:=Aside0.mk (Below.refl w.heap.size w);have H:((laws_eqStringS.f k a7 a8).bind fun ah=>(if ah=true then (if (a0_1 != a1_1)=true then (some false) else (if a0_2.toList=a1_2.toList then (some true) else (some false))) else (some false)))=some r:=h;clear h;replace H:=Option.bind_eq_some_iff.mp H;obtain ⟨ah,A30,H⟩:=H;(try dsimp only at H);have A3:=Aside0.mk A30;clear A30
 by_cases c4:ah=true
 ·subst c4
  rw [if_pos rfl] at H
  by_cases c5:(a0_1 != a1_1)=true
  ·rw [if_pos c5] at H
   have ay:(a0_1 != a1_1)=true:=c5;(try (have az:decide (a0_1=a1_1)=false:=by simpa using c5));(try (have aA:(a0_1==a1_1)=false:=by simpa using c5));(try (have c5b3:¬ (a0_1=a1_1):=by simpa using c5));clear c5;obtain rfl:=Option.some.inj H
   go_enter Tryd.func8,Tryd.ntmps8
   go_wp2_with (first|((with_reducible refine gd 2 rfl ?_);refine bx 2 28 (#[.slice a9 a7.length aa,.bool a0_1,.string a0_2]) ?_;intro am hg w6 hbox hb;refine Ya4 (below_step (be HB.out) hb) (hbox) (bs hg (be HB.out)) (bs hg (be HB.out)) ?_;clear HB;intro HB a6 an ao;clear hb hbox hg)|((with_reducible refine gd 3 rfl ?_);refine bx 3 28 (#[.slice ab a8.length ac,.bool a1_1,.string a1_2]) ?_;intro ap hg w7 hbox hb;refine Ya7 (bb a6 hb) (below_step (bf HB.out) hb) (hbox) (bs hg (bf HB.out)) (bs hg (bf HB.out)) (bl hg a6) (br hg a6) ?_;clear a6 HB;intro a6 HB ad aq ar ae af;clear hb hbox hg;have hnb8:=ae.out;have hnc8:=af.out;have ⟨aD,aE,aF,aG,aH,aI⟩:=Yc3 a6.out;have ⟨aJ,aK,aL,aM,aN,aO⟩:=Yc3 ad.out)|((with_reducible refine gc 26 rfl ?_);refine gl (some 9) _ (#[.slice a9 a7.length aa,.slice ab a8.length ac]) Tryd.func26 ?_;(with_reducible refine (laws_eqStringS.calls k _ _ a7 _ _ a8 true _ ?side1 ?side2 ?side3 ?side4 A3.out).mono ?_);(case side1=>exact cb (Kd.C_below ai.out HB.out));(case side2=>exact aj.out);(case side3=>exact cb (Kd.C_below ak.out HB.out));(case side4=>exact al.out);rintro e w' ⟨rfl,⟨nd,rfl⟩⟩;refine ⟨_,rfl,?_⟩))
   go_ret
   exact ⟨Ye2,(bf HB.out)⟩
  ·rw [if_neg c5] at H
   have ay:(a0_1 != a1_1)=false:=by simpa using c5
   (try (have az:decide (a0_1=a1_1)=true:=by simpa using c5));(try (have aA:(a0_1==a1_1)=true:=by simpa using c5));clear c5
   by_cases ag:a0_2.toList=a1_2.toList
   ·rw [if_pos ag] at H
    have aB:(a0_2.toList==a1_2.toList)=true:=beq_iff_eq.mpr ag;have aC:(a0_2.toList != a1_2.toList)=false:=bne_eq_false_iff_eq.mpr ag;clear ag;obtain rfl:=Option.some.inj H
    go_enter Tryd.func8,Tryd.ntmps8
    go_wp2_with (first|((with_reducible refine gd 2 rfl ?_);refine bx 2 28 (#[.slice a9 a7.length aa,.bool a0_1,.string a0_2]) ?_;intro am hg w12 hbox hb;refine Ya4 (below_step (be HB.out) hb) (hbox) (bs hg (be HB.out)) (bs hg (be HB.out)) ?_;clear HB;intro HB a6 an ao;clear hb hbox hg)|((with_reducible refine gd 3 rfl ?_);refine bx 3 28 (#[.slice ab a8.length ac,.bool a1_1,.string a1_2]) ?_;intro ap hg w13 hbox hb;refine Ya7 (bb a6 hb) (below_step (bf HB.out) hb) (hbox) (bs hg (bf HB.out)) (bs hg (bf HB.out)) (bl hg a6) (br hg a6) ?_;clear a6 HB;intro a6 HB ad aq ar ae af;clear hb hbox hg;have hnb14:=ae.out;have hnc14:=af.out;have ⟨aP,aQ,aR,aS,aT,aU⟩:=Yc3 a6.out;have ⟨aV,aW,aX,aY,aZ,b0⟩:=Yc3 ad.out)|((with_reducible refine gc 26 rfl ?_);refine gl (some 9) _ (#[.slice a9 a7.length aa,.slice ab a8.length ac]) Tryd.func26 ?_;(with_reducible refine (laws_eqStringS.calls k _ _ a7 _ _ a8 true _ ?side1 ?side2 ?side3 ?side4 A3.out).mono ?_);(case side1=>exact cb (Kd.C_below ai.out HB.out));(case side2=>exact aj.out);(case side3=>exact cb (Kd.C_below ak.out HB.out));(case side4=>exact al.out);rintro e w' ⟨rfl,⟨nd,rfl⟩⟩;refine ⟨_,rfl,?_⟩))
    go_ret
    exact ⟨Ye2,(bf HB.out)⟩
   ·rw [if_neg ag] at H
    have aB:(a0_2.toList==a1_2.toList)=false:=beq_eq_false_iff_ne.mpr ag;have aC:(a0_2.toList != a1_2.toList)=true:=bne_iff_ne.mpr ag;obtain rfl:=Option.some.inj H
    go_enter Tryd.func8,Tryd.ntmps8
    go_wp2_with (first|((with_reducible refine gd 2 rfl ?_);refine bx 2 28 (#[.slice a9 a7.length aa,.bool a0_1,.string a0_2]) ?_;intro am hg w17 hbox hb;refine Ya4 (below_step (be HB.out) hb) (hbox) (bs hg (be HB.out)) (bs hg (be HB.out)) ?_;clear HB;intro HB a6 an ao;clear hb hbox hg)|((with_reducible refine gd 3 rfl ?_);refine bx 3 28 (#[.slice ab a8.length ac,.bool a1_1,.string a1_2]) ?_;intro ap hg w18 hbox hb;refine Ya7 (bb a6 hb) (below_step (bf HB.out) hb) (hbox) (bs hg (bf HB.out)) (bs hg (bf HB.out)) (bl hg a6) (br hg a6) ?_;clear a6 HB;intro a6 HB ad aq ar ae af;clear hb hbox hg;have hnb19:=ae.out;have hnc19:=af.out;have ⟨b1,b2,b3,b4,b5,b6⟩:=Yc3 a6.out;have ⟨b7,b8,b9,ba,bd,bg⟩:=Yc3 ad.out)|((with_reducible refine gc 26 rfl ?_);refine gl (some 9) _ (#[.slice a9 a7.length aa,.slice ab a8.length ac]) Tryd.func26 ?_;(with_reducible refine (laws_eqStringS.calls k _ _ a7 _ _ a8 true _ ?side1 ?side2 ?side3 ?side4 A3.out).mono ?_);(case side1=>exact cb (Kd.C_below ai.out HB.out));(case side2=>exact aj.out);(case side3=>exact cb (Kd.C_below ak.out HB.out));(case side4=>exact al.out);rintro e w' ⟨rfl,⟨nd,rfl⟩⟩;refine ⟨_,rfl,?_⟩))
    go_ret
    exact ⟨Ye2,(bf HB.out)⟩
 ·replace c4:=Bool.eq_false_iff.mpr c4;subst c4
  rw [if_neg (show ¬(false=true) by decide)] at H
  obtain rfl:=Option.some.inj H
  go_enter Tryd.func8,Tryd.ntmps8
  go_wp2_with (first|((with_reducible refine gd 2 rfl ?_);refine bx 2 28 (#[.slice a9 a7.length aa,.bool a0_1,.string a0_2]) ?_;intro am hg w22 hbox hb;refine Ya4 (below_step (be HB.out) hb) (hbox) (bs hg (be HB.out)) (bs hg (be HB.out)) ?_;clear HB;intro HB a6 an ao;clear hb hbox hg)|((with_reducible refine gd 3 rfl ?_);refine bx 3 28 (#[.slice ab a8.length ac,.bool a1_1,.string a1_2]) ?_;intro ap hg w23 hbox hb;refine Ya7 (bb a6 hb) (below_step (bf HB.out) hb) (hbox) (bs hg (bf HB.out)) (bs hg (bf HB.out)) (bl hg a6) (br hg a6) ?_;clear a6 HB;intro a6 HB ad aq ar ae af;clear hb hbox hg;have hnb24:=ae.out;have hnc24:=af.out;have ⟨bh,bi,bj,bm,bn,bo⟩:=Yc3 a6.out;have ⟨bq,bu,bv,bw,bz,bA⟩:=Yc3 ad.out)|((with_reducible refine gc 26 rfl ?_);refine gl (some 9) _ (#[.slice a9 a7.length aa,.slice ab a8.length ac]) Tryd.func26 ?_;(with_reducible refine (laws_eqStringS.calls k _ _ a7 _ _ a8 false _ ?side1 ?side2 ?side3 ?side4 A3.out).mono ?_);(case side1=>exact cb (Kd.C_below ai.out HB.out));(case side2=>exact aj.out);(case side3=>exact cb (Kd.C_below ak.out HB.out));(case side4=>exact al.out);rintro e w' ⟨rfl,⟨nd,rfl⟩⟩;refine ⟨_,rfl,?_⟩))
  go_ret
  exact ⟨Ye2,(bf HB.out)⟩

end Go.Proofs.YthfpoacindblgaaDoor.P

