/- Several texts of this claim in one file: YtkmfnmeilooogaaDoorPImplKeysString, YtkmfnmeilooogaaDoorPStringsliteHasPrefix, YtkmfnmeilooogaaDoorPStringsHasPrefix, YtkmfnmeilooogaaDoorPImplOver, YtkmfnmeilooogaaDoorPImplIn, YtkmfnmeilooogaaDoorPImplSum, YtkmfnmeilooogaaDoorPImplGoodPart, YtkmfnmeilooogaaDoorPStringsSplit, YtkmfnmeilooogaaDoorPImplParts, YtkmfnmeilooogaaDoorPImplValidPath, YtkmfnmeilooogaaDoorPImplGoodEntry, YtkmfnmeilooogaaDoorPImplValidTree, YtkmfnmeilooogaaDoorPSpecL5Begins, YtkmfnmeilooogaaDoorPSpecL1In, YtkmfnmeilooogaaDoorPSpecL4PartOk, YtkmfnmeilooogaaDoorPSpecL4Parts, YtkmfnmeilooogaaDoorPSpecL4Ok, YtkmfnmeilooogaaDoorPSpecValidPath, YtkmfnmeilooogaaDoorPSpecValidTree, YtkmfnmeilooogaaDoorPSpecSum, YtkmfnmeilooogaaDoorPLawsEntry, YtkmfnmeilooogaaDoorPLawsTree, YtkmfnmeilooogaaDoorPSpecL6At. -/
import Derived.Test.YtkmfnmeilooogaaDoorM2
import Derived.Test.YtkmfnmeilooogaaDoorM3
import Derived.Shelf.Sort.Plain
import Derived.Shelf.Slices.In.SortNone2
import Derived.Sort.OwnSorted
import Derived.Lib.SplitLaws
namespace Go.Proofs.YtkmfnmeilooogaaDoor.P
open Go.RowKit Go.Proofs.YtkmfnmeilooogaaDoorW.PrintWords Go.Proofs.YtkmfnmeilooogaaDoorW.PrintLast Go.Proofs.YtkmfnmeilooogaaDoorW.PrintMore
attribute [local go_sem] max2_int min2_int max_two min_two max_three min_three max_four min_four
set_option linter.unusedVariables false
set_option linter.unusedSimpArgs false

/- Walked by hand (written by wip/tools/mkkeys.py). -/
open Go.Proofs.YtkmfnmeilooogaaDoor.Pure
set_option maxHeartbeats 4000000 in
set_option maxRecDepth 100000 in
theorem keysString_calls {α:Type} (enc:α→Value) (Ms:List (Nat×List (ByteArray×α))) (ad:Addr) (c:Nat) (w:World) (hc:∀ i,(h:i<Ms.length)→w.cell? (ad.add i)=some (.map (some Ms[i].1))) (hM:∀ i,(h:i<Ms.length)→MapAt enc w Ms[i].1 Ms[i].2) (hn:Ms.length≤1000) (hl:sizeK Ms≤1000000) :
  Calls Tryd.prog 86 #[.slice (some ad) Ms.length c] w fun e w' => ∃ v,e = .returned v∧Kd.R Kd.string 9 w' w.heap.size (fun _=>True) v (keysS (allK Ms))∧Below w.heap.size w w':=by
 have HC:=Aside0.mk hc
 have HMM:=Aside0.mk hM
 have HL:=Aside0.mk hl
 have HN:=Aside0.mk hn
 have HB:=Aside0.mk (Below.refl w.heap.size w)
 clear hc hM hl hn
 go_enter Tryd.func86,Tryd.ntmps86
 go_wp2_with ((with_reducible refine gd 9 rfl ?_);refine wpList_make_M Value.bool _ rfl _ rfl ?_;intro bs w2 hg hM hb;refine Ya3 hM (below_step (be HB.out) hb) (bs_ hg (be HB.out)) ?_;clear HB;intro HS HB GS;clear hM hb hg)
 go_loopg [12] (Ms.length) (fun kq v12 w' => ∃ (i:Nat) (S:List (ByteArray×Bool)),v12 = .int .i64 (i:Int)∧Aside0 (kq+i=Ms.length)∧Aside0 (MapAt Value.bool w' bs S)∧Aside0 (∀ x,x ∈ S.map (·.1) ↔ x ∈ allK (Ms.take i))∧Aside0 (S.length≤sizeK (Ms.take i))∧Aside0 (Below w.heap.size w w'))
 case atStart=>exact ⟨0,[],rfl,⟨by omega⟩,HS,⟨fun x=>by simp [allK]⟩,⟨by simp⟩,HB⟩
 case round =>
  clear HS HB
  obtain ⟨i,S,rfl,HK,HS,HV,HZ,HB⟩:=hrel
  have hik:=HK.out
  by_cases hi:i<Ms.length
  ·obtain ⟨go,rfl⟩:∃ g,gk=g+1:=⟨gk - 1,by omega⟩
   have c1:decide ((i:Int)<(Ms.length:Int))=true:=decide_eq_true (by omega)
   have c2:decide (0≤(i:Int))=true:=decide_eq_true (by omega)
   have c3:decide (i<Ms.length)=true:=decide_eq_true hi
   have hx1:wr.cell? (ad.add i)=some (.map (some Ms[i].1)):=(HB.out.cell (World.block_lt_of_cell? w _ (HC.out i hi))).trans (HC.out i hi)
   have HMi:=Aside0.mk ((HMM.out i hi).below HB.out (HMM.out i hi).lt)
   have HLo:=Aside0.mk (HMM.out i hi).lt
   have HT:=Aside0.mk (take_more Ms i hi)
   generalize Ms[i]=bM at hx1 HMi HT HLo
   obtain ⟨bm,M⟩:=bM
   have HSL:=Aside0.mk HS.out.lt
   go_wp2_with (at_range;refine wpList_range_M (enc:=enc) _ rfl _ 137 rfl 9 9 Tryd.underlying137 bm M rfl HMi.out ?_;intro r w3 hr hR hg;have hrs:=below_size HB.out;refine Ya5 hR (HS.out.kept hg (by simp)) (below_none HB.out hg) (show w.heap.size≤r from by omega) (show r≠bs∧bm≠bs from by have:=HSL.out;have:=GS.out;have:=HLo.out;exact ⟨by omega,by simp only at this;omega⟩) ?_;have HS0:=Aside0.mk HZ.out;clear HS HB;intro HR HS HB GR NE;clear hR hr hg hrs)
   (try go_frame)
   go_loopg [6] (M.length) (fun kq v6 w' => ∃ (L:List (ByteArray×α)) (S':List (ByteArray×Bool)),Aside0 (kq=L.length)∧Aside0 (RngAt enc w' bm r M L)∧Aside0 (MapAt Value.bool w' bs S')∧Aside0 (∀ x,x ∈ S'.map (·.1) ↔ x ∈ S.map (·.1)∨(x ∈ M.map (·.1)∧x ∉ L.map (·.1)))∧Aside0 (S'.length+L.length≤S.length+M.length)∧Aside0 (Below w.heap.size w w'))
   case atStart=>exact ⟨M,S,⟨rfl⟩,HR,HS,⟨fun x=>⟨fun h => .inl h,fun h=>h.elim id (fun h=>absurd h.1 h.2)⟩⟩,⟨Nat.le_refl _⟩,HB⟩
   case round =>
    clear HR HS HB hx1
    obtain ⟨L,S',HK2,HR,HS2,HV2,HZ2,HB⟩:=hrel
    go_wp2_with (at_next;refine wpList_next_M (enc:=enc) _ rfl _ rfl bm r M L rfl HR.out ?_ ?_)
    ·intro hL0
     subst hL0
     go_wp2
     go_roundg go
     case measure=>omega
     case rel=>exact ⟨i+1,S',by rw [show wrap64 ((i:Int)+1)=((i+1:Nat):Int) from by have:=HN.out;unfold wrap64;omega],⟨by omega⟩,HS2,⟨fun x=>by
      rw [HV2.out x,HV.out x,HT.out.1]
      simp⟩,⟨by have:=HZ2.out;have:=HZ.out;have:=HT.out.2;simp only [List.length_nil] at *; omega⟩,HB⟩
    ·intro w5 cm
     obtain ⟨L1,pk,px,L2,hL,hR2,hg2,hen⟩:=cm
     dsimp only
     subst hL
     have HG2:=Aside0.mk hg2
     have HR2:=Aside0.mk hR2
     have HKK:=Aside0.mk (show pk ∈ M.map (·.1)∧pk ∉ (L1++L2).map (·.1) from by
      have hk:=HR.out.keys
      refine ⟨hk.subset (by simp),?_⟩
      have hnd:=(hk.nodup HR.out.map.nodup)
      simp only [List.map_append,List.map_cons] at hnd ⊢
      exact nodup_mid hnd)
     clear hg2 hR2
     go_wp2_with (at_mapUpdate;refine wpList_store_M (enc:=Value.bool) _ rfl _ _ _ 146 rfl 9 4 Tryd.underlying146 Tryd.underlying9 bs S' rfl (HS2.out.kept HG2.out (ne_some (Ne.symm NE.out.1))) pk rfl true rfl ?_;intro w6 hS3 hg3 hs3;have HS3:=Aside0.mk hS3;have HG3:=Aside0.mk hg3;clear hS3 hg3 hs3)
     go_roundg (gk - 1)
     case measure=>have:=HK2.out;simp only [List.length_append,List.length_cons] at this;omega
     case rel=>exact ⟨L1++L2,_,⟨by have:=HK2.out;simp only [List.length_append,List.length_cons] at this ⊢; omega⟩,⟨HR2.out.kept HG3.out (ne_some NE.out.2) (ne_some NE.out.1)⟩,HS3,⟨fun x=>by
      rw [mput_map,HV2.out x]
      exact collect_step (p:=(pk,px)) HKK.out.1 HKK.out.2 x⟩,⟨by have:=HZ2.out;have:=mput_len pk true S';simp only [List.length_append,List.length_cons] at *; omega⟩,⟨below_own (below_own HB.out HG2.out GR.out) HG3.out GS.out⟩⟩
  ·have c1:decide ((i:Int)<(Ms.length:Int))=false:=decide_eq_false (by omega)
   have c3:decide (i<Ms.length)=false:=decide_eq_false hi
   obtain rfl:i=Ms.length:=by omega
   have HV':=Aside0.mk HV.out
   rw [List.take_length] at HV'
   have HZ':=Aside0.mk HZ.out
   rw [List.take_length] at HZ'
   clear HV HZ
   have HSL:=Aside0.mk HS.out.lt
   go_wp2_with (at_range;refine wpList_range_M (enc:=Value.bool) _ rfl _ 146 rfl 9 4 Tryd.underlying146 bs S rfl HS.out ?_;intro r w3 hr hR hg;have hrs:=below_size HB.out;refine Ya4 hR (below_none HB.out hg) (show w.heap.size≤r from by omega) (show bs≠r from by have:=HSL.out;omega) ?_;clear HS HB;intro HR HB GR NE;clear hR hr hg hrs)
   (try go_frame)
   go_loopg [7] (S.length) (fun kq v7 w' => ∃ (L:List (ByteArray×Bool)) (out:List ByteArray) (vo:Value),vo=v7∧Aside0 (kq=L.length)∧Aside0 (RngAt Value.bool w' bs r S L)∧Aside0 (Kd.R Kd.string 9 w' w.heap.size (fun k=>k≠bs∧k≠r) vo out)∧Aside0 ((out++L.map (·.1)).Perm (S.map (·.1)))∧Aside0 (Below w.heap.size w w'))
   case atStart=>exact ⟨S,[],_,rfl,⟨rfl⟩,HR,⟨Kd.R_nil _ _ _ _ _⟩,⟨by rw [List.nil_append]⟩,HB⟩
   case round =>
    clear HR HB
    obtain ⟨L,out,vo,rfl,HK2,HR,HO,HP,HB⟩:=hrel
    have HOL:=Aside0.mk (show out.length+L.length=S.length from by have:=HP.out.length_eq;simpa using this)
    go_wp2_with (at_next;refine wpList_next_M (enc:=Value.bool) _ rfl _ rfl bs r S L rfl HR.out ?_ ?_)
    ·intro hL0
     subst hL0
     have HPP:=Aside0.mk (show out.Perm (S.map (·.1)) from by have:=HP.out;simpa using this)
     have HND:=Aside0.mk (HPP.out.nodup_iff.2 HR.out.map.nodup)
     have HXX:=Aside0.mk (sorted_keys out (allK Ms) HND.out (fun x=>(HPP.out.mem_iff).trans (HV'.out x)))
     have HLL:=Aside0.mk (show out.length≤1000000 from by have:=HOL.out;have:=HZ'.out;have:=HL.out;simp only [List.length_nil] at *; omega)
     clear HP HPP HND HOL HK2
     obtain ⟨A,cp,hv⟩:=Kd.R_slice HO.out
     by_cases h0:out.length=0
     ·have hk0:keysS (allK Ms) = []:=by
       have:=HXX.out
       rw [List.length_eq_zero_iff.1 h0] at this
       simpa using this.symm
      have HO':=Aside0.mk (show Kd.R Kd.string 9 wr w.heap.size (fun _=>True) vo (keysS (allK Ms)) from by rw [hk0,←List.length_eq_zero_iff.1 h0];exact Kd.R_mono HO.out (fun _ _=>trivial))
      have HV0:=Aside0.mk hv
      rw [h0] at hv
      subst hv
      have hs:∀ W,Calls Tryd.prog 99 #[.slice A 0 cp] W fun e w'=>e = .returned (.tuple #[])∧w'=W:=fun W=>Tryd.sort_Strings_none A cp W
      clear hk0 h0 HV0
      have HSN:=Aside0.mk hs
      clear hs
      go_wp2_with (go_at_call 99;(with_reducible refine (HSN.out _).mono ?_);rintro e w' ⟨rfl,rfl⟩)
      go_ret
      exact ⟨_,rfl,HO'.out,HB.out⟩
     ·obtain ⟨g,cap,hv2,hbase,hlt,cells,hcell⟩:=Kd.R_form HO.out (by omega)
      have hown:=strs_opened HO.out
      rcases hown.2 with ⟨hnil,hnl⟩|⟨g',cap',cur,hv3,hb1,hb2,hb3,hb4,hb5,hb6⟩
      ·exact absurd hnl h0
      rw [hv3] at hv2
      injection hv2 with ha _ hcp
      injection ha with ha
      injection ha with ha
      subst ha
      subst hcp
      have hH:Go.Sort.Holds Go.Proofs.encStr wr g' 0 (out.map fun k=>k.data.toList).toArray:=holds_of_block hb2 (by
       rw [List.length_map,List.map_map]
       rw [Nat.mul_one] at hb6
       rw [hb6]
       exact List.map_congr_left (fun k _=>by simp))
      have hz:(out.map fun k=>k.data.toList).length<4611686018427387904:=Nat.lt_of_le_of_lt (Nat.le_of_eq (List.length_map _)) (Nat.lt_of_le_of_lt HLL.out (by decide))
      have hgb:=blk_lt hb2
      have hso:=Tryd.sort_Strings g' 0 cap' (out.map fun k=>k.data.toList) wr hH hgb hz
      rw [HXX.out,List.length_map] at hso
      have hlen:(keysS (allK Ms)).length=out.length:=by
       have:=congrArg List.length HXX.out
       simpa using this.symm
      have HFIN:=Aside0.mk (fun (nn:Nat) (os:Array Obj)=>strs_closed (w:=wr) (n:=nn) (os:=os) (l:=out) (ks:=keysS (allK Ms)) hlen hb1 hb2 hb3 hb4 (by omega))
      have HSO:=Aside0.mk hso
      have HGB:=Aside0.mk hb1
      subst hv3
      clear hz hgb
      clear hv hso hH hlen hb1 hb2 hb3 hb4 hb5 hb6 hown hcell hlt hbase h0
      go_wp2_with (go_at_call 99;(with_reducible refine HSO.out.mono ?_);rintro e w' ⟨rfl,nn,os,rfl⟩)
      go_ret
      exact ⟨_,rfl,(HFIN.out nn os).1,pw_below_grown HB.out _ HB.out.size (HFIN.out nn os).2 (fun k e=>by cases e;exact HGB.out)⟩
    ·intro w5 cm
     obtain ⟨L1,pk,px,L2,hL,hR2,hg2,hen⟩:=cm
     dsimp only
     subst hL
     have HB2:=Aside0.mk (below_own HB.out hg2 GR.out)
     have HO2:=Aside0.mk (Kd.R_grown HO.out hg2 (fun k hk e=>hk.2 (Option.some.inj e)))
     have HR2:=Aside0.mk hR2
     have HLB:=Aside0.mk (show bs<w5.heap.size∧r<w5.heap.size from ⟨hR2.map.lt,hR2.lt⟩)
     have HOZ:=Aside0.mk (show (out.length+1)*16≤140737488355328 from by have:=HOL.out;have:=HZ'.out;have:=HL.out;simp only [List.length_append,List.length_cons] at *; omega)
     clear hg2 hR2
     go_wp2_with (first|((with_reducible refine gate_builtin (b:=.append) (xs:=#[.tmp 31,.tmp 33]) rfl ?_);at_builtin;refine Kd.R_append Kd.string (w0:=w) w.heap.size rfl (.tmp 31) (.tmp 33) 29 9 (.string ⟨#[]⟩) 16 rfl Tryd.underlying29 info9 rfl (by decide) (by omega) vo out pk [.string pk] (fun k=>k≠bs∧k≠r) (fun _=>False) rfl rfl rfl (fun _ hk=>hk.elim) (fun k hk=>by have:=HLB.out;constructor <;> omega) HO2.out HB2.out (below_size HB2.out) HOZ.out ?_;intro v1 w6 ho hb hg hat;have HO3:=Aside0.mk ho;have HB3:=Aside0.mk hb;have HR3:=Aside0.mk (HR2.out.kept hg (fun e=>(HO2.out.1 _ e.symm).1 rfl) (fun e=>(HO2.out.1 _ e.symm).2 rfl));clear ho hb hg hat))
     go_roundg (gk - 1)
     case measure=>have:=HK2.out;simp only [List.length_append,List.length_cons] at this;omega
     case rel=>exact ⟨L1++L2,out ++ [pk],_,rfl,⟨by have:=HK2.out;simp only [List.length_append,List.length_cons] at this ⊢; omega⟩,HR3,HO3,⟨by
      refine List.Perm.trans ?_ HP.out
      simp only [List.map_append,List.map_cons,List.append_assoc,List.singleton_append]
      exact List.Perm.append_left out List.perm_middle.symm⟩,HB3⟩


end Go.Proofs.YtkmfnmeilooogaaDoor.P


namespace Go.Proofs.YtkmfnmeilooogaaDoor.P
open Go.RowKit Go.Proofs.YtkmfnmeilooogaaDoorW.PrintWords Go.Proofs.YtkmfnmeilooogaaDoorW.PrintLast Go.Proofs.YtkmfnmeilooogaaDoorW.PrintMore
attribute [local go_sem] max2_int min2_int max_two min_two max_three min_three max_four min_four
set_option linter.unusedVariables false
set_option linter.unusedSimpArgs false

def stringslite_HasPrefix.f (a0:ByteArray) (a1:ByteArray):Option (Bool):=if (a0.size:Int) ≥ (a1.size:Int) then (if 0≤(a1.size:Int) then (if (a1.size:Int)≤(a0.size:Int) then (some ((a0.extract 0 ((a1.size:Int):Int).toNat).toList==a1.toList)) else (none)) else (none)) else (some false)
set_option maxHeartbeats 8000000 in
set_option maxRecDepth 100000 in
theorem stringslite_HasPrefix.calls (a0:ByteArray) (a1:ByteArray) (r:Bool) (w:World) (h:stringslite_HasPrefix.f a0 a1=some r) :
  Calls Tryd.prog 106 #[.string a0,.string a1] w fun e w'=>e = .returned (.bool r)∧Drawn0 w w':=by
 have H:(if (a0.size:Int) ≥ (a1.size:Int) then (if 0≤(a1.size:Int) then (if (a1.size:Int)≤(a0.size:Int) then (some ((a0.extract 0 ((a1.size:Int):Int).toNat).toList==a1.toList)) else (none)) else (none)) else (some false))=some r:=h;clear h
 by_cases c3:(a0.size:Int) ≥ (a1.size:Int)
 ·rw [if_pos c3] at H
  have a2:decide ((a1.size:Int)≤(a0.size:Int))=true:=decide_eq_true c3;have a3:decide (a1.size≤a0.size)=true:=decide_eq_true (Int.ofNat_le.mp c3);clear c3
  by_cases c4:0≤(a1.size:Int)
  ·rw [if_pos c4] at H
   have c4b0:=eq_true c4;have c4b1:decide (0≤(a1.size:Int))=true:=decide_eq_true c4;clear c4
   by_cases c5:(a1.size:Int)≤(a0.size:Int)
   ·rw [if_pos c5] at H
    have c5b0:=eq_true c5;have c5b1:decide ((a1.size:Int)≤(a0.size:Int))=true:=decide_eq_true c5;clear c5;obtain rfl:=Option.some.inj H
    go_enter Tryd.func106,Tryd.ntmps106
    go_wp2
    go_ret
    exact ⟨Ye1,dz⟩
   ·rw [if_neg c5] at H
    exact absurd H (by simp)
  ·rw [if_neg c4] at H
   exact absurd H (by simp)
 ·rw [if_neg c3] at H
  have a2:decide ((a1.size:Int)≤(a0.size:Int))=false:=decide_eq_false c3;have a3:decide (a1.size≤a0.size)=false:=decide_eq_false (fun h=>c3 (Int.ofNat_le.mpr h));clear c3;obtain rfl:=Option.some.inj H
  go_enter Tryd.func106,Tryd.ntmps106
  go_wp2
  go_ret
  exact ⟨Ye1,dz⟩

end Go.Proofs.YtkmfnmeilooogaaDoor.P


namespace Go.Proofs.YtkmfnmeilooogaaDoor.P
open Go.RowKit Go.Proofs.YtkmfnmeilooogaaDoorW.PrintWords Go.Proofs.YtkmfnmeilooogaaDoorW.PrintLast Go.Proofs.YtkmfnmeilooogaaDoorW.PrintMore
attribute [local go_sem] max2_int min2_int max_two min_two max_three min_three max_four min_four
set_option linter.unusedVariables false
set_option linter.unusedSimpArgs false

def strings_HasPrefix.f (a0:ByteArray) (a1:ByteArray):Option (Bool):=(stringslite_HasPrefix.f a0 a1).bind fun a2=>(some a2)
set_option maxHeartbeats 8000000 in
set_option maxRecDepth 100000 in
theorem strings_HasPrefix.calls (a0:ByteArray) (a1:ByteArray) (r:Bool) (w:World) (h:strings_HasPrefix.f a0 a1=some r) :
  Calls Tryd.prog 96 #[.string a0,.string a1] w fun e w'=>e = .returned (.bool r)∧Drawn0 w w':=by
 have H:((stringslite_HasPrefix.f a0 a1).bind fun a2=>(some a2))=some r:=h;clear h;replace H:=Option.bind_eq_some_iff.mp H;obtain ⟨a2,A30,H⟩:=H;replace H:(some a2)=some r:=H;have A3:=Aside0.mk A30;clear A30;obtain rfl:=Option.some.inj H
 go_enter Tryd.func96,Tryd.ntmps96
 go_wp2_with (first|((with_reducible refine gc 106 rfl ?_);refine gl (some 7) _ (#[.string a0,.string a1]) Tryd.func106 ?_;(with_reducible refine (stringslite_HasPrefix.calls a0 a1 a2 _ A3.out).mono ?_);rintro e w' ⟨rfl,⟨nd,rfl⟩⟩;refine ⟨_,rfl,?_⟩))
 go_ret
 exact ⟨Ye1,dz⟩

end Go.Proofs.YtkmfnmeilooogaaDoor.P


namespace Go.Proofs.YtkmfnmeilooogaaDoor.P
open Go.RowKit Go.Proofs.YtkmfnmeilooogaaDoorW.PrintWords Go.Proofs.YtkmfnmeilooogaaDoorW.PrintLast Go.Proofs.YtkmfnmeilooogaaDoorW.PrintMore
attribute [local go_sem] max2_int min2_int max_two min_two max_three min_three max_four min_four
set_option linter.unusedVariables false
set_option linter.unusedSimpArgs false

def impl_over.f (a0:ByteArray) (a1:ByteArray):Option (Bool):=if a0.size+1≤9223372036854775807 then ((strings_HasPrefix.f a1 (a0++(⟨#[47]⟩:ByteArray))).bind fun a2=>(some a2)) else (none)
set_option maxHeartbeats 8000000 in
set_option maxRecDepth 100000 in
theorem impl_over.calls (a0:ByteArray) (a1:ByteArray) (r:Bool) (w:World) (h:impl_over.f a0 a1=some r) :
  Calls Tryd.prog 84 #[.string a0,.string a1] w fun e w'=>e = .returned (.bool r)∧Drawn0 w w':=by
 have H:(if a0.size+1≤9223372036854775807 then ((strings_HasPrefix.f a1 (a0++(⟨#[47]⟩:ByteArray))).bind fun a2=>(some a2)) else (none))=some r:=h;clear h
 by_cases c3:a0.size+1≤9223372036854775807
 ·rw [if_pos c3] at H
  have c3b0:=eq_true c3;have c3b1:decide (a0.size+1≤9223372036854775807)=true:=decide_eq_true c3
  try have c3b2:(9223372036854775807<a0.size+1)=False:=eq_false (Nat.not_lt.2 c3)
  replace H:=Option.bind_eq_some_iff.mp H;obtain ⟨a2,A40,H⟩:=H;replace H:(some a2)=some r:=H;have A4:=Aside0.mk A40;clear A40;obtain rfl:=Option.some.inj H
  go_enter Tryd.func84,Tryd.ntmps84
  go_wp2_with (first|((with_reducible refine gc 96 rfl ?_);refine gl (some 8) _ (#[.string a1,.string (a0++(⟨#[47]⟩:ByteArray))]) Tryd.func96 ?_;(with_reducible refine (strings_HasPrefix.calls a1 (a0++(⟨#[47]⟩:ByteArray)) a2 _ A4.out).mono ?_);rintro e w' ⟨rfl,⟨nd,rfl⟩⟩;refine ⟨_,rfl,?_⟩))
  go_ret
  exact ⟨Ye1,dz⟩
 ·rw [if_neg c3] at H
  exact absurd H (by simp)


end Go.Proofs.YtkmfnmeilooogaaDoor.P


namespace Go.Proofs.YtkmfnmeilooogaaDoor.P
open Go.RowKit Go.Proofs.YtkmfnmeilooogaaDoorW.PrintWords Go.Proofs.YtkmfnmeilooogaaDoorW.PrintLast Go.Proofs.YtkmfnmeilooogaaDoorW.PrintMore
attribute [local go_sem] max2_int min2_int max_two min_two max_three min_three max_four min_four
set_option linter.unusedVariables false
set_option linter.unusedSimpArgs false

def impl_in.f (a0:Int) (a1:Int) (a2:Int):Option (Bool):=if a0 ≥ a1 then (some (decide (a0≤a2))) else (some false)
set_option maxHeartbeats 8000000 in
set_option maxRecDepth 100000 in
theorem impl_in.calls (a0:Int) (a1:Int) (a2:Int) (r:Bool) (w:World) (h:impl_in.f a0 a1 a2=some r) :
  Calls Tryd.prog 47 #[.int .i64 a0,.int .i64 a1,.int .i64 a2] w fun e w'=>e = .returned (.bool r)∧Drawn0 w w':=by
 have H:(if a0 ≥ a1 then (some (decide (a0≤a2))) else (some false))=some r:=h;clear h
 by_cases c4:a0 ≥ a1
 ·rw [if_pos c4] at H
  have a3:decide (a1≤a0)=true:=decide_eq_true c4;clear c4;obtain rfl:=Option.some.inj H
  go_enter Tryd.func47,Tryd.ntmps47
  go_wp2
  go_ret
  exact ⟨Ye1,dz⟩
 ·rw [if_neg c4] at H
  have a3:decide (a1≤a0)=false:=decide_eq_false c4;clear c4;obtain rfl:=Option.some.inj H
  go_enter Tryd.func47,Tryd.ntmps47
  go_wp2
  go_ret
  exact ⟨Ye1,dz⟩

end Go.Proofs.YtkmfnmeilooogaaDoor.P


namespace Go.Proofs.YtkmfnmeilooogaaDoor.P
open Go.RowKit Go.Proofs.YtkmfnmeilooogaaDoorW.PrintWords Go.Proofs.YtkmfnmeilooogaaDoorW.PrintLast Go.Proofs.YtkmfnmeilooogaaDoorW.PrintMore
attribute [local go_sem] max2_int min2_int max_two min_two max_three min_three max_four min_four
set_option linter.unusedVariables false
set_option linter.unusedSimpArgs false

mutual
def impl_Sum.l0:Nat→ByteArray→Int→Int→Int→Option (ByteArray)
 | 0,_,_,_,_=>none
 | k+1,x0,x1,x5,x6=>if x6<(x0.size:Int) then (if 0≤x6 then (impl_Sum.l0 k x0 x1 (IntKind.u64.wrap ((Go.bits .xor .u64 x5 (IntKind.u64.wrap (bt x0 x6)))*1099511628211)) (wrap64 (x6+1))) else (none)) else (if 8≤281474976710656 then (impl_Sum.l1 k x1 x5 (List.replicate 8 0) 7) else (none))
def impl_Sum.l1:Nat→Int→Int→List Int→Int→Option (ByteArray)
 | 0,_,_,_,_=>none
 | k+1,x1,x5,x7,x8=>if x8 ≥ 0 then (if 0≤x8 then (if x8<(x7.length:Int) then (impl_Sum.l1 k x1 (x5 / 256) (x7.set (x8:Int).toNat ((x5) % 256)) (wrap64 (x8 - 1))) else (none)) else (none)) else (if 0≤(wrap64 (8 - x1)) then (if (wrap64 (8 - x1))≤(x7.length:Int) then (some (strOfNums (x7.drop ((wrap64 (8 - x1)):Int).toNat))) else (none)) else (none))
end
def impl_Sum.f (k:Nat) (a0:ByteArray) (a1:Int):Option (ByteArray):=(impl_in.f a1 1 8).bind fun a8=>(if a8=true then (impl_Sum.l0 k a0 a1 14695981039346656037 0) else (some (⟨#[]⟩:ByteArray)))
theorem impl_Sum.mono_l:∀ k,(∀ y0 y1 y2 y3,LeO (impl_Sum.l0 k y0 y1 y2 y3) (impl_Sum.l0 (k+1) y0 y1 y2 y3))∧(∀ y0 y1 y2 y3,LeO (impl_Sum.l1 k y0 y1 y2 y3) (impl_Sum.l1 (k+1) y0 y1 y2 y3))
 | 0=>⟨fun _ _ _ _ r h=>by simp [impl_Sum.l0] at h,fun _ _ _ _ r h=>by simp [impl_Sum.l1] at h⟩
 | k + 1 => by
  obtain ⟨ih0,ih1⟩:=impl_Sum.mono_l k;refine ⟨?_,?_⟩
  ·intro y0 y1 y2 y3
   unfold impl_Sum.l0
   repeat' first
   | (with_reducible exact ih0 _ _ _ _)
   | (with_reducible exact ih1 _ _ _ _)
   | (with_reducible exact LeO.refl _)
   | (with_reducible exact LeO.none _)
   | (with_reducible refine LeO.ite ?_ ?_)
   | (with_reducible refine LeO.bind ?_ (fun _ => ?_))
   | exact ih0 _ _ _ _
   | exact ih1 _ _ _ _
   | exact LeO.none _
   | refine LeO.ite ?_ ?_
   | refine LeO.bind ?_ (fun _ => ?_)
  ·intro y0 y1 y2 y3
   unfold impl_Sum.l1
   repeat' first
   | (with_reducible exact ih0 _ _ _ _)
   | (with_reducible exact ih1 _ _ _ _)
   | (with_reducible exact LeO.refl _)
   | (with_reducible exact LeO.none _)
   | (with_reducible refine LeO.ite ?_ ?_)
   | (with_reducible refine LeO.bind ?_ (fun _ => ?_))
   | exact ih0 _ _ _ _
   | exact ih1 _ _ _ _
   | exact LeO.none _
   | refine LeO.ite ?_ ?_
   | refine LeO.bind ?_ (fun _ => ?_)
theorem impl_Sum.mono:∀ a0 a1 k,LeO (impl_Sum.f k a0 a1) (impl_Sum.f (k+1) a0 a1):=by
 intro a0 a1 k;obtain ⟨ih0,ih1⟩:=impl_Sum.mono_l k
 unfold impl_Sum.f
 repeat' first
   | (with_reducible exact ih0 _ _ _ _)
   | (with_reducible exact ih1 _ _ _ _)
   | (with_reducible exact LeO.refl _)
   | (with_reducible exact LeO.none _)
   | (with_reducible refine LeO.ite ?_ ?_)
   | (with_reducible refine LeO.bind ?_ (fun _ => ?_))
   | exact ih0 _ _ _ _
   | exact ih1 _ _ _ _
   | exact LeO.none _
   | refine LeO.ite ?_ ?_
   | refine LeO.bind ?_ (fun _ => ?_)
set_option maxHeartbeats 8000000 in
set_option maxRecDepth 100000 in
theorem impl_Sum.calls (k : Nat) (a0 : ByteArray) (a1 : Int) (r : ByteArray) (w : World) (h : impl_Sum.f k a0 a1 = some r) :
  Calls Tryd.prog 49 #[.string a0,.int .i64 a1] w fun e w'=>e = .returned (.string r)∧Below w.heap.size w w':=by
 have HB:=Aside0.mk (Below.refl w.heap.size w);have H:((impl_in.f a1 1 8).bind fun a8=>(if a8=true then (impl_Sum.l0 k a0 a1 14695981039346656037 0) else (some (⟨#[]⟩:ByteArray))))=some r:=h;clear h;replace H:=Option.bind_eq_some_iff.mp H;obtain ⟨a8,A30,H⟩:=H;replace H:(if a8=true then (impl_Sum.l0 k a0 a1 14695981039346656037 0) else (some (⟨#[]⟩:ByteArray)))=some r:=H;have A3:=Aside0.mk A30;clear A30
 by_cases c4:a8=true
 ·subst c4
  have H1:(impl_Sum.l0 k a0 a1 14695981039346656037 0)=some r:=by rw [if_pos rfl] at H;exact H
  clear H;have H:=H1;clear H1;have H':=Aside0.mk H;clear H
  go_enter Tryd.func49,Tryd.ntmps49
  go_wp2_with (first|((with_reducible refine gc 47 rfl ?_);refine gl (some 10) _ (#[.int .i64 a1,.int .i64 1,.int .i64 8]) Tryd.func47 ?_;(with_reducible refine (impl_in.calls a1 1 8 true _ A3.out).mono ?_);rintro e w' ⟨rfl,⟨nd,rfl⟩⟩;refine ⟨_,rfl,?_⟩))
  go_loopg [5,6] k (fun kq v5 v6 w' => ∃ (a9:Int) (a5:Int),v5 = .int .u64 a9∧v6 = .int .i64 a5∧Aside0 (impl_Sum.l0 kq a0 a1 a9 a5=some r)∧Aside0 (kq≤k)∧Aside0 (Below w.heap.size w w'))
  case atStart=>exact ⟨(14695981039346656037),(0),Ye1,Ye1,H',⟨Nat.le_refl _⟩,⟨be HB.out⟩⟩
  case round =>
   clear H';(try clear p2);(try clear c4);obtain ⟨a9,a5,rfl,rfl,HA,HK1,HB⟩:=hrel
   cases gk with
   | zero=>exact absurd HA.out (by simp [impl_Sum.l0])
   | succ k1 =>
    have H:=HA.out;clear HA;simp only [impl_Sum.l0] at H
    by_cases c5:a5<(a0.size:Int)
    ·rw [if_pos c5] at H
     have ar:decide (a5<(a0.size:Int))=true:=decide_eq_true c5;clear c5
     by_cases c6:0≤a5
     ·rw [if_pos c6] at H
      have aA:decide (0≤a5)=true:=decide_eq_true c6;clear c6;have H':=Aside0.mk H;clear H;have p7:0≤(a5:Int):=oda;have q7:a5<(a0.size:Int):=oda;have hx7:=bt_at a0 a5;replace p7:=eq_true p7;replace q7:=eq_true q7
      go_wp2
      go_roundg k1
      case measure=>have:=HK1.out;omega
      case rel=>exact ⟨(IntKind.u64.wrap ((Go.bits .xor .u64 a9 (IntKind.u64.wrap (bt a0 a5)))*1099511628211)),(wrap64 (a5+1)),Ye1,Ye1,H',⟨by have:=HK1.out;omega⟩,⟨be HB.out⟩⟩
     ·rw [if_neg c6] at H
      exact absurd H (by simp)
    ·rw [if_neg c5] at H
     have ar:decide (a5<(a0.size:Int))=false:=decide_eq_false c5;clear c5
     by_cases c8:8≤281474976710656
     ·rw [if_pos c8] at H
      have aB:=eq_true c8;have aC:decide (8≤281474976710656)=true:=decide_eq_true c8;clear c8
      obtain ⟨au,ac⟩:∃ y_:List Int,y_=(List.replicate 8 0):=⟨_,rfl⟩
      replace H:(impl_Sum.l1 k1 a1 a9 au 7)=some r:=by first|(rw [ac];with_reducible exact H)|(have H2_:=(Option.bind_some _ _).symm.trans H;rw [ac];with_reducible exact H2_)|(have H2_:=(Option.bind_some _ _).symm.trans H;with_reducible exact H2_)|with_reducible exact H|(rw [ac];exact H)|exact H
      have av:=Aside0.mk ac;clear ac;have H':=Aside0.mk H;clear H
      go_wp2_with (first|((with_reducible refine gd 25 rfl ?_);refine Kd.R_make (Kd.int .u8) _ 5 rfl (N:=25) rfl 25 _ _ rfl 8 rfl rfl Tryd.underlying25 (.int .u8 0) 1 info5 rfl (by decide) (by omega) 0 (ok:=fun _=>True) (okp:=fun _=>True) rfl (fun _ hk=>hk) trivial (by omega) (by omega) (Below.refl _ _) (Nat.le_refl _) ?_;intro aD w9 ho10 hb hg_ hnew_;clear hg_ hnew_;(first|rw [←av.out] at ho10|(simp only [Int.reduceToNat] at ho10;rw [←av.out] at ho10));refine Ya2 (Kd.R_lower ho10 (below_size (be HB.out))) (below_step (be HB.out) hb) ?_;clear HB;intro aE HB;clear hb ho10))
      go_loopg [5,8] k1 (fun kq v5 v8 w' => ∃ (a7:Int) (a2:List Int) (a4:Int),v5 = .int .u64 a7∧v8 = .int .i64 a4∧Aside0 (impl_Sum.l1 kq a1 a7 a2 a4=some r)∧Aside0 (kq≤k1)∧Aside0 (Kd.R (Kd.int .u8) 5 w' w.heap.size (fun _=>True) aD a2)∧Aside0 (Below w.heap.size w w'))
      case atStart=>exact ⟨(a9),(au),(7),Ye1,Ye1,H',⟨Nat.le_refl _⟩,⟨kr aE.out⟩,⟨be HB.out⟩⟩
      case round =>
       clear H';(try clear p2);(try clear c4);(try clear c5);(try clear ar);(try clear c6);(try clear aA);(try clear p6);(try clear p7);(try clear q7);(try clear hx7);(try clear c8);(try clear aB);(try clear aC);(try clear p2);(try clear p7);(try clear q7);obtain ⟨a7,a2,a4,rfl,rfl,HA,HK2,a6,HB⟩:=hrel
       cases gk with
       | zero=>exact absurd HA.out (by simp [impl_Sum.l1])
       | succ k2 =>
        have H:=HA.out;clear HA;simp only [impl_Sum.l1] at H
        by_cases aa:a4 ≥ 0
        ·rw [if_pos aa] at H
         have aF:decide (0≤a4)=true:=decide_eq_true aa;clear aa
         by_cases ai:0≤a4
         ·rw [if_pos ai] at H
          have c12b0:decide (0≤a4)=true:=decide_eq_true ai;clear ai
          by_cases aj:a4<(a2.length:Int)
          ·rw [if_pos aj] at H
           have c13b0:decide (a4<(a2.length:Int))=true:=decide_eq_true aj;clear aj
           obtain ⟨an,ad⟩:∃ y_:List Int,y_=(a2.set (a4:Int).toNat ((a7) % 256)):=⟨_,rfl⟩
           replace H:(impl_Sum.l1 k2 a1 (a7 / 256) an (wrap64 (a4 - 1)))=some r:=by first|(rw [ad];with_reducible exact H)|(have H2_:=(Option.bind_some _ _).symm.trans H;rw [ad];with_reducible exact H2_)|(have H2_:=(Option.bind_some _ _).symm.trans H;with_reducible exact H2_)|with_reducible exact H|(rw [ad];exact H)|exact H
           have aG:=Aside0.mk ad;clear ad;have H':=Aside0.mk H;clear H;have p14:0≤(a4:Int):=oda;have q14:(a4:Int)<((a2.length:Int):Int):=oda;obtain ⟨ao,aH,aw,ax,gl14,cl14,HG14⟩:=Kd.R_form a6.out (by omega);(first|cases aw|(injection aw with ea_ en_ ec_;(first|subst ea_|(injection ea_ with ea_;subst ea_));subst ec_;clear en_));have aI:=Aside0.mk ax;have GG14:=Aside0.mk HG14;clear ax gl14 HG14;obtain ⟨aL,hf14_0⟩:=Kd.R_celln 0 a6.out (a4:Int) p14 q14;replace p14:=eq_true p14;replace q14:=eq_true q14;have ap:=Kd.R_putg a6.out (a4:Int) ((a7) % 256)
           go_wp2_with (first|((with_reducible refine gate_store (t:=5) (p:=34) rfl ?_);refine store_event (t:=5) (p:=34) (v:=?vo_w16) (w1:=(wr.setCell ⟨ao,(a4:Int).toNat,none⟩ (.int .u8 ((a7) % 256)))) ?hg ?ho ?hn ?hr ?_;(case ho=>rfl);(case hg=>rfl);(case hn=>rfl);(case hr=>first|(go_simp;done)|(go_simp;rfl));intro aq hw;have hg:wr.grownBy aq (some ao):=(by rw [hw];exact ap.2);have hp_:Kd.R (Kd.int .u8) 5 aq w.heap.size (fun _=>True) (.slice (some ⟨ao,0,none⟩) a2.length aH) an:=(by rw [hw,aG.out];exact ap.1);clear ap;refine Ya2 (hp_) ((by rw [hw];exact below_set (HB.out) aI.out:Below w.heap.size w aq)) ?_;clear a6 HB;intro a6 HB;clear hg hw hp_))
           go_roundg k2
           case measure=>have:=HK1.out;have:=HK2.out;omega
           case rel=>exact ⟨(a7 / 256),(an),(wrap64 (a4 - 1)),Ye1,Ye1,H',⟨by have:=HK1.out;have:=HK2.out;omega⟩,⟨kr a6.out⟩,⟨be HB.out⟩⟩
          ·rw [if_neg aj] at H
           exact absurd H (by simp)
         ·rw [if_neg ai] at H
          exact absurd H (by simp)
        ·rw [if_neg aa] at H
         have aF:decide (0≤a4)=false:=decide_eq_false aa;clear aa
         obtain ⟨a3,ak⟩:∃ j_:Int,(wrap64 (8 - a1))=j_:=⟨_,rfl⟩
         replace H:(if 0≤(a3) then (if (a3)≤(a2.length:Int) then (some (strOfNums (a2.drop ((a3):Int).toNat))) else (none)) else (none))=some r:=by first|(rw [ak] at H;exact H)|(simp only [ak] at H ⊢; exact H)
         have hji17w:(IntKind.i64.wrap (8 - a1))=a3:=(i64_w _).trans ak
         by_cases ae:0≤(a3)
         ·rw [if_pos ae] at H
          have c18b0:=eq_true ae;have c18b1:decide (0≤(a3))=true:=decide_eq_true ae;clear ae
          by_cases af:(a3)≤(a2.length:Int)
          ·rw [if_pos af] at H
           have c19b0:=eq_true af;have c19b1:decide ((a3)≤(a2.length:Int))=true:=decide_eq_true af;clear af
           obtain ⟨ab,ag⟩:∃ y_:List Int,y_=(a2.drop ((a3):Int).toNat):=⟨_,rfl⟩
           replace H:(some (strOfNums ab))=some r:=by first|(rw [ag];with_reducible exact H)|(have H2_:=(Option.bind_some _ _).symm.trans H;rw [ag];with_reducible exact H2_)|(have H2_:=(Option.bind_some _ _).symm.trans H;with_reducible exact H2_)|with_reducible exact H|(rw [ag];exact H)|exact H
           have ay:=Aside0.mk ag;clear ag;obtain rfl:=Option.some.inj H;obtain ⟨al,ah,aJ⟩:=Kd.R_slice a6.out;subst aJ;have q20:((a3):Int)≤((a2.length:Int):Int):=oda;obtain ⟨i020,hi020,_,hsz20,_⟩:=info_parts info5;have hroom20:a2.length≤ah:=(Kd.R_reads' a6.out).2.1;have hC20:Kd.C (Kd.int .u8) _ al a2.length a2:=(Kd.R_reads' a6.out).2.2;have aK:(0:Int)≤((a3):Int):=oda;have hcut20:=cut_from (P:=Tryd.prog) 25 5 .i64 Tryd.underlying25 hi020 1 hsz20 al a2.length ah (a3) aK q20;have hr20:=Kd.C_drop (m:=((a3):Int).toNat) (c:=ah) hC20 (by omega) hroom20
           obtain ⟨A20,hA20⟩:∃ A1,A1=(if ah=((a3):Int).toNat then al else (al:Option Addr).map (·.add (((a3):Int).toNat*1))):=⟨_,rfl⟩
           obtain ⟨c20,hc20⟩:∃ c1,c1=ah - ((a3):Int).toNat:=⟨_,rfl⟩
           have am:ab.length=a2.length - ((a3):Int).toNat:=(by rw [ay.out,List.length_drop] <;> omega)
           rw [show (a2).drop ((a3):Int).toNat=ab from ay.out.symm] at hr20
           replace hr20:Kd.C (Kd.int .u8) _ A20 ab.length ab:=(by rw [hA20];exact hr20)
           rw [←am,←hA20,←hc20] at hcut20
           have az:=Aside0.mk hr20;have HC427:=Aside0.mk (show ab.length≤c20 from by rw [am,hc20];exact Nat.sub_le_sub_right hroom20 _);clear hr20 hC20 hroom20 hi020 hsz20 hc20;have KY20:=Aside0.mk am;have KA20:=Aside0.mk hA20;clear am hA20;have KL20:=Aside0.mk (show ((a3):Int).toNat≤a2.length from by omega);replace q20:=eq_true q20;have hcv22:=Kd.C_string (P:=Tryd.prog) (A:=A20) (c:=c20) Tryd.underlying25 Tryd.underlying5 Tryd.underlying9 (by repeat (first|(with_reducible exact az.out)|(with_reducible refine Kd.C_alloc ?_ _)|(with_reducible refine Kd.C_drewN ?_ _)|(with_reducible refine Kd.C_drew ?_)|exact az.out))
           go_wp2
           go_ret
           exact ⟨by first|rfl|(simp [errW_none,errW_some] <;> rfl)|(simp only [←ak];first|rfl|(simp [errW_none,errW_some] <;> rfl))|(simp [*,errW_none,errW_some] <;> rfl),be HB.out⟩
          ·rw [if_neg af] at H
           exact absurd H (by simp)
         ·rw [if_neg ae] at H
          exact absurd H (by simp)
     ·rw [if_neg c8] at H
      exact absurd H (by simp)
 ·replace c4:=Bool.eq_false_iff.mpr c4;subst c4
  have H1:(some (⟨#[]⟩:ByteArray))=some r:=by rw [if_neg (show ¬(false=true) by decide)] at H;exact H
  clear H;have H:=H1;clear H1;obtain rfl:=Option.some.inj H
  go_enter Tryd.func49,Tryd.ntmps49
  go_wp2_with (first|((with_reducible refine gc 47 rfl ?_);refine gl (some 10) _ (#[.int .i64 a1,.int .i64 1,.int .i64 8]) Tryd.func47 ?_;(with_reducible refine (impl_in.calls a1 1 8 false _ A3.out).mono ?_);rintro e w' ⟨rfl,⟨nd,rfl⟩⟩;refine ⟨_,rfl,?_⟩))
  go_ret
  exact ⟨Ye2,be HB.out⟩

end Go.Proofs.YtkmfnmeilooogaaDoor.P


namespace Go.Proofs.YtkmfnmeilooogaaDoor.P
open Go.RowKit Go.Proofs.YtkmfnmeilooogaaDoorW.PrintWords Go.Proofs.YtkmfnmeilooogaaDoorW.PrintLast Go.Proofs.YtkmfnmeilooogaaDoorW.PrintMore
attribute [local go_sem] max2_int min2_int max_two min_two max_three min_three max_four min_four
set_option linter.unusedVariables false
set_option linter.unusedSimpArgs false

mutual
def impl_goodPart.j0:Nat→ByteArray→Bool→Bool→Option (Bool)
 | 0,_,_,_=>none
 | k+1,x0,x1,x18=>if x18=true then (some false) else (impl_goodPart.l0 k x0 x1 0)
def impl_goodPart.l0:Nat→ByteArray→Bool→Int→Option (Bool)
 | 0,_,_,_=>none
 | k+1,x0,x1,x5=>if x5<(x0.size:Int) then (if 0≤x5 then (if (bt x0 x5)<33 then (some false) else (if (bt x0 x5)>126 then (some false) else (if (bt x0 x5)=34 then (some false) else (if (bt x0 x5)=47 then (some false) else (if x1=true then (impl_goodPart.l0 k x0 x1 (wrap64 (x5+1))) else (if (bt x0 x5)=42 then (some false) else (if (bt x0 x5)=63 then (some false) else (impl_goodPart.l0 k x0 x1 (wrap64 (x5+1)))))))))) else (none)) else (some true)
end
def impl_goodPart.f (k:Nat) (a0:ByteArray) (a1:Bool):Option (Bool):=(impl_in.f (a0.size:Int) 1 20).bind fun a8=>(if a8=true then (if a0.toList=([46]:List UInt8) then (impl_goodPart.j0 k a0 a1 true) else (impl_goodPart.j0 k a0 a1 (a0.toList==([46,46]:List UInt8)))) else (impl_goodPart.j0 k a0 a1 true))
theorem impl_goodPart.mono_l:∀ k,(∀ y0 y1 y2,LeO (impl_goodPart.j0 k y0 y1 y2) (impl_goodPart.j0 (k+1) y0 y1 y2))∧(∀ y0 y1 y2,LeO (impl_goodPart.l0 k y0 y1 y2) (impl_goodPart.l0 (k+1) y0 y1 y2))
 | 0=>⟨fun _ _ _ r h=>by simp [impl_goodPart.j0] at h,fun _ _ _ r h=>by simp [impl_goodPart.l0] at h⟩
 | k + 1 => by
  obtain ⟨ih0,ih1⟩:=impl_goodPart.mono_l k;refine ⟨?_,?_⟩
  ·intro y0 y1 y2
   unfold impl_goodPart.j0
   repeat' first
   | (with_reducible exact ih0 _ _ _)
   | (with_reducible exact ih1 _ _ _)
   | (with_reducible exact LeO.refl _)
   | (with_reducible exact LeO.none _)
   | (with_reducible refine LeO.ite ?_ ?_)
   | (with_reducible refine LeO.bind ?_ (fun _ => ?_))
   | exact ih0 _ _ _
   | exact ih1 _ _ _
   | exact LeO.none _
   | refine LeO.ite ?_ ?_
   | refine LeO.bind ?_ (fun _ => ?_)
  ·intro y0 y1 y2
   unfold impl_goodPart.l0
   repeat' first
   | (with_reducible exact ih0 _ _ _)
   | (with_reducible exact ih1 _ _ _)
   | (with_reducible exact LeO.refl _)
   | (with_reducible exact LeO.none _)
   | (with_reducible refine LeO.ite ?_ ?_)
   | (with_reducible refine LeO.bind ?_ (fun _ => ?_))
   | exact ih0 _ _ _
   | exact ih1 _ _ _
   | exact LeO.none _
   | refine LeO.ite ?_ ?_
   | refine LeO.bind ?_ (fun _ => ?_)
theorem impl_goodPart.mono:∀ a0 a1 k,LeO (impl_goodPart.f k a0 a1) (impl_goodPart.f (k+1) a0 a1):=by
 intro a0 a1 k;obtain ⟨ih0,ih1⟩:=impl_goodPart.mono_l k
 unfold impl_goodPart.f
 repeat' first
   | (with_reducible exact ih0 _ _ _)
   | (with_reducible exact ih1 _ _ _)
   | (with_reducible exact LeO.refl _)
   | (with_reducible exact LeO.none _)
   | (with_reducible refine LeO.ite ?_ ?_)
   | (with_reducible refine LeO.bind ?_ (fun _ => ?_))
   | exact ih0 _ _ _
   | exact ih1 _ _ _
   | exact LeO.none _
   | refine LeO.ite ?_ ?_
   | refine LeO.bind ?_ (fun _ => ?_)
set_option maxHeartbeats 8000000 in
set_option maxRecDepth 100000 in
theorem impl_goodPart.calls (k : Nat) (a0 : ByteArray) (a1 : Bool) (r : Bool) (w : World) (h : impl_goodPart.f k a0 a1 = some r) :
  Calls Tryd.prog 74 #[.string a0,.bool a1] w fun e w'=>e = .returned (.bool r)∧Drawn0 w w':=by
 have H:((impl_in.f (a0.size:Int) 1 20).bind fun a8=>(if a8=true then (if a0.toList=([46]:List UInt8) then (impl_goodPart.j0 k a0 a1 true) else (impl_goodPart.j0 k a0 a1 (a0.toList==([46,46]:List UInt8)))) else (impl_goodPart.j0 k a0 a1 true)))=some r:=h;clear h;have ad:=Aside0.mk H;clear H
 go_enter Tryd.func74,Tryd.ntmps74
 go_upto_region 1 with (fail)
 go_cut [18] (fun v18 wc => ∃ (kq:Nat) (ab:Bool),v18 = .bool ab∧Aside0 (impl_goodPart.j0 kq a0 a1 ab=some r)∧Aside0 (kq≤k)∧Drawn0 w wc)
 case first =>
  have H:=ad.out;clear ad;replace H:=Option.bind_eq_some_iff.mp H;obtain ⟨a8,A40,H⟩:=H;replace H:(if a8=true then (if a0.toList=([46]:List UInt8) then (impl_goodPart.j0 k a0 a1 true) else (impl_goodPart.j0 k a0 a1 (a0.toList==([46,46]:List UInt8)))) else (impl_goodPart.j0 k a0 a1 true))=some r:=H;have A4:=Aside0.mk A40;clear A40
  by_cases c5:a8=true
  ·subst c5
   have H1:(if a0.toList=([46]:List UInt8) then (impl_goodPart.j0 k a0 a1 true) else (impl_goodPart.j0 k a0 a1 (a0.toList==([46,46]:List UInt8))))=some r:=by rw [if_pos rfl] at H;exact H
   clear H;have H:=H1;clear H1
   by_cases c6:a0.toList=([46]:List UInt8)
   ·rw [if_pos c6] at H
    have a3:(a0.toList==([46]:List UInt8))=true:=beq_iff_eq.mpr c6;have ae:(a0.toList != ([46]:List UInt8))=false:=bne_eq_false_iff_eq.mpr c6;clear c6;(first|rw [a3]|(simp only [i64_w,i32_w];rw [a3])|skip);have H':=Aside0.mk H;clear H
    go_wp2_with (first|((with_reducible refine gc 47 rfl ?_);refine gl (some 9) _ (#[.int .i64 (a0.size:Int),.int .i64 1,.int .i64 20]) Tryd.func47 ?_;(with_reducible refine (impl_in.calls (a0.size:Int) 1 20 true _ A4.out).mono ?_);rintro e w' ⟨rfl,⟨nd,rfl⟩⟩;refine ⟨_,rfl,?_⟩))
    go_meet
    case rel=>exact ⟨_,(true),Ye1,H',⟨by first|omega|exact Nat.le_refl _⟩,dz⟩
   ·rw [if_neg c6] at H
    have a3:(a0.toList==([46]:List UInt8))=false:=beq_eq_false_iff_ne.mpr c6;have ae:(a0.toList != ([46]:List UInt8))=true:=bne_iff_ne.mpr c6;(first|rw [a3]|(simp only [i64_w,i32_w];rw [a3])|skip);have H':=Aside0.mk H;clear H
    go_wp2_with (first|((with_reducible refine gc 47 rfl ?_);refine gl (some 9) _ (#[.int .i64 (a0.size:Int),.int .i64 1,.int .i64 20]) Tryd.func47 ?_;(with_reducible refine (impl_in.calls (a0.size:Int) 1 20 true _ A4.out).mono ?_);rintro e w' ⟨rfl,⟨nd,rfl⟩⟩;refine ⟨_,rfl,?_⟩))
    go_meet
    case rel=>exact ⟨_,((a0.toList==([46,46]:List UInt8))),Ye1,H',⟨by first|omega|exact Nat.le_refl _⟩,dz⟩
  ·replace c5:=Bool.eq_false_iff.mpr c5;subst c5
   have H1:(impl_goodPart.j0 k a0 a1 true)=some r:=by rw [if_neg (show ¬(false=true) by decide)] at H;exact H
   clear H;have H:=H1;clear H1;have H':=Aside0.mk H;clear H
   go_wp2_with (first|((with_reducible refine gc 47 rfl ?_);refine gl (some 9) _ (#[.int .i64 (a0.size:Int),.int .i64 1,.int .i64 20]) Tryd.func47 ?_;(with_reducible refine (impl_in.calls (a0.size:Int) 1 20 false _ A4.out).mono ?_);rintro e w' ⟨rfl,⟨nd,rfl⟩⟩;refine ⟨_,rfl,?_⟩))
   go_meet
   case rel=>exact ⟨_,(true),Ye1,H',⟨by first|omega|exact Nat.le_refl _⟩,dz⟩
 case rest =>
  clear ad;(try clear p2);(try clear c4);(try clear c5);(try clear c6);(try clear a3);(try clear ae);obtain ⟨kq,ab,rfl,HA,HJ2,⟨mc2,rfl⟩⟩:=hcut
  cases kq with
  | zero=>exact absurd HA.out (by simp [impl_goodPart.j0])
  | succ af =>
   have H:=HA.out;clear HA;simp only [impl_goodPart.j0] at H
   by_cases c7:ab=true
   ·subst c7
    have H1:(some false)=some r:=by rw [if_pos rfl] at H;exact H
    clear H;have H:=H1;clear H1;obtain rfl:=Option.some.inj H
    go_wp2
    go_ret
    exact ⟨Ye1,dz⟩
   ·replace c7 := Bool.eq_false_iff.mpr c7; subst c7
    have H1:(impl_goodPart.l0 af a0 a1 0)=some r:=by rw [if_neg (show ¬(false=true) by decide)] at H;exact H
    clear H;have H:=H1;clear H1;have H':=Aside0.mk H;clear H
    go_wp2
    go_loopg [5] af (fun kq v5 w' => ∃ (a2:Int),v5 = .int .i64 a2∧Aside0 (impl_goodPart.l0 kq a0 a1 a2=some r)∧Aside0 (kq≤af)∧Drawn0 w w')
    case atStart=>exact ⟨(0),Ye1,H',⟨Nat.le_refl _⟩,dz⟩
    case round =>
     clear H';(try clear c2);(try clear p2);(try clear c4);(try clear c5);(try clear c6);(try clear a3);(try clear ae);(try clear c7);(try clear p2);obtain ⟨a2,rfl,HA,HK2,⟨m2,rfl⟩⟩:=hrel
     cases gk with
     | zero=>exact absurd HA.out (by simp [impl_goodPart.l0])
     | succ k2 =>
      have H:=HA.out;clear HA;simp only [impl_goodPart.l0] at H
      by_cases c8:a2<(a0.size:Int)
      ·rw [if_pos c8] at H
       have ag:decide (a2<(a0.size:Int))=true:=decide_eq_true c8;clear c8
       by_cases c9:0≤a2
       ·rw [if_pos c9] at H
        have c9b0:decide (0≤a2)=true:=decide_eq_true c9;clear c9
        by_cases a9:(bt a0 a2)<33
        ·rw [if_pos a9] at H
         have ah:decide ((bt a0 a2)<33)=true:=decide_eq_true a9;clear a9;obtain rfl:=Option.some.inj H;have p10:0≤(a2:Int):=oda;have q10:a2<(a0.size:Int):=oda;have hx10:=bt_at a0 a2;replace p10:=eq_true p10;replace q10:=eq_true q10
         go_wp2
         go_ret
         exact ⟨Ye1,dz⟩
        ·rw [if_neg a9] at H
         have ah:decide ((bt a0 a2)<33)=false:=decide_eq_false a9;clear a9
         by_cases aa:(bt a0 a2)>126
         ·rw [if_pos aa] at H
          have ai:decide (126<(bt a0 a2))=true:=decide_eq_true aa;clear aa;obtain rfl:=Option.some.inj H;have p10:0≤(a2:Int):=oda;have q10:a2<(a0.size:Int):=oda;have hx10:=bt_at a0 a2;replace p10:=eq_true p10;replace q10:=eq_true q10
          go_wp2
          go_ret
          exact ⟨Ye1,dz⟩
         ·rw [if_neg aa] at H
          have ai:decide (126<(bt a0 a2))=false:=decide_eq_false aa;clear aa
          by_cases a4:(bt a0 a2)=34
          ·rw [if_pos a4] at H
           have aj:((bt a0 a2)==34)=true:=beq_iff_eq.mpr a4;have ak:((bt a0 a2) != 34)=false:=bne_eq_false_iff_eq.mpr a4;clear a4;obtain rfl:=Option.some.inj H;have p10:0≤(a2:Int):=oda;have q10:a2<(a0.size:Int):=oda;have hx10:=bt_at a0 a2;replace p10:=eq_true p10;replace q10:=eq_true q10
           go_wp2
           go_ret
           exact ⟨Ye1,dz⟩
          ·rw [if_neg a4] at H
           have aj:((bt a0 a2)==34)=false:=beq_eq_false_iff_ne.mpr a4;have ak:((bt a0 a2) != 34)=true:=bne_iff_ne.mpr a4
           by_cases a5:(bt a0 a2)=47
           ·rw [if_pos a5] at H
            have al:((bt a0 a2)==47)=true:=beq_iff_eq.mpr a5;have am:((bt a0 a2) != 47)=false:=bne_eq_false_iff_eq.mpr a5;clear a5;obtain rfl:=Option.some.inj H;have p10:0≤(a2:Int):=oda;have q10:a2<(a0.size:Int):=oda;have hx10:=bt_at a0 a2;replace p10:=eq_true p10;replace q10:=eq_true q10
            go_wp2
            go_ret
            exact ⟨Ye1,dz⟩
           ·rw [if_neg a5] at H
            have al:((bt a0 a2)==47)=false:=beq_eq_false_iff_ne.mpr a5;have am:((bt a0 a2) != 47)=true:=bne_iff_ne.mpr a5
            by_cases ac:a1=true
            ·subst ac
             have H1:(impl_goodPart.l0 k2 a0 true (wrap64 (a2+1)))=some r:=by rw [if_pos rfl] at H;exact H
             clear H;have H:=H1;clear H1;have H':=Aside0.mk H;clear H;have p10:0≤(a2:Int):=oda;have q10:a2<(a0.size:Int):=oda;have hx10:=bt_at a0 a2;replace p10:=eq_true p10;replace q10:=eq_true q10
             go_wp2
             go_roundg k2
             case measure=>have:=HJ2.out;have:=HK2.out;omega
             case rel=>exact ⟨(wrap64 (a2+1)),Ye1,H',⟨by have:=HJ2.out;have:=HK2.out;omega⟩,dz⟩
            ·replace ac:=Bool.eq_false_iff.mpr ac;subst ac
             have H1:(if (bt a0 a2)=42 then (some false) else (if (bt a0 a2)=63 then (some false) else (impl_goodPart.l0 k2 a0 false (wrap64 (a2+1)))))=some r:=by rw [if_neg (show ¬(false=true) by decide)] at H;exact H
             clear H;have H:=H1;clear H1
             by_cases a6:(bt a0 a2)=42
             ·rw [if_pos a6] at H
              have an:((bt a0 a2)==42)=true:=beq_iff_eq.mpr a6;have ao:((bt a0 a2) != 42)=false:=bne_eq_false_iff_eq.mpr a6;clear a6;obtain rfl:=Option.some.inj H;have p10:0≤(a2:Int):=oda;have q10:a2<(a0.size:Int):=oda;have hx10:=bt_at a0 a2;replace p10:=eq_true p10;replace q10:=eq_true q10
              go_wp2
              go_ret
              exact ⟨Ye1,dz⟩
             ·rw [if_neg a6] at H
              have an:((bt a0 a2)==42)=false:=beq_eq_false_iff_ne.mpr a6;have ao:((bt a0 a2) != 42)=true:=bne_iff_ne.mpr a6
              by_cases a7:(bt a0 a2)=63
              ·rw [if_pos a7] at H
               have ap:((bt a0 a2)==63)=true:=beq_iff_eq.mpr a7;have aq:((bt a0 a2) != 63)=false:=bne_eq_false_iff_eq.mpr a7;clear a7;obtain rfl:=Option.some.inj H;have p10:0≤(a2:Int):=oda;have q10:a2<(a0.size:Int):=oda;have hx10:=bt_at a0 a2;replace p10:=eq_true p10;replace q10:=eq_true q10
               go_wp2
               go_ret
               exact ⟨Ye1,dz⟩
              ·rw [if_neg a7] at H
               have ap:((bt a0 a2)==63)=false:=beq_eq_false_iff_ne.mpr a7;have aq:((bt a0 a2) != 63)=true:=bne_iff_ne.mpr a7;have H':=Aside0.mk H;clear H;have p10:0≤(a2:Int):=oda;have q10:a2<(a0.size:Int):=oda;have hx10:=bt_at a0 a2;replace p10:=eq_true p10;replace q10:=eq_true q10
               go_wp2
               go_roundg k2
               case measure=>have:=HJ2.out;have:=HK2.out;omega
               case rel=>exact ⟨(wrap64 (a2+1)),Ye1,H',⟨by have:=HJ2.out;have:=HK2.out;omega⟩,dz⟩
       ·rw [if_neg c9] at H
        exact absurd H (by simp)
      ·rw [if_neg c8] at H
       have ag:decide (a2<(a0.size:Int))=false:=decide_eq_false c8;clear c8;obtain rfl:=Option.some.inj H
       go_wp2
       go_ret
       exact ⟨Ye1,dz⟩

end Go.Proofs.YtkmfnmeilooogaaDoor.P


namespace Go.Proofs.YtkmfnmeilooogaaDoor.P
open Go.RowKit Go.Proofs.YtkmfnmeilooogaaDoorW.PrintWords Go.Proofs.YtkmfnmeilooogaaDoorW.PrintLast Go.Proofs.YtkmfnmeilooogaaDoorW.PrintMore
attribute [local go_sem] max2_int min2_int max_two min_two max_three min_three max_four min_four
set_option linter.unusedVariables false
set_option linter.unusedSimpArgs false

def strings_Split.f (a0 a1:ByteArray):Option (List ByteArray):=if a0.size<4294967281 then (if 1≤a1.size then some (Go.Lib.splitB a1 0 (Go.Lib.countB a0 a1) a0) else none) else none
theorem strings_Split.calls (a0 a1:ByteArray) (r:List ByteArray) (w:World) (hg:GOK w) (h:strings_Split.f a0 a1=some r) :
  Calls Tryd.prog 50 #[.string a0,.string a1] w fun e w' => ∃ v0_:Value,e = .returned (v0_)∧Kd.R Kd.string 9 w' w.heap.size (fun _=>True) v0_ r∧Below w.heap.size w w':=by
 unfold strings_Split.f at h
 split at h
 ·rename_i hs
  split at h
  ·rename_i h1
   obtain rfl:=Option.some.inj h;obtain ⟨m,hm⟩:=hg;have hle:=Go.Lib.countB_le a1 h1 a0.size a0 (Nat.le_refl _);have hlen:=Go.Lib.splitB_all a1 h1 0 (Go.Lib.countB a0 a1) a0 rfl
   refine (Tryd.strings_Split a0 a1 m w hs hm h1).mono fun e w' ⟨he,hw⟩ => ?_
   subst hw;refine ⟨_,he,?_,below_alloc (Below.refl _ _) _⟩
   rw [←hlen]
   exact Ow.R_new_block Value.string (fun _=>rfl) _ w _ (by rw [hlen];unfold maxLen;omega)
  ·cases h
 ·cases h


end Go.Proofs.YtkmfnmeilooogaaDoor.P


namespace Go.Proofs.YtkmfnmeilooogaaDoor.P
open Go.RowKit Go.Proofs.YtkmfnmeilooogaaDoorW.PrintWords Go.Proofs.YtkmfnmeilooogaaDoorW.PrintLast Go.Proofs.YtkmfnmeilooogaaDoorW.PrintMore
attribute [local go_sem] max2_int min2_int max_two min_two max_three min_three max_four min_four
set_option linter.unusedVariables false
set_option linter.unusedSimpArgs false

def impl_parts.l0:Nat→Bool→List ByteArray→Int→Int→Option (Bool)
 | 0,_,_,_,_=>none
 | k+1,x1,x13,x14,x15=>if x15<x14 then (if 0≤x15 then (if x15<(x13.length:Int) then ((impl_goodPart.f k (rdOf ByteArray.empty x13 x15) x1).bind fun a6=>(if a6=true then (impl_parts.l0 k x1 x13 x14 (wrap64 (x15+1))) else (some false))) else (none)) else (none)) else (some true)
def impl_parts.f (k:Nat) (a0:ByteArray) (a1:Bool):Option (Bool):=(strings_Split.f a0 (⟨#[47]⟩:ByteArray)).bind fun a2=>(if (a2.length:Int)>6 then (some false) else (impl_parts.l0 k a1 a2 (a2.length:Int) 0))
theorem impl_parts.mono_l:∀ k,(∀ y0 y1 y2 y3,LeO (impl_parts.l0 k y0 y1 y2 y3) (impl_parts.l0 (k+1) y0 y1 y2 y3))
 | 0=>fun _ _ _ _ r h=>by simp [impl_parts.l0] at h
 | k + 1 => by
  have ih0:=impl_parts.mono_l k
  ·intro y0 y1 y2 y3
   unfold impl_parts.l0
   repeat' first
   | (with_reducible exact ih0 _ _ _ _)
   | (with_reducible exact impl_goodPart.mono _ _ _)
   | (with_reducible exact LeO.refl _)
   | (with_reducible exact LeO.none _)
   | (with_reducible refine LeO.ite ?_ ?_)
   | (with_reducible refine LeO.bind ?_ (fun _ => ?_))
   | exact ih0 _ _ _ _
   | exact impl_goodPart.mono _ _ _
   | exact LeO.none _
   | refine LeO.ite ?_ ?_
   | refine LeO.bind ?_ (fun _ => ?_)
theorem impl_parts.mono:∀ a0 a1 k,LeO (impl_parts.f k a0 a1) (impl_parts.f (k+1) a0 a1):=by
 intro a0 a1 k;have ih0:=impl_parts.mono_l k
 unfold impl_parts.f
 repeat' first
   | (with_reducible exact ih0 _ _ _ _)
   | (with_reducible exact impl_goodPart.mono _ _ _)
   | (with_reducible exact LeO.refl _)
   | (with_reducible exact LeO.none _)
   | (with_reducible refine LeO.ite ?_ ?_)
   | (with_reducible refine LeO.bind ?_ (fun _ => ?_))
   | exact ih0 _ _ _ _
   | exact impl_goodPart.mono _ _ _
   | exact LeO.none _
   | refine LeO.ite ?_ ?_
   | refine LeO.bind ?_ (fun _ => ?_)
set_option maxHeartbeats 8000000 in
set_option maxRecDepth 100000 in
theorem impl_parts.calls (k : Nat) (a0 : ByteArray) (a1 : Bool) (r : Bool) (w : World) (hg : GOK w) (h : impl_parts.f k a0 a1 = some r) :
  Calls Tryd.prog 72 #[.string a0,.bool a1] w fun e w'=>e = .returned (.bool r)∧Below w.heap.size w w':=by
 have HG:=Aside0.mk hg;clear hg;have HB:=Aside0.mk (Below.refl w.heap.size w);have H:((strings_Split.f a0 (⟨#[47]⟩:ByteArray)).bind fun a2=>(if (a2.length:Int)>6 then (some false) else (impl_parts.l0 k a1 a2 (a2.length:Int) 0)))=some r:=h;clear h;replace H:=Option.bind_eq_some_iff.mp H;obtain ⟨a2,A30,H⟩:=H;replace H:(if (a2.length:Int)>6 then (some false) else (impl_parts.l0 k a1 a2 (a2.length:Int) 0))=some r:=H;have A3:=Aside0.mk A30;clear A30
 by_cases c4:(a2.length:Int)>6
 ·rw [if_pos c4] at H
  have ac:decide (6<(a2.length:Int))=true:=decide_eq_true c4;have ad:decide (6<a2.length)=true:=decide_eq_true (by omega);clear c4;obtain rfl:=Option.some.inj H
  go_enter Tryd.func72,Tryd.ntmps72
  go_wp2_with (first|((with_reducible refine gc 50 rfl ?_);refine gl (some 9) _ (#[.string a0,.string (⟨#[47]⟩:ByteArray)]) Tryd.func50 ?_;(with_reducible refine (strings_Split.calls a0 (⟨#[47]⟩:ByteArray) a2 _ ?sideG A3.out).mono ?_);(case sideG=>exact gk HG.out HB.out);rintro e w5 ⟨af,rfl,ho0,hb⟩;refine ⟨_,rfl,?_⟩;refine Ya2 (Kd.R_lower ho0 (below_size (be HB.out))) (below_step (be HB.out) hb) ?_;clear HB;intro a7 HB;(try clear hb);(try clear hb2);(try clear hk);(try clear hi);(try clear ho0);obtain ⟨Ao6,co6,eo6⟩:=Kd.R_slice a7.out;subst eo6))
  go_ret
  exact ⟨Ye2,be HB.out⟩
 ·rw [if_neg c4] at H
  have ac:decide (6<(a2.length:Int))=false:=decide_eq_false c4;have ad:decide (6<a2.length)=false:=decide_eq_false (by omega);clear c4;have H':=Aside0.mk H;clear H
  go_enter Tryd.func72,Tryd.ntmps72
  go_wp2_with (first|((with_reducible refine gc 50 rfl ?_);refine gl (some 9) _ (#[.string a0,.string (⟨#[47]⟩:ByteArray)]) Tryd.func50 ?_;(with_reducible refine (strings_Split.calls a0 (⟨#[47]⟩:ByteArray) a2 _ ?sideG A3.out).mono ?_);(case sideG=>exact gk HG.out HB.out);rintro e w7 ⟨af,rfl,ho0,hb⟩;refine ⟨_,rfl,?_⟩;refine Ya2 (Kd.R_lower ho0 (below_size (be HB.out))) (below_step (be HB.out) hb) ?_;clear HB;intro a7 HB;(try clear hb);(try clear hb2);(try clear hk);(try clear hi);(try clear ho0);obtain ⟨Ao8,co8,eo8⟩:=Kd.R_slice a7.out;subst eo8))
  go_loopg [15] k (fun kq v15 w' => ∃ (a3:Int),v15 = .int .i64 a3∧Aside0 (impl_parts.l0 kq a1 a2 (a2.length:Int) a3=some r)∧Aside0 (kq≤k)∧Aside0 (Kd.R Kd.string 9 w' w.heap.size (fun _=>True) (.slice Ao8 a2.length co8) a2)∧Aside0 (Below w.heap.size w w'))
  case atStart=>exact ⟨(0),Ye1,H',⟨Nat.le_refl _⟩,⟨kr a7.out⟩,⟨be HB.out⟩⟩
  case round =>
   clear H';(try clear p2);(try clear c4);(try clear ac);(try clear ad);(try clear c5);(try clear c7);obtain ⟨a3,rfl,HA,HK1,aa,HB⟩:=hrel
   cases gk with
   | zero=>exact absurd HA.out (by simp [impl_parts.l0])
   | succ k1 =>
    have H:=HA.out;clear HA;simp only [impl_parts.l0] at H
    by_cases c9:a3<(a2.length:Int)
    ·rw [if_pos c9] at H
     have ag:decide (a3<(a2.length:Int))=true:=decide_eq_true c9;clear c9
     by_cases c10:0≤a3
     ·rw [if_pos c10] at H
      have c10b0:decide (0≤a3)=true:=decide_eq_true c10;clear c10
      by_cases a8:a3<(a2.length:Int)
      ·rw [if_pos a8] at H
       have c11b0:decide (a3<(a2.length:Int))=true:=decide_eq_true a8;clear a8;replace H:=Option.bind_eq_some_iff.mp H;obtain ⟨a6,ae,H⟩:=H;replace H:(if a6=true then (impl_parts.l0 k1 a1 a2 (a2.length:Int) (wrap64 (a3+1))) else (some false))=some r:=H;have A12:=Aside0.mk ae;clear ae
       by_cases a9:a6=true
       ·subst a9
        have H1:(impl_parts.l0 k1 a1 a2 (a2.length:Int) (wrap64 (a3+1)))=some r:=by rw [if_pos rfl] at H;exact H
        clear H;have H:=H1;clear H1;have H':=Aside0.mk H;clear H;have a4:0≤(a3:Int):=oda;have a5:a3<(a2.length:Int):=oda;obtain ⟨ah,ab,ai⟩:=Kd.at_string (Kd.R_reads' aa.out).2.2 a3 a4 a5
        cases ab
        replace a4:=eq_true a4;replace a5:=eq_true a5
        go_wp2_with (first|((with_reducible refine gc 74 rfl ?_);refine gl (some 21) _ (#[.string (rdOf ByteArray.empty a2 a3),.bool a1]) Tryd.func74 ?_;(with_reducible refine (impl_goodPart.calls k1 (rdOf ByteArray.empty a2 a3) a1 true _ A12.out).mono ?_);rintro e w' ⟨rfl,⟨nd,rfl⟩⟩;refine ⟨_,rfl,?_⟩))
        go_roundg k1
        case measure=>have:=HK1.out;omega
        case rel=>exact ⟨(wrap64 (a3+1)),Ye1,H',⟨by have:=HK1.out;omega⟩,⟨kr aa.out⟩,⟨be HB.out⟩⟩
       ·replace a9:=Bool.eq_false_iff.mpr a9;subst a9
        have H1:(some false)=some r:=by rw [if_neg (show ¬(false=true) by decide)] at H;exact H
        clear H;have H:=H1;clear H1;obtain rfl:=Option.some.inj H;have a4:0≤(a3:Int):=oda;have a5:a3<(a2.length:Int):=oda;obtain ⟨ah,ab,ai⟩:=Kd.at_string (Kd.R_reads' aa.out).2.2 a3 a4 a5
        cases ab
        replace a4:=eq_true a4;replace a5:=eq_true a5
        go_wp2_with (first|((with_reducible refine gc 74 rfl ?_);refine gl (some 21) _ (#[.string (rdOf ByteArray.empty a2 a3),.bool a1]) Tryd.func74 ?_;(with_reducible refine (impl_goodPart.calls k1 (rdOf ByteArray.empty a2 a3) a1 false _ A12.out).mono ?_);rintro e w' ⟨rfl,⟨nd,rfl⟩⟩;refine ⟨_,rfl,?_⟩))
        go_ret
        exact ⟨Ye2,be HB.out⟩
      ·rw [if_neg a8] at H
       exact absurd H (by simp)
     ·rw [if_neg c10] at H
      exact absurd H (by simp)
    ·rw [if_neg c9] at H
     have ag:decide (a3<(a2.length:Int))=false:=decide_eq_false c9;clear c9;obtain rfl:=Option.some.inj H
     go_wp2
     go_ret
     exact ⟨Ye2,be HB.out⟩

end Go.Proofs.YtkmfnmeilooogaaDoor.P


namespace Go.Proofs.YtkmfnmeilooogaaDoor.P
open Go.RowKit Go.Proofs.YtkmfnmeilooogaaDoorW.PrintWords Go.Proofs.YtkmfnmeilooogaaDoorW.PrintLast Go.Proofs.YtkmfnmeilooogaaDoorW.PrintMore
attribute [local go_sem] max2_int min2_int max_two min_two max_three min_three max_four min_four
set_option linter.unusedVariables false
set_option linter.unusedSimpArgs false

def impl_ValidPath.f (k:Nat) (a0:ByteArray):Option (Bool):=(impl_parts.f k a0 false).bind fun a1=>(some a1)
theorem impl_ValidPath.mono:∀ a0 k,LeO (impl_ValidPath.f k a0) (impl_ValidPath.f (k+1) a0):=by
 intro a0 k
 unfold impl_ValidPath.f
 repeat' first
   | (with_reducible exact impl_parts.mono _ _ _)
   | (with_reducible exact LeO.refl _)
   | (with_reducible exact LeO.none _)
   | (with_reducible refine LeO.ite ?_ ?_)
   | (with_reducible refine LeO.bind ?_ (fun _ => ?_))
   | exact impl_parts.mono _ _ _
   | exact LeO.none _
   | refine LeO.ite ?_ ?_
   | refine LeO.bind ?_ (fun _ => ?_)
set_option maxHeartbeats 8000000 in
set_option maxRecDepth 100000 in
theorem impl_ValidPath.calls (k:Nat) (a0:ByteArray) (r:Bool) (w:World) (hg:GOK w) (h:impl_ValidPath.f k a0=some r) :
  Calls Tryd.prog 46 #[.string a0] w fun e w'=>e = .returned (.bool r)∧Below w.heap.size w w':=by
 have HG:=Aside0.mk hg;clear hg;have HB:=Aside0.mk (Below.refl w.heap.size w);have H:((impl_parts.f k a0 false).bind fun a1=>(some a1))=some r:=h;clear h;replace H:=Option.bind_eq_some_iff.mp H;obtain ⟨a1,A20,H⟩:=H;replace H:(some a1)=some r:=H;have A2:=Aside0.mk A20;clear A20;obtain rfl:=Option.some.inj H
 go_enter Tryd.func46,Tryd.ntmps46
 go_wp2_with (first|((with_reducible refine gc 72 rfl ?_);refine gl (some 4) _ (#[.string a0,.bool false]) Tryd.func72 ?_;(with_reducible refine (impl_parts.calls k a0 false a1 _ ?sideG A2.out).mono ?_);(case sideG=>exact gk HG.out HB.out);rintro e w3 ⟨rfl,hb⟩;refine ⟨_,rfl,?_⟩;refine Ya1 (below_step (be HB.out) hb) ?_;clear HB;intro HB;(try clear hb);(try clear hb2);(try clear hk);(try clear hi)))
 go_ret
 exact ⟨Ye2,be HB.out⟩

end Go.Proofs.YtkmfnmeilooogaaDoor.P


namespace Go.Proofs.YtkmfnmeilooogaaDoor.P
open Go.RowKit Go.Proofs.YtkmfnmeilooogaaDoorW.PrintWords Go.Proofs.YtkmfnmeilooogaaDoorW.PrintLast Go.Proofs.YtkmfnmeilooogaaDoorW.PrintMore
attribute [local go_sem] max2_int min2_int max_two min_two max_three min_three max_four min_four
set_option linter.unusedVariables false
set_option linter.unusedSimpArgs false

def impl_goodEntry.f (k:Nat) (a0_0:ByteArray) (a0_1:ByteArray) (a0_2:Bool):Option (Bool):=(impl_ValidPath.f k a0_0).bind fun a4=>(if a4=true then (some (decide ((a0_1.size:Int)≤1500))) else (some false))
theorem impl_goodEntry.mono:∀ a0 a1 a2 k,LeO (impl_goodEntry.f k a0 a1 a2) (impl_goodEntry.f (k+1) a0 a1 a2):=by
 intro a0 a1 a2 k
 unfold impl_goodEntry.f
 repeat' first
   | (with_reducible exact impl_ValidPath.mono _ _)
   | (with_reducible exact LeO.refl _)
   | (with_reducible exact LeO.none _)
   | (with_reducible refine LeO.ite ?_ ?_)
   | (with_reducible refine LeO.bind ?_ (fun _ => ?_))
   | exact impl_ValidPath.mono _ _
   | exact LeO.none _
   | refine LeO.ite ?_ ?_
   | refine LeO.bind ?_ (fun _ => ?_)
set_option maxHeartbeats 8000000 in
set_option maxRecDepth 100000 in
theorem impl_goodEntry.calls (k:Nat) (a0_0:ByteArray) (a0_1:ByteArray) (a0_2:Bool) (r:Bool) (w:World) (hg:GOK w) (h:impl_goodEntry.f k a0_0 a0_1 a0_2=some r) :
  Calls Tryd.prog 83 #[.agg #[.string a0_0,.string a0_1,.bool a0_2]] w fun e w'=>e = .returned (.bool r)∧Below w.heap.size w w':=by
 have HG:=Aside0.mk hg;clear hg;have hu34:=Tryd.underlying34;have HB:=Aside0.mk (Below.refl w.heap.size w);have H:((impl_ValidPath.f k a0_0).bind fun a4=>(if a4=true then (some (decide ((a0_1.size:Int)≤1500))) else (some false)))=some r:=h;clear h;replace H:=Option.bind_eq_some_iff.mp H;obtain ⟨a4,A20,H⟩:=H;replace H:(if a4=true then (some (decide ((a0_1.size:Int)≤1500))) else (some false))=some r:=H;have A2:=Aside0.mk A20;clear A20
 by_cases c3:a4=true
 ·subst c3
  have H1:(some (decide ((a0_1.size:Int)≤1500)))=some r:=by rw [if_pos rfl] at H;exact H
  clear H;have H:=H1;clear H1;obtain rfl:=Option.some.inj H
  go_enter Tryd.func83,Tryd.ntmps83
  go_wp2_with (first|((with_reducible refine gd 1 rfl ?_);(try (refine gate_guard (by rfl) ?_;dsimp only));refine bx 1 34 (#[.string a0_0,.string a0_1,.bool a0_2]) ?_;intro a5 hg w4 hbox hb;refine Ya4 (below_step (be HB.out) hb) (hbox) (bs hg (be HB.out)) (bs hg (be HB.out)) ?_;clear HB;intro HB a3 a6 a7;clear hb hbox hg;have ⟨a8,a9,aa,ab,ac,ad⟩:=Yc3 a3.out)|((with_reducible refine gc 46 rfl ?_);refine gl (some 5) _ (#[.string a0_0]) Tryd.func46 ?_;(with_reducible refine (impl_ValidPath.calls k a0_0 true _ ?sideG A2.out).mono ?_);(case sideG=>exact gf HG.out HB.out);rintro e w6 ⟨rfl,hb⟩;refine ⟨_,rfl,?_⟩;refine Ya2 (bb a3 hb) (below_step (bf HB.out) hb) ?_;clear a3 HB;intro a3 HB;(try clear hb);(try clear hb2);(try clear hk);(try clear hi);have ⟨ae,af,ag,ah,ai,aj⟩:=Yc3 a3.out))
  go_ret
  exact ⟨Ye2,(bf HB.out)⟩
 ·replace c3:=Bool.eq_false_iff.mpr c3;subst c3
  have H1:(some false)=some r:=by rw [if_neg (show ¬(false=true) by decide)] at H;exact H
  clear H;have H:=H1;clear H1;obtain rfl:=Option.some.inj H
  go_enter Tryd.func83,Tryd.ntmps83
  go_wp2_with (first|((with_reducible refine gd 1 rfl ?_);(try (refine gate_guard (by rfl) ?_;dsimp only));refine bx 1 34 (#[.string a0_0,.string a0_1,.bool a0_2]) ?_;intro a5 hg w8 hbox hb;refine Ya4 (below_step (be HB.out) hb) (hbox) (bs hg (be HB.out)) (bs hg (be HB.out)) ?_;clear HB;intro HB a3 a6 a7;clear hb hbox hg;have ⟨ak,al,am,an,ao,ap⟩:=Yc3 a3.out)|((with_reducible refine gc 46 rfl ?_);refine gl (some 5) _ (#[.string a0_0]) Tryd.func46 ?_;(with_reducible refine (impl_ValidPath.calls k a0_0 false _ ?sideG A2.out).mono ?_);(case sideG=>exact gf HG.out HB.out);rintro e w10 ⟨rfl,hb⟩;refine ⟨_,rfl,?_⟩;refine Ya2 (bb a3 hb) (below_step (bf HB.out) hb) ?_;clear a3 HB;intro a3 HB;(try clear hb);(try clear hb2);(try clear hk);(try clear hi)))
  go_ret
  exact ⟨Ye2,(bf HB.out)⟩

end Go.Proofs.YtkmfnmeilooogaaDoor.P


namespace Go.Proofs.YtkmfnmeilooogaaDoor.P
open Go.RowKit Go.Proofs.YtkmfnmeilooogaaDoorW.PrintWords Go.Proofs.YtkmfnmeilooogaaDoorW.PrintLast Go.Proofs.YtkmfnmeilooogaaDoorW.PrintMore
attribute [local go_sem] max2_int min2_int max_two min_two max_three min_three max_four min_four
set_option linter.unusedVariables false
set_option linter.unusedSimpArgs false

mutual
def impl_ValidTree.l0:Nat→List (S34)→Int→Int→List (S34)→Option (Bool)
 | 0,_,_,_,_=>none
 | k+1,x11,x12,x13,aa=>if x13<x12 then (if 0≤x13 then (if x13<(x11.length:Int) then ((impl_goodEntry.f k ((rd_T34 x11 x13).f0) ((rd_T34 x11 x13).f1) ((rd_T34 x11 x13).f2)).bind fun aD=>(if aD=true then (if x13>0 then (if 0≤(wrap64 (x13 - 1)) then (if (wrap64 (x13 - 1))<(aa.length:Int) then (impl_ValidTree.j1 k x13 x11 x12 x13 (!(Op.bytesLess (((rd_T34 aa (wrap64 (x13 - 1))).f0).toList) (((rd_T34 x11 x13).f0).toList))) aa ((rd_T34 x11 x13).f0) ((rd_T34 x11 x13).f1) ((rd_T34 x11 x13).f2)) else (none)) else (none)) else (impl_ValidTree.j1 k x13 x11 x12 x13 false aa ((rd_T34 x11 x13).f0) ((rd_T34 x11 x13).f1) ((rd_T34 x11 x13).f2))) else (impl_ValidTree.j1 k x13 x11 x12 x13 true aa ((rd_T34 x11 x13).f0) ((rd_T34 x11 x13).f1) ((rd_T34 x11 x13).f2)))) else (none)) else (none)) else (some true)
def impl_ValidTree.j1:Nat→Int→List (S34)→Int→Int→Bool→List (S34)→ByteArray→ByteArray→Bool→Option (Bool)
 | 0,_,_,_,_,_,_,_,_,_=>none
 | k+1,x3,x11,x12,x13,x36,aa,aE,aN,aO=>if x36=true then (some false) else (impl_ValidTree.l1 k x3 0 x11 x12 x13 aa aE aN aO)
def impl_ValidTree.l1:Nat→Int→Int→List (S34)→Int→Int→List (S34)→ByteArray→ByteArray→Bool→Option (Bool)
 | 0,_,_,_,_,_,_,_,_,_=>none
 | k+1,x3,x5,x11,x12,x13,aa,aE,aN,aO=>if x5<x3 then (if 0≤x5 then (if x5<(aa.length:Int) then ((impl_over.f ((rd_T34 aa x5).f0) aE).bind fun aF=>(if aF=true then (some false) else (impl_ValidTree.l1 k x3 (wrap64 (x5+1)) x11 x12 x13 aa aE aN aO))) else (none)) else (none)) else (impl_ValidTree.l0 k x11 x12 (wrap64 (x13+1)) aa)
end
def impl_ValidTree.f (k:Nat) (a1:List (S34)):Option (Bool):=if (a1.length:Int)>100 then (some false) else (impl_ValidTree.l0 k a1 (a1.length:Int) 0 a1)
theorem impl_ValidTree.mono_l:∀ k,(∀ y0 y1 y2 y3,LeO (impl_ValidTree.l0 k y0 y1 y2 y3) (impl_ValidTree.l0 (k+1) y0 y1 y2 y3))∧(∀ y0 y1 y2 y3 y4 y5 y6 y7 y8,LeO (impl_ValidTree.j1 k y0 y1 y2 y3 y4 y5 y6 y7 y8) (impl_ValidTree.j1 (k+1) y0 y1 y2 y3 y4 y5 y6 y7 y8))∧(∀ y0 y1 y2 y3 y4 y5 y6 y7 y8,LeO (impl_ValidTree.l1 k y0 y1 y2 y3 y4 y5 y6 y7 y8) (impl_ValidTree.l1 (k+1) y0 y1 y2 y3 y4 y5 y6 y7 y8))
 | 0=>⟨fun _ _ _ _ r h=>by simp [impl_ValidTree.l0] at h,fun _ _ _ _ _ _ _ _ _ r h=>by simp [impl_ValidTree.j1] at h,fun _ _ _ _ _ _ _ _ _ r h=>by simp [impl_ValidTree.l1] at h⟩
 | k + 1 => by
  obtain ⟨ih0,ih1,ih2⟩:=impl_ValidTree.mono_l k;refine ⟨?_,?_,?_⟩
  ·intro y0 y1 y2 y3
   unfold impl_ValidTree.l0
   repeat' first
   | (with_reducible exact ih0 _ _ _ _)
   | (with_reducible exact ih1 _ _ _ _ _ _ _ _ _)
   | (with_reducible exact ih2 _ _ _ _ _ _ _ _ _)
   | (with_reducible exact impl_goodEntry.mono _ _ _ _)
   | (with_reducible exact LeO.refl _)
   | (with_reducible exact LeO.none _)
   | (with_reducible refine LeO.ite ?_ ?_)
   | (with_reducible refine LeO.bind ?_ (fun _ => ?_))
   | exact ih0 _ _ _ _
   | exact ih1 _ _ _ _ _ _ _ _ _
   | exact ih2 _ _ _ _ _ _ _ _ _
   | exact impl_goodEntry.mono _ _ _ _
   | exact LeO.none _
   | refine LeO.ite ?_ ?_
   | refine LeO.bind ?_ (fun _ => ?_)
  ·intro y0 y1 y2 y3 y4 y5 y6 y7 y8
   unfold impl_ValidTree.j1
   repeat' first
   | (with_reducible exact ih0 _ _ _ _)
   | (with_reducible exact ih1 _ _ _ _ _ _ _ _ _)
   | (with_reducible exact ih2 _ _ _ _ _ _ _ _ _)
   | (with_reducible exact impl_goodEntry.mono _ _ _ _)
   | (with_reducible exact LeO.refl _)
   | (with_reducible exact LeO.none _)
   | (with_reducible refine LeO.ite ?_ ?_)
   | (with_reducible refine LeO.bind ?_ (fun _ => ?_))
   | exact ih0 _ _ _ _
   | exact ih1 _ _ _ _ _ _ _ _ _
   | exact ih2 _ _ _ _ _ _ _ _ _
   | exact impl_goodEntry.mono _ _ _ _
   | exact LeO.none _
   | refine LeO.ite ?_ ?_
   | refine LeO.bind ?_ (fun _ => ?_)
  ·intro y0 y1 y2 y3 y4 y5 y6 y7 y8
   unfold impl_ValidTree.l1
   repeat' first
   | (with_reducible exact ih0 _ _ _ _)
   | (with_reducible exact ih1 _ _ _ _ _ _ _ _ _)
   | (with_reducible exact ih2 _ _ _ _ _ _ _ _ _)
   | (with_reducible exact impl_goodEntry.mono _ _ _ _)
   | (with_reducible exact LeO.refl _)
   | (with_reducible exact LeO.none _)
   | (with_reducible refine LeO.ite ?_ ?_)
   | (with_reducible refine LeO.bind ?_ (fun _ => ?_))
   | exact ih0 _ _ _ _
   | exact ih1 _ _ _ _ _ _ _ _ _
   | exact ih2 _ _ _ _ _ _ _ _ _
   | exact impl_goodEntry.mono _ _ _ _
   | exact LeO.none _
   | refine LeO.ite ?_ ?_
   | refine LeO.bind ?_ (fun _ => ?_)
theorem impl_ValidTree.mono:∀ a0 k,LeO (impl_ValidTree.f k a0) (impl_ValidTree.f (k+1) a0):=by
 intro a0 k;obtain ⟨ih0,ih1,ih2⟩:=impl_ValidTree.mono_l k
 unfold impl_ValidTree.f
 repeat' first
   | (with_reducible exact ih0 _ _ _ _)
   | (with_reducible exact ih1 _ _ _ _ _ _ _ _ _)
   | (with_reducible exact ih2 _ _ _ _ _ _ _ _ _)
   | (with_reducible exact impl_goodEntry.mono _ _ _ _)
   | (with_reducible exact LeO.refl _)
   | (with_reducible exact LeO.none _)
   | (with_reducible refine LeO.ite ?_ ?_)
   | (with_reducible refine LeO.bind ?_ (fun _ => ?_))
   | exact ih0 _ _ _ _
   | exact ih1 _ _ _ _ _ _ _ _ _
   | exact ih2 _ _ _ _ _ _ _ _ _
   | exact impl_goodEntry.mono _ _ _ _
   | exact LeO.none _
   | refine LeO.ite ?_ ?_
   | refine LeO.bind ?_ (fun _ => ?_)
def impl_ValidTree.T6:Bool×List (List Nat×List Nat):=(true,[([],[]),([0],[0]),([1],[1]),([2,1],[2]),([3],[3]),([4,3],[3,4]),([5,3,3],[3,5]),([6],[6]),([7,6],[6,7]),([6],[6]),([9,6],[6,9]),([8,10,6],[6,8,10]),([11,6],[6,11]),([12,6],[6,12]),([6],[6]),([14,6],[6,14]),([13,15,6],[6,13,15]),([6,16,3],[3,6,16]),([3,17],[3,17])])
def impl_ValidTree.B6:List Nat:=[0,1,3,7,15,31,63,127,255,127,639,2047,4095,8191,127,16511,65535,131071,262143]
theorem impl_ValidTree.tab6:rtab .any (opsOf Tryd.f57 6)=impl_ValidTree.T6:=by kernel_rfl
theorem impl_ValidTree.bits6:waitsOk impl_ValidTree.T6.2 impl_ValidTree.B6=true:=by kernel_rfl
def impl_ValidTree.T11:Bool×List (List Nat×List Nat):=(true,[([],[]),([0],[0]),([],[]),([1,2],[1,2]),([3],[3]),([4],[4]),([],[]),([6],[6]),([5,7],[5,7])])
def impl_ValidTree.B11:List Nat:=[0,1,0,7,15,31,0,64,255]
theorem impl_ValidTree.tab11:rtab .any (opsOf Tryd.f57 11)=impl_ValidTree.T11:=by kernel_rfl
theorem impl_ValidTree.bits11:waitsOk impl_ValidTree.T11.2 impl_ValidTree.B11=true:=by kernel_rfl
set_option maxHeartbeats 8000000 in
set_option maxRecDepth 100000 in
theorem impl_ValidTree.calls (k : Nat) (ax : Option Addr) (a9 : Nat) (a1 : List (S34)) (r : Bool) (w : World) (hg : GOK w) (aY : Kd.C k34 w ax a1.length a1) (aZ : a1.length ≤ a9) (h : impl_ValidTree.f k a1 = some r) :
  Calls Tryd.prog 57 #[.agg #[.slice ax a1.length a9]] w fun e w'=>e = .returned (.bool r)∧Below w.heap.size w w':=by
 have HG:=Aside0.mk hg;clear hg;have hu50:=Tryd.underlying50;have hu34:=Tryd.underlying34;have aG:=Aside0.mk aY;have HC0_0:=Aside0.mk aZ;clear aY aZ;have HB:=Aside0.mk (Below.refl w.heap.size w);have H:(if (a1.length:Int)>100 then (some false) else (impl_ValidTree.l0 k a1 (a1.length:Int) 0 a1))=some r:=h;clear h
 by_cases c2:(a1.length:Int)>100
 ·rw [if_pos c2] at H
  have b0:decide (100<(a1.length:Int))=true:=decide_eq_true c2;have b1:decide (100<a1.length)=true:=decide_eq_true (by omega);clear c2;obtain rfl:=Option.some.inj H
  go_enter Tryd.func57,Tryd.ntmps57
  go_wp2_with (first|((with_reducible refine gd 1 rfl ?_);refine bx 1 50 (#[.slice ax a1.length a9]) ?_;intro af hg w3 hbox hb;refine Ya4 (below_step (be HB.out) hb) (hbox) (bs hg (be HB.out)) (bs hg (be HB.out)) ?_;clear HB;intro HB a4 bn bo;clear hb hbox hg;have ⟨aP,aQ⟩:=Yc1 a4.out))
  go_ret
  exact ⟨Ye2,(bf HB.out)⟩
 ·rw [if_neg c2] at H
  have b0:decide (100<(a1.length:Int))=false:=decide_eq_false c2;have b1:decide (100<a1.length)=false:=decide_eq_false (by omega);clear c2;have H':=Aside0.mk H;clear H
  go_enter Tryd.func57,Tryd.ntmps57
  go_wp2_with (first|((with_reducible refine gd 1 rfl ?_);refine bx 1 50 (#[.slice ax a1.length a9]) ?_;intro af hg w5 hbox hb;refine Ya4 (below_step (be HB.out) hb) (hbox) (bs hg (be HB.out)) (bs hg (be HB.out)) ?_;clear HB;intro HB a4 bn bo;clear hb hbox hg;have ⟨aR,aS⟩:=Yc1 a4.out))
  go_loopg [13] k (fun kq v13 w' => ∃ (a2:Int),v13 = .int .i64 a2∧Aside0 (impl_ValidTree.l0 kq a1 (a1.length:Int) a2 a1=some r)∧Aside0 (kq≤k)∧Aside0 (w'.heap[af]? = some (.cells #[(.slice ax a1.length a9)] 50 (0,0)))∧Aside0 (Below w.heap.size w w'))
  case atStart=>exact ⟨(0),Ye1,H',⟨Nat.le_refl _⟩,⟨bk a4.out⟩,⟨bf HB.out⟩⟩
  case round =>
   clear H';(try clear c2);(try clear b0);(try clear b1);(try clear p2);(try clear c5);(try clear aP);(try clear aR);(try clear aQ);(try clear aS);obtain ⟨a2,rfl,HA,HK1,a4,HB⟩:=hrel
   cases gk with
   | zero=>exact absurd HA.out (by simp [impl_ValidTree.l0])
   | succ k1 =>
    have H:=HA.out;clear HA;simp only [impl_ValidTree.l0] at H
    by_cases c7:a2<(a1.length:Int)
    ·rw [if_pos c7] at H
     have aT:decide (a2<(a1.length:Int))=true:=decide_eq_true c7;clear c7
     by_cases c8:0≤a2
     ·rw [if_pos c8] at H
      have b2:decide (0≤a2)=true:=decide_eq_true c8;clear c8
      by_cases c9:a2<(a1.length:Int)
      ·rw [if_pos c9] at H
       have b3:decide (a2<(a1.length:Int))=true:=decide_eq_true c9;clear c9;have aU:=Aside0.mk H;clear H;have ay:0≤(a2:Int):=oda;have az:a2<(a1.length:Int):=oda;obtain ⟨a7,bq,b4,b5,b6⟩:=at_T34 (Kd.C_below aG.out HB.out) a2 ay az
       cases bq
       replace ay:=eq_true ay;replace az:=eq_true az
       go_upto_region 6 with (first|((with_reducible refine gd 4 rfl ?_);refine bx 4 34 (#[.string (⟨#[]⟩:ByteArray),.string (⟨#[]⟩:ByteArray),.bool false]) ?_;intro a5 hg ab hbox hb;refine Ya7 (bb a4 hb) (below_step (bf HB.out) hb) (hbox) (bs hg (bf HB.out)) (bs hg (bf HB.out)) (bl hg a4) (br hg a4) ?_;clear a4 HB;intro a4 HB a3 GW588 GE588 aH bu;clear hb hbox hg;have hnb12:=bu.out;have hnc12:=aH.out;have ⟨b7,b8,b9,ba,bd,bg⟩:=Yc3 a3.out))
       (try simp only [Act.put,List.setIfInBounds_toArray,List.set_cons_zero,List.set_cons_succ])
       go_cut [36] (fun v36 wc => ∃ (kq:Nat) (aI:Bool),v36 = .bool aI∧Aside0 (impl_ValidTree.j1 kq a2 a1 (a1.length:Int) a2 aI a1 ((rd_T34 a1 a2).f0) ((rd_T34 a1 a2).f1) ((rd_T34 a1 a2).f2)=some r)∧Aside0 (kq≤k1)∧Aside0 (wc.heap[af]? = some (.cells #[(.slice (some a7) a1.length a9)] 50 (0,0)))∧Aside0 (wc.heap[a5]? = some (.cells #[.string ((rd_T34 a1 a2).f0),.string ((rd_T34 a1 a2).f1),.bool ((rd_T34 a1 a2).f2)] 34 (0,0)))∧Aside0 (Below w.heap.size w wc))
       case first =>
        have H:=aU.out;clear aU;replace H:=Option.bind_eq_some_iff.mp H;obtain ⟨aD,bh,H⟩:=H;replace H:(if aD=true then (if a2>0 then (if 0≤(wrap64 (a2 - 1)) then (if (wrap64 (a2 - 1))<(a1.length:Int) then (impl_ValidTree.j1 k1 a2 a1 (a1.length:Int) a2 (!(Op.bytesLess (((rd_T34 a1 (wrap64 (a2 - 1))).f0).toList) (((rd_T34 a1 a2).f0).toList))) a1 ((rd_T34 a1 a2).f0) ((rd_T34 a1 a2).f1) ((rd_T34 a1 a2).f2)) else (none)) else (none)) else (impl_ValidTree.j1 k1 a2 a1 (a1.length:Int) a2 false a1 ((rd_T34 a1 a2).f0) ((rd_T34 a1 a2).f1) ((rd_T34 a1 a2).f2))) else (impl_ValidTree.j1 k1 a2 a1 (a1.length:Int) a2 true a1 ((rd_T34 a1 a2).f0) ((rd_T34 a1 a2).f1) ((rd_T34 a1 a2).f2)))=some r:=H;have aJ:=Aside0.mk bh;clear bh
        by_cases ao:aD=true
        ·subst ao
         have H1:(if a2>0 then (if 0≤(wrap64 (a2 - 1)) then (if (wrap64 (a2 - 1))<(a1.length:Int) then (impl_ValidTree.j1 k1 a2 a1 (a1.length:Int) a2 (!(Op.bytesLess (((rd_T34 a1 (wrap64 (a2 - 1))).f0).toList) (((rd_T34 a1 a2).f0).toList))) a1 ((rd_T34 a1 a2).f0) ((rd_T34 a1 a2).f1) ((rd_T34 a1 a2).f2)) else (none)) else (none)) else (impl_ValidTree.j1 k1 a2 a1 (a1.length:Int) a2 false a1 ((rd_T34 a1 a2).f0) ((rd_T34 a1 a2).f1) ((rd_T34 a1 a2).f2)))=some r:=by rw [if_pos rfl] at H;exact H
         clear H;have H:=H1;clear H1
         by_cases aj:a2>0
         ·rw [if_pos aj] at H
          have ak:decide (0<a2)=true:=decide_eq_true aj;clear aj;(first|rw [ak]|(simp only [i64_w,i32_w];rw [ak])|skip)
          obtain ⟨a8,al⟩:∃ j_:Int,(wrap64 (a2 - 1))=j_:=⟨_,rfl⟩
          replace H:(if 0≤(a8) then (if (a8)<(a1.length:Int) then (impl_ValidTree.j1 k1 a2 a1 (a1.length:Int) a2 (!(Op.bytesLess (((rd_T34 a1 (a8)).f0).toList) (((rd_T34 a1 a2).f0).toList))) a1 ((rd_T34 a1 a2).f0) ((rd_T34 a1 a2).f1) ((rd_T34 a1 a2).f2)) else (none)) else (none))=some r:=by first|(rw [al] at H;exact H)|(simp only [al] at H ⊢; exact H)
          (try rw [al] at aJ);have hji17w:(IntKind.i64.wrap (a2 - 1))=a8:=(i64_w _).trans al
          by_cases ap:0≤(a8)
          ·rw [if_pos ap] at H
           have bi:decide (0≤(a8))=true:=decide_eq_true ap;clear ap
           by_cases aq:(a8)<(a1.length:Int)
           ·rw [if_pos aq] at H
            have bj:decide ((a8)<(a1.length:Int))=true:=decide_eq_true aq;clear aq;have H':=Aside0.mk H;clear H
            try go_wp2
            have ac:Aside0 ((((ab.setCell ⟨a5,0,none⟩ (.string ((rd_T34 a1 a2).f0))).setCell ⟨a5,1,none⟩ (.string ((rd_T34 a1 a2).f1))).setCell ⟨a5,2,none⟩ (.bool ((rd_T34 a1 a2).f2))).heap[af]? = some (.cells #[.slice (some a7) a1.length a9] 50 (0,0))):=⟨bkf a4.out aH.out⟩
            have ad:Aside0 ((((ab.setCell ⟨a5,0,none⟩ (.string ((rd_T34 a1 a2).f0))).setCell ⟨a5,1,none⟩ (.string ((rd_T34 a1 a2).f1))).setCell ⟨a5,2,none⟩ (.bool ((rd_T34 a1 a2).f2))).heap[a5]? = some (.cells #[.string ((rd_T34 a1 a2).f0),.string ((rd_T34 a1 a2).f1),.bool ((rd_T34 a1 a2).f2)] 34 (0,0))):=⟨bp a3.out⟩
            have ae:Aside0 (Below w.heap.size w (((ab.setCell ⟨a5,0,none⟩ (.string ((rd_T34 a1 a2).f0))).setCell ⟨a5,1,none⟩ (.string ((rd_T34 a1 a2).f1))).setCell ⟨a5,2,none⟩ (.bool ((rd_T34 a1 a2).f2)))):=⟨bf HB.out⟩
            (try clear a4);(try clear a3);(try clear HB);generalize (((ab.setCell ⟨a5,0,none⟩ (.string ((rd_T34 a1 a2).f0))).setCell ⟨a5,1,none⟩ (.string ((rd_T34 a1 a2).f1))).setCell ⟨a5,2,none⟩ (.bool ((rd_T34 a1 a2).f2)))=w20 at ac ad ae ⊢; have a4:=ac;have a3:=ad;have HB:=ae;clear ac ad ae;refine Ya3 (blk_drew a4.out) (blk_drew a3.out) (below_drew1 HB.out) ?_;clear a4 a3 HB;intro a4 a3 HB;have aA:0≤((a8):Int):=oda;have aB:(a8)<(a1.length:Int):=oda;obtain ⟨bv,bw,ar,au,av⟩:=at_T34 aG.out (a8) aA aB;have hw590_2:=av;have hw590_1:=au;have hw590_0:=ar
            obtain rfl:a7=bv:=(by injection bw)
            replace ar:=pw_cell_below HB.out ar;replace au:=pw_cell_below HB.out au;replace av:=pw_cell_below HB.out av;replace aA:=eq_true aA;replace aB:=eq_true aB;refine start_ (n:=19) (S:=fun w'=>w'.cell? ⟨a5,0,none⟩=some (.string ((rd_T34 a1 a2).f0))∧w'.cell? ⟨a5,1,none⟩=some (.string ((rd_T34 a1 a2).f1))∧w'.cell? ⟨a5,2,none⟩=some (.bool ((rd_T34 a1 a2).f2))∧w'.cell? ⟨af,0,none⟩=some (.slice (some a7) a1.length a9)∧w'.cell? (a7.add (((a8)).toNat*3))=some (.string ((rd_T34 a1 (a8)).f0))∧w'.cell? ⟨(a7.add (((a8)).toNat*3)).block,(a7.add (((a8)).toNat*3)).off+1,none⟩=some (.string ((rd_T34 a1 (a8)).f1))∧w'.cell? ⟨(a7.add (((a8)).toNat*3)).block,(a7.add (((a8)).toNat*3)).off+2,none⟩=some (.bool ((rd_T34 a1 (a8)).f2))) (ds:=[]) (fb 19 0) (by kernel_rfl) rfl rfl ⟨bc a3 0,bc a3 1,bc a3 2,bc a4 0,(pw_cell_below HB.out hw590_0),(pw_cell_below HB.out hw590_1),(pw_cell_below HB.out hw590_2)⟩ (fun hHeld => ?_);refine with_tabW impl_ValidTree.tab6 impl_ValidTree.bits6 (fun HT_ HW_ => ?_);generalize w20.drew=w21 at a4 a3 HB ar au av hHeld ⊢; refine tk 0 18 (fb 19 1) HT_ HW_ hHeld ?_;refine o1 1 (some 19) (fb 19 3) HT_ (fun K hK => ?_);refine gs _ (#[.agg #[.string ((rd_T34 a1 a2).f0),.string ((rd_T34 a1 a2).f1),.bool ((rd_T34 a1 a2).f2)]]) Tryd.func83 ?_;(with_reducible refine (impl_goodEntry.calls k1 ((rd_T34 a1 a2).f0) ((rd_T34 a1 a2).f1) ((rd_T34 a1 a2).f2) true _ ?sideG aJ.out).mono ?_;(case sideG=>exact gf HG.out HB.out));rintro e w22 ⟨rfl,hb⟩;refine ⟨_,rfl,?_⟩;refine Ya3 (bb a4 hb) (bb a3 hb) (below_step (bf HB.out) hb) ?_;clear a4 a3 HB;intro a4 a3 HB;(try clear hb);(try clear hb2);(try clear hk);(try clear hi);refine hK.out _ _ ⟨bc a3 0,bc a3 1,bc a3 2,bc a4 0,(pw_cell_below HB.out hw590_0),(pw_cell_below HB.out hw590_1),(pw_cell_below HB.out hw590_2)⟩ (fun hHeld => ?_);clear hK K;refine nm 19 ?_;refine pu 2 20 (fb 19 7) HT_ ?_;refine pu 3 21 (fb 19 15) HT_ ?_;refine pu 4 22 (fb 19 31) HT_ ?_;refine pu 5 23 (fb 19 63) HT_ ?_;refine pu 6 24 (fb 19 127) HT_ ?_;refine pu 7 25 (fb 19 255) HT_ ?_;refine pu 9 27 (fb 19 767) HT_ ?_;refine pu 10 28 (fb 19 1791) HT_ ?_;refine pu 14 32 (fb 19 18175) HT_ ?_;refine tk 8 26 (fb 19 18431) HT_ HW_ hHeld ?_;refine pu 11 29 (fb 19 20479) HT_ ?_;refine pu 12 30 (fb 19 24575) HT_ ?_;refine tk 13 31 (fb 19 32767) HT_ HW_ hHeld ?_;refine tk 15 33 (fb 19 65535) HT_ HW_ hHeld ?_;refine pu 16 34 (fb 19 131071) HT_ ?_;refine pu 17 35 (fb 19 262143) HT_ ?_;refine pu 18 36 (fb 19 524287) HT_ ?_;refine done_ (done_of HT_.out (by kernel_rfl)) ?_
            try go_wp2
            go_meet
            case rel=>exact ⟨_,(!(Op.bytesLess (((rd_T34 a1 (a8)).f0).toList) (((rd_T34 a1 a2).f0).toList))),(by first|rfl|(simp;done)|(simp only [←al] <;> (first|rfl|simp))|(simp [*];done)),(by first|exact H'|(subst al;exact H')|(simp only [←al] at H' ⊢; exact H')),⟨by have:=HK1.out;first|omega|exact Nat.le_refl _⟩,⟨bk a4.out⟩,⟨bk a3.out⟩,⟨bf HB.out⟩⟩
           ·rw [if_neg aq] at H
            exact absurd H (by simp)
          ·rw [if_neg ap] at H
           exact absurd H (by simp)
         ·rw [if_neg aj] at H
          have ak:decide (0<a2)=false:=decide_eq_false aj;clear aj;(first|rw [ak]|(simp only [i64_w,i32_w];rw [ak])|skip);have H':=Aside0.mk H;clear H
          try go_wp2
          have ac:Aside0 ((((ab.setCell ⟨a5,0,none⟩ (.string ((rd_T34 a1 a2).f0))).setCell ⟨a5,1,none⟩ (.string ((rd_T34 a1 a2).f1))).setCell ⟨a5,2,none⟩ (.bool ((rd_T34 a1 a2).f2))).heap[af]? = some (.cells #[.slice (some a7) a1.length a9] 50 (0,0))):=⟨bkf a4.out aH.out⟩
          have ad:Aside0 ((((ab.setCell ⟨a5,0,none⟩ (.string ((rd_T34 a1 a2).f0))).setCell ⟨a5,1,none⟩ (.string ((rd_T34 a1 a2).f1))).setCell ⟨a5,2,none⟩ (.bool ((rd_T34 a1 a2).f2))).heap[a5]? = some (.cells #[.string ((rd_T34 a1 a2).f0),.string ((rd_T34 a1 a2).f1),.bool ((rd_T34 a1 a2).f2)] 34 (0,0))):=⟨bp a3.out⟩
          have ae:Aside0 (Below w.heap.size w (((ab.setCell ⟨a5,0,none⟩ (.string ((rd_T34 a1 a2).f0))).setCell ⟨a5,1,none⟩ (.string ((rd_T34 a1 a2).f1))).setCell ⟨a5,2,none⟩ (.bool ((rd_T34 a1 a2).f2)))):=⟨bf HB.out⟩
          (try clear a4);(try clear a3);(try clear HB);generalize (((ab.setCell ⟨a5,0,none⟩ (.string ((rd_T34 a1 a2).f0))).setCell ⟨a5,1,none⟩ (.string ((rd_T34 a1 a2).f1))).setCell ⟨a5,2,none⟩ (.bool ((rd_T34 a1 a2).f2)))=w23 at ac ad ae ⊢; have a4:=ac;have a3:=ad;have HB:=ae;clear ac ad ae;refine Ya3 (blk_drew a4.out) (blk_drew a3.out) (below_drew1 HB.out) ?_;clear a4 a3 HB;intro a4 a3 HB;refine start_ (n:=19) (S:=fun w'=>w'.cell? ⟨a5,0,none⟩=some (.string ((rd_T34 a1 a2).f0))∧w'.cell? ⟨a5,1,none⟩=some (.string ((rd_T34 a1 a2).f1))∧w'.cell? ⟨a5,2,none⟩=some (.bool ((rd_T34 a1 a2).f2))) (ds:=[]) (fb 19 0) (by kernel_rfl) rfl rfl ⟨bc a3 0,bc a3 1,bc a3 2⟩ (fun hHeld => ?_);refine with_tabW impl_ValidTree.tab6 impl_ValidTree.bits6 (fun HT_ HW_ => ?_);generalize w23.drew=w24 at a4 a3 HB hHeld ⊢; refine tk 0 18 (fb 19 1) HT_ HW_ hHeld ?_;refine o1 1 (some 19) (fb 19 3) HT_ (fun K hK => ?_);refine gs _ (#[.agg #[.string ((rd_T34 a1 a2).f0),.string ((rd_T34 a1 a2).f1),.bool ((rd_T34 a1 a2).f2)]]) Tryd.func83 ?_;(with_reducible refine (impl_goodEntry.calls k1 ((rd_T34 a1 a2).f0) ((rd_T34 a1 a2).f1) ((rd_T34 a1 a2).f2) true _ ?sideG aJ.out).mono ?_;(case sideG=>exact gf HG.out HB.out));rintro e w25 ⟨rfl,hb⟩;refine ⟨_,rfl,?_⟩;refine Ya3 (bb a4 hb) (bb a3 hb) (below_step (bf HB.out) hb) ?_;clear a4 a3 HB;intro a4 a3 HB;(try clear hb);(try clear hb2);(try clear hk);(try clear hi);refine hK.out _ _ ⟨bc a3 0,bc a3 1,bc a3 2⟩ (fun hHeld => ?_);clear hK K;refine nm 19 ?_;refine pu 2 20 (fb 19 7) HT_ ?_;refine pu 3 21 (fb 19 15) HT_ ?_;refine pu 4 22 (fb 19 31) HT_ ?_;refine pu 5 23 (fb 19 63) HT_ ?_;refine pu 6 24 (fb 19 127) HT_ ?_;refine pn 7 25 (fb 19 255) HT_ ?_;refine pn 8 26 (fb 19 511) HT_ ?_;refine pn 9 27 (fb 19 1023) HT_ ?_;refine pn 10 28 (fb 19 2047) HT_ ?_;refine pn 11 29 (fb 19 4095) HT_ ?_;refine pn 12 30 (fb 19 8191) HT_ ?_;refine pn 13 31 (fb 19 16383) HT_ ?_;refine pn 14 32 (fb 19 32767) HT_ ?_;refine pn 15 33 (fb 19 65535) HT_ ?_;refine pn 16 34 (fb 19 131071) HT_ ?_;refine pu 17 35 (fb 19 262143) HT_ ?_;refine pu 18 36 (fb 19 524287) HT_ ?_;refine done_ (done_of HT_.out (by kernel_rfl)) ?_
          try go_wp2
          go_meet
          case rel=>exact ⟨_,(false),Ye1,H',⟨by have:=HK1.out;first|omega|exact Nat.le_refl _⟩,⟨bk a4.out⟩,⟨bk a3.out⟩,⟨bf HB.out⟩⟩
        ·replace ao:=Bool.eq_false_iff.mpr ao;subst ao
         have H1:(impl_ValidTree.j1 k1 a2 a1 (a1.length:Int) a2 true a1 ((rd_T34 a1 a2).f0) ((rd_T34 a1 a2).f1) ((rd_T34 a1 a2).f2))=some r:=by rw [if_neg (show ¬(false=true) by decide)] at H;exact H
         clear H;have H:=H1;clear H1;have H':=Aside0.mk H;clear H
         try go_wp2
         have ac:Aside0 ((((ab.setCell ⟨a5,0,none⟩ (.string ((rd_T34 a1 a2).f0))).setCell ⟨a5,1,none⟩ (.string ((rd_T34 a1 a2).f1))).setCell ⟨a5,2,none⟩ (.bool ((rd_T34 a1 a2).f2))).heap[af]? = some (.cells #[.slice (some a7) a1.length a9] 50 (0,0))):=⟨bkf a4.out aH.out⟩
         have ad:Aside0 ((((ab.setCell ⟨a5,0,none⟩ (.string ((rd_T34 a1 a2).f0))).setCell ⟨a5,1,none⟩ (.string ((rd_T34 a1 a2).f1))).setCell ⟨a5,2,none⟩ (.bool ((rd_T34 a1 a2).f2))).heap[a5]? = some (.cells #[.string ((rd_T34 a1 a2).f0),.string ((rd_T34 a1 a2).f1),.bool ((rd_T34 a1 a2).f2)] 34 (0,0))):=⟨bp a3.out⟩
         have ae:Aside0 (Below w.heap.size w (((ab.setCell ⟨a5,0,none⟩ (.string ((rd_T34 a1 a2).f0))).setCell ⟨a5,1,none⟩ (.string ((rd_T34 a1 a2).f1))).setCell ⟨a5,2,none⟩ (.bool ((rd_T34 a1 a2).f2)))):=⟨bf HB.out⟩
         (try clear a4);(try clear a3);(try clear HB);generalize (((ab.setCell ⟨a5,0,none⟩ (.string ((rd_T34 a1 a2).f0))).setCell ⟨a5,1,none⟩ (.string ((rd_T34 a1 a2).f1))).setCell ⟨a5,2,none⟩ (.bool ((rd_T34 a1 a2).f2)))=w26 at ac ad ae ⊢; have a4:=ac;have a3:=ad;have HB:=ae;clear ac ad ae;refine Ya3 (blk_drew a4.out) (blk_drew a3.out) (below_drew1 HB.out) ?_;clear a4 a3 HB;intro a4 a3 HB;refine start_ (n:=19) (S:=fun w'=>w'.cell? ⟨a5,0,none⟩=some (.string ((rd_T34 a1 a2).f0))∧w'.cell? ⟨a5,1,none⟩=some (.string ((rd_T34 a1 a2).f1))∧w'.cell? ⟨a5,2,none⟩=some (.bool ((rd_T34 a1 a2).f2))) (ds:=[]) (fb 19 0) (by kernel_rfl) rfl rfl ⟨bc a3 0,bc a3 1,bc a3 2⟩ (fun hHeld => ?_);refine with_tabW impl_ValidTree.tab6 impl_ValidTree.bits6 (fun HT_ HW_ => ?_);generalize w26.drew=w27 at a4 a3 HB hHeld ⊢; refine tk 0 18 (fb 19 1) HT_ HW_ hHeld ?_;refine o1 1 (some 19) (fb 19 3) HT_ (fun K hK => ?_);refine gs _ (#[.agg #[.string ((rd_T34 a1 a2).f0),.string ((rd_T34 a1 a2).f1),.bool ((rd_T34 a1 a2).f2)]]) Tryd.func83 ?_;(with_reducible refine (impl_goodEntry.calls k1 ((rd_T34 a1 a2).f0) ((rd_T34 a1 a2).f1) ((rd_T34 a1 a2).f2) false _ ?sideG aJ.out).mono ?_;(case sideG=>exact gf HG.out HB.out));rintro e w28 ⟨rfl,hb⟩;refine ⟨_,rfl,?_⟩;refine Ya3 (bb a4 hb) (bb a3 hb) (below_step (bf HB.out) hb) ?_;clear a4 a3 HB;intro a4 a3 HB;(try clear hb);(try clear hb2);(try clear hk);(try clear hi);refine hK.out _ _ ⟨bc a3 0,bc a3 1,bc a3 2⟩ (fun hHeld => ?_);clear hK K;refine nm 19 ?_;refine pu 2 20 (fb 19 7) HT_ ?_;refine pu 3 21 (fb 19 15) HT_ ?_;refine pn 4 22 (fb 19 31) HT_ ?_;refine pn 5 23 (fb 19 63) HT_ ?_;refine pn 6 24 (fb 19 127) HT_ ?_;refine pn 7 25 (fb 19 255) HT_ ?_;refine pn 8 26 (fb 19 511) HT_ ?_;refine pn 9 27 (fb 19 1023) HT_ ?_;refine pn 10 28 (fb 19 2047) HT_ ?_;refine pn 11 29 (fb 19 4095) HT_ ?_;refine pn 12 30 (fb 19 8191) HT_ ?_;refine pn 13 31 (fb 19 16383) HT_ ?_;refine pn 14 32 (fb 19 32767) HT_ ?_;refine pn 15 33 (fb 19 65535) HT_ ?_;refine pn 16 34 (fb 19 131071) HT_ ?_;refine pn 17 35 (fb 19 262143) HT_ ?_;refine pu 18 36 (fb 19 524287) HT_ ?_;refine done_ (done_of HT_.out (by kernel_rfl)) ?_
         try go_wp2
         go_meet
         case rel=>exact ⟨_,(true),Ye1,H',⟨by have:=HK1.out;first|omega|exact Nat.le_refl _⟩,⟨bk a4.out⟩,⟨bk a3.out⟩,⟨bf HB.out⟩⟩
       case rest =>
        clear aU;(try clear c1);(try clear p2);(try clear p5);(try clear q5);(try clear hx5);(try clear p6);(try clear c7);(try clear aT);(try clear c8);(try clear b2);(try clear c9);(try clear b3);(try clear c12);(try clear ao);(try clear aj);(try clear ak);(try clear ap);(try clear bi);(try clear aq);(try clear bj);(try clear b7);(try clear b8);(try clear b9);(try clear aP);(try clear aR);(try clear ba);(try clear bd);(try clear bg);(try clear aQ);(try clear aS);(try clear b4);(try clear b5);(try clear b6);(try clear ar);(try clear au);(try clear av);(try clear ay);(try clear aA);(try clear az);(try clear aB);obtain ⟨kq,aI,rfl,HA,HJ9,a4,a3,HB⟩:=hcut
        cases kq with
        | zero=>exact absurd HA.out (by simp [impl_ValidTree.j1])
        | succ aV =>
         have H:=HA.out;clear HA;simp only [impl_ValidTree.j1] at H
         by_cases aC:aI=true
         ·subst aC
          have H1:(some false)=some r:=by rw [if_pos rfl] at H;exact H
          clear H;have H:=H1;clear H1;obtain rfl:=Option.some.inj H
          go_wp2
          go_ret
          exact ⟨Ye2,(bf HB.out)⟩
         ·replace aC:=Bool.eq_false_iff.mpr aC;subst aC
          have H1:(impl_ValidTree.l1 aV a2 0 a1 (a1.length:Int) a2 a1 ((rd_T34 a1 a2).f0) ((rd_T34 a1 a2).f1) ((rd_T34 a1 a2).f2))=some r:=by rw [if_neg (show ¬(false=true) by decide)] at H;exact H
          clear H;have H:=H1;clear H1;have H':=Aside0.mk H;clear H
          go_wp2
          go_loopg [5] aV (fun kq v5 w' => ∃ (a6:Int),v5 = .int .i64 a6∧Aside0 (impl_ValidTree.l1 kq a2 a6 a1 (a1.length:Int) a2 a1 ((rd_T34 a1 a2).f0) ((rd_T34 a1 a2).f1) ((rd_T34 a1 a2).f2)=some r)∧Aside0 (kq≤aV)∧Aside0 (w'.heap[af]? = some (.cells #[(.slice (some a7) a1.length a9)] 50 (0,0)))∧Aside0 (w'.heap[a5]? = some (.cells #[.string ((rd_T34 a1 a2).f0),.string ((rd_T34 a1 a2).f1),.bool ((rd_T34 a1 a2).f2)] 34 (0,0)))∧Aside0 (Below w.heap.size w w'))
          case atStart=>exact ⟨(0),Ye1,H',⟨Nat.le_refl _⟩,⟨bk a4.out⟩,⟨bk a3.out⟩,⟨bf HB.out⟩⟩
          case round =>
           clear H';(try clear c1);(try clear c2);(try clear p2);(try clear p5);(try clear q5);(try clear hx5);(try clear p6);(try clear c7);(try clear aT);(try clear c8);(try clear b2);(try clear c9);(try clear b3);(try clear c12);(try clear ao);(try clear aj);(try clear ak);(try clear ap);(try clear bi);(try clear aq);(try clear bj);(try clear aC);(try clear b7);(try clear b8);(try clear b9);(try clear aP);(try clear aR);(try clear ba);(try clear bd);(try clear bg);(try clear aQ);(try clear aS);(try clear b4);(try clear b5);(try clear b6);(try clear ar);(try clear au);(try clear av);(try clear p2);(try clear p5);(try clear ay);(try clear aA);(try clear p6);(try clear q5);(try clear az);(try clear aB);obtain ⟨a6,rfl,HA,HK3,a4,a3,HB⟩:=hrel
           cases gk with
           | zero=>exact absurd HA.out (by simp [impl_ValidTree.l1])
           | succ k3 =>
            have H:=HA.out;clear HA;simp only [impl_ValidTree.l1] at H
            by_cases aw:a6<a2
            ·rw [if_pos aw] at H
             have bz:decide (a6<a2)=true:=decide_eq_true aw;clear aw
             by_cases aK:0≤a6
             ·rw [if_pos aK] at H
              have c31b0:decide (0≤a6)=true:=decide_eq_true aK;clear aK
              by_cases aL:a6<(a1.length:Int)
              ·rw [if_pos aL] at H
               have c32b0:decide (a6<(a1.length:Int))=true:=decide_eq_true aL;clear aL;replace H:=Option.bind_eq_some_iff.mp H;obtain ⟨aF,bm,H⟩:=H;replace H:(if aF=true then (some false) else (impl_ValidTree.l1 k3 a2 (wrap64 (a6+1)) a1 (a1.length:Int) a2 a1 ((rd_T34 a1 a2).f0) ((rd_T34 a1 a2).f1) ((rd_T34 a1 a2).f2)))=some r:=H;have A33:=Aside0.mk bm;clear bm
               by_cases aM:aF=true
               ·subst aM
                have H1:(some false)=some r:=by rw [if_pos rfl] at H;exact H
                clear H;have H:=H1;clear H1;obtain rfl:=Option.some.inj H
                try go_wp2
                refine Ya3 (blk_drew a4.out) (blk_drew a3.out) (below_drew1 HB.out) ?_;clear a4 a3 HB;intro a4 a3 HB;have am:0≤(a6:Int):=oda;have an:a6<(a1.length:Int):=oda;obtain ⟨aW,aX,ag,ah,ai⟩:=at_T34 aG.out a6 am an;have hw591_2:=ai;have hw591_1:=ah;have hw591_0:=ag
                obtain rfl:a7=aW:=(by injection aX)
                replace ag:=pw_cell_below HB.out ag;replace ah:=pw_cell_below HB.out ah;replace ai:=pw_cell_below HB.out ai;replace am:=eq_true am;replace an:=eq_true an;refine start_ (n:=9) (S:=fun w'=>w'.cell? ⟨af,0,none⟩=some (.slice (some a7) a1.length a9)∧w'.cell? ⟨a5,0,none⟩=some (.string ((rd_T34 a1 a2).f0))∧w'.cell? ⟨a5,1,none⟩=some (.string ((rd_T34 a1 a2).f1))∧w'.cell? ⟨a5,2,none⟩=some (.bool ((rd_T34 a1 a2).f2))∧w'.cell? (a7.add ((a6).toNat*3))=some (.string ((rd_T34 a1 a6).f0))∧w'.cell? ⟨(a7.add ((a6).toNat*3)).block,(a7.add ((a6).toNat*3)).off+1,none⟩=some (.string ((rd_T34 a1 a6).f1))∧w'.cell? ⟨(a7.add ((a6).toNat*3)).block,(a7.add ((a6).toNat*3)).off+2,none⟩=some (.bool ((rd_T34 a1 a6).f2))) (ds:=[]) (fb 9 0) (by kernel_rfl) rfl rfl ⟨bc a4 0,bc a3 0,bc a3 1,bc a3 2,(pw_cell_below HB.out hw591_0),(pw_cell_below HB.out hw591_1),(pw_cell_below HB.out hw591_2)⟩ (fun hHeld => ?_);refine with_tabW impl_ValidTree.tab11 impl_ValidTree.bits11 (fun HT_ HW_ => ?_);generalize wr.drew=w35 at a4 a3 HB ag ah ai hHeld ⊢; refine pu 0 42 (fb 9 1) HT_ ?_;refine pu 2 44 (fb 9 5) HT_ ?_;refine pu 6 48 (fb 9 69) HT_ ?_;refine tk 1 43 (fb 9 71) HT_ HW_ hHeld ?_;refine pu 3 45 (fb 9 79) HT_ ?_;refine pu 4 46 (fb 9 95) HT_ ?_;refine tk 5 47 (fb 9 127) HT_ HW_ hHeld ?_;refine tk 7 49 (fb 9 255) HT_ HW_ hHeld ?_;refine o1 8 (some 50) (fb 9 511) HT_ (fun K hK => ?_);refine gs _ (#[.string ((rd_T34 a1 a6).f0),.string ((rd_T34 a1 a2).f0)]) Tryd.func84 ?_;(with_reducible refine (impl_over.calls ((rd_T34 a1 a6).f0) ((rd_T34 a1 a2).f0) true _ A33.out).mono ?_);rintro e w' ⟨rfl,⟨nd,rfl⟩⟩;refine ⟨_,rfl,?_⟩;refine hK.out _ _ ⟨bc a4 0,bc a3 0,bc a3 1,bc a3 2,(pw_cell_below HB.out hw591_0),(pw_cell_below HB.out hw591_1),(pw_cell_below HB.out hw591_2)⟩ (fun hHeld => ?_);clear hK K;refine nm 50 ?_;refine done_ (done_of HT_.out (by kernel_rfl)) ?_
                try go_wp2
                go_ret
                exact ⟨Ye2,(bf HB.out)⟩
               ·replace aM:=Bool.eq_false_iff.mpr aM;subst aM
                have H1:(impl_ValidTree.l1 k3 a2 (wrap64 (a6+1)) a1 (a1.length:Int) a2 a1 ((rd_T34 a1 a2).f0) ((rd_T34 a1 a2).f1) ((rd_T34 a1 a2).f2))=some r:=by rw [if_neg (show ¬(false=true) by decide)] at H;exact H
                clear H;have H:=H1;clear H1;have H':=Aside0.mk H;clear H
                try go_wp2
                refine Ya3 (blk_drew a4.out) (blk_drew a3.out) (below_drew1 HB.out) ?_;clear a4 a3 HB;intro a4 a3 HB;have am:0≤(a6:Int):=oda;have an:a6<(a1.length:Int):=oda;obtain ⟨aW,aX,ag,ah,ai⟩:=at_T34 aG.out a6 am an;have hw591_2:=ai;have hw591_1:=ah;have hw591_0:=ag
                obtain rfl:a7=aW:=(by injection aX)
                replace ag:=pw_cell_below HB.out ag;replace ah:=pw_cell_below HB.out ah;replace ai:=pw_cell_below HB.out ai;replace am:=eq_true am;replace an:=eq_true an;refine start_ (n:=9) (S:=fun w'=>w'.cell? ⟨af,0,none⟩=some (.slice (some a7) a1.length a9)∧w'.cell? ⟨a5,0,none⟩=some (.string ((rd_T34 a1 a2).f0))∧w'.cell? ⟨a5,1,none⟩=some (.string ((rd_T34 a1 a2).f1))∧w'.cell? ⟨a5,2,none⟩=some (.bool ((rd_T34 a1 a2).f2))∧w'.cell? (a7.add ((a6).toNat*3))=some (.string ((rd_T34 a1 a6).f0))∧w'.cell? ⟨(a7.add ((a6).toNat*3)).block,(a7.add ((a6).toNat*3)).off+1,none⟩=some (.string ((rd_T34 a1 a6).f1))∧w'.cell? ⟨(a7.add ((a6).toNat*3)).block,(a7.add ((a6).toNat*3)).off+2,none⟩=some (.bool ((rd_T34 a1 a6).f2))) (ds:=[]) (fb 9 0) (by kernel_rfl) rfl rfl ⟨bc a4 0,bc a3 0,bc a3 1,bc a3 2,(pw_cell_below HB.out hw591_0),(pw_cell_below HB.out hw591_1),(pw_cell_below HB.out hw591_2)⟩ (fun hHeld => ?_);refine with_tabW impl_ValidTree.tab11 impl_ValidTree.bits11 (fun HT_ HW_ => ?_);generalize wr.drew=w36 at a4 a3 HB ag ah ai hHeld ⊢; refine pu 0 42 (fb 9 1) HT_ ?_;refine pu 2 44 (fb 9 5) HT_ ?_;refine pu 6 48 (fb 9 69) HT_ ?_;refine tk 1 43 (fb 9 71) HT_ HW_ hHeld ?_;refine pu 3 45 (fb 9 79) HT_ ?_;refine pu 4 46 (fb 9 95) HT_ ?_;refine tk 5 47 (fb 9 127) HT_ HW_ hHeld ?_;refine tk 7 49 (fb 9 255) HT_ HW_ hHeld ?_;refine o1 8 (some 50) (fb 9 511) HT_ (fun K hK => ?_);refine gs _ (#[.string ((rd_T34 a1 a6).f0),.string ((rd_T34 a1 a2).f0)]) Tryd.func84 ?_;(with_reducible refine (impl_over.calls ((rd_T34 a1 a6).f0) ((rd_T34 a1 a2).f0) false _ A33.out).mono ?_);rintro e w' ⟨rfl,⟨nd,rfl⟩⟩;refine ⟨_,rfl,?_⟩;refine hK.out _ _ ⟨bc a4 0,bc a3 0,bc a3 1,bc a3 2,(pw_cell_below HB.out hw591_0),(pw_cell_below HB.out hw591_1),(pw_cell_below HB.out hw591_2)⟩ (fun hHeld => ?_);clear hK K;refine nm 50 ?_;refine done_ (done_of HT_.out (by kernel_rfl)) ?_
                try go_wp2
                go_roundg k3
                case measure=>have:=HK1.out;have:=HJ9.out;have:=HK3.out;omega
                case rel=>exact ⟨(wrap64 (a6+1)),Ye1,H',⟨by have:=HK1.out;have:=HJ9.out;have:=HK3.out;omega⟩,⟨bk a4.out⟩,⟨bk a3.out⟩,⟨bf HB.out⟩⟩
              ·rw [if_neg aL] at H
               exact absurd H (by simp)
             ·rw [if_neg aK] at H
              exact absurd H (by simp)
            ·rw [if_neg aw] at H
             have bz:decide (a6<a2)=false:=decide_eq_false aw;clear aw;have H':=Aside0.mk H;clear H
             go_wp2
             go_roundg k3
             case measure=>have:=HK1.out;have:=HJ9.out;have:=HK3.out;omega
             case rel=>exact ⟨(wrap64 (a2+1)),Ye1,H',⟨by have:=HK1.out;have:=HJ9.out;have:=HK3.out;omega⟩,⟨bk a4.out⟩,⟨bf HB.out⟩⟩
      ·rw [if_neg c9] at H
       exact absurd H (by simp)
     ·rw [if_neg c8] at H
      exact absurd H (by simp)
    ·rw [if_neg c7] at H
     have aT:decide (a2<(a1.length:Int))=false:=decide_eq_false c7;clear c7;obtain rfl:=Option.some.inj H
     go_wp2
     go_ret
     exact ⟨Ye2,(bf HB.out)⟩

end Go.Proofs.YtkmfnmeilooogaaDoor.P


namespace Go.Proofs.YtkmfnmeilooogaaDoor.P
open Go.RowKit Go.Proofs.YtkmfnmeilooogaaDoorW.PrintWords Go.Proofs.YtkmfnmeilooogaaDoorW.PrintLast Go.Proofs.YtkmfnmeilooogaaDoorW.PrintMore
attribute [local go_sem] max2_int min2_int max_two min_two max_three min_three max_four min_four
set_option linter.unusedVariables false
set_option linter.unusedSimpArgs false

def spec_l5Begins.f (a0:ByteArray) (a1:ByteArray):Option (Bool):=if (a1.size:Int)>(a0.size:Int) then (if 0≤(a0.size:Int) then (if (a0.size:Int)≤(a1.size:Int) then (if (a1.extract 0 ((a0.size:Int):Int).toNat).toList=a0.toList then (if (a0.size:Int)<(a1.size:Int) then (some ((bt a1 (a0.size:Int))==47)) else (none)) else (some false)) else (none)) else (none)) else (some false)
set_option maxHeartbeats 8000000 in
set_option maxRecDepth 100000 in
theorem spec_l5Begins.calls (a0:ByteArray) (a1:ByteArray) (r:Bool) (w:World) (h:spec_l5Begins.f a0 a1=some r) :
  Calls Tryd.prog 87 #[.string a0,.string a1] w fun e w'=>e = .returned (.bool r)∧Drawn0 w w':=by
 have H:(if (a1.size:Int)>(a0.size:Int) then (if 0≤(a0.size:Int) then (if (a0.size:Int)≤(a1.size:Int) then (if (a1.extract 0 ((a0.size:Int):Int).toNat).toList=a0.toList then (if (a0.size:Int)<(a1.size:Int) then (some ((bt a1 (a0.size:Int))==47)) else (none)) else (some false)) else (none)) else (none)) else (some false))=some r:=h;clear h
 by_cases c3:(a1.size:Int)>(a0.size:Int)
 ·rw [if_pos c3] at H
  have a6:decide ((a0.size:Int)<(a1.size:Int))=true:=decide_eq_true c3;have a7:decide (a0.size<a1.size)=true:=decide_eq_true (Int.ofNat_lt.mp c3);clear c3
  by_cases c4:0≤(a0.size:Int)
  ·rw [if_pos c4] at H
   have c4b0:=eq_true c4;have c4b1:decide (0≤(a0.size:Int))=true:=decide_eq_true c4;clear c4
   by_cases c5:(a0.size:Int)≤(a1.size:Int)
   ·rw [if_pos c5] at H
    have c5b0:=eq_true c5;have c5b1:decide ((a0.size:Int)≤(a1.size:Int))=true:=decide_eq_true c5;clear c5
    by_cases c6:(a1.extract 0 ((a0.size:Int):Int).toNat).toList=a0.toList
    ·rw [if_pos c6] at H
     have a2:((a1.extract 0 ((a0.size:Int):Int).toNat).toList==a0.toList)=true:=beq_iff_eq.mpr c6;have a3:=a2;(try simp only [Int.toNat_natCast] at a3);have a4:((a1.extract 0 ((a0.size:Int):Int).toNat).toList != a0.toList)=false:=bne_eq_false_iff_eq.mpr c6;have a5:=a4;(try simp only [Int.toNat_natCast] at a5);clear c6
     by_cases c7:(a0.size:Int)<(a1.size:Int)
     ·rw [if_pos c7] at H
      have c7b0:decide ((a0.size:Int)<(a1.size:Int))=true:=decide_eq_true c7;have c7b1:decide (a0.size<a1.size)=true:=decide_eq_true (Int.ofNat_lt.mp c7);clear c7;obtain rfl:=Option.some.inj H;have p8:0≤((a0.size:Int):Int):=oda;have q8:(a0.size:Int)<(a1.size:Int):=oda;have hx8:=bt_at a1 (a0.size:Int);(try have hx8n:=hx8 (by omega));(try simp only [Int.toNat_natCast] at hx8n);replace p8:=eq_true p8;replace q8:=eq_true q8
      go_enter Tryd.func87,Tryd.ntmps87
      go_wp2
      go_ret
      exact ⟨Ye1,dz⟩
     ·rw [if_neg c7] at H
      exact absurd H (by simp)
    ·rw [if_neg c6] at H
     have a2:((a1.extract 0 ((a0.size:Int):Int).toNat).toList==a0.toList)=false:=beq_eq_false_iff_ne.mpr c6;have a3:=a2;(try simp only [Int.toNat_natCast] at a3);have a4:((a1.extract 0 ((a0.size:Int):Int).toNat).toList != a0.toList)=true:=bne_iff_ne.mpr c6;have a5:=a4;(try simp only [Int.toNat_natCast] at a5);obtain rfl:=Option.some.inj H
     go_enter Tryd.func87,Tryd.ntmps87
     go_wp2
     go_ret
     exact ⟨Ye1,dz⟩
   ·rw [if_neg c5] at H
    exact absurd H (by simp)
  ·rw [if_neg c4] at H
   exact absurd H (by simp)
 ·rw [if_neg c3] at H
  have a6:decide ((a0.size:Int)<(a1.size:Int))=false:=decide_eq_false c3;have a7:decide (a0.size<a1.size)=false:=decide_eq_false (fun h=>c3 (Int.ofNat_lt.mpr h));clear c3;obtain rfl:=Option.some.inj H
  go_enter Tryd.func87,Tryd.ntmps87
  go_wp2
  go_ret
  exact ⟨Ye1,dz⟩

end Go.Proofs.YtkmfnmeilooogaaDoor.P


namespace Go.Proofs.YtkmfnmeilooogaaDoor.P
open Go.RowKit Go.Proofs.YtkmfnmeilooogaaDoorW.PrintWords Go.Proofs.YtkmfnmeilooogaaDoorW.PrintLast Go.Proofs.YtkmfnmeilooogaaDoorW.PrintMore
attribute [local go_sem] max2_int min2_int max_two min_two max_three min_three max_four min_four
set_option linter.unusedVariables false
set_option linter.unusedSimpArgs false

def spec_l1In.f (a0:Int) (a1:Int) (a2:Int):Option (Bool):=if a0 ≥ a1 then (some (decide (a0≤a2))) else (some false)
set_option maxHeartbeats 8000000 in
set_option maxRecDepth 100000 in
theorem spec_l1In.calls (a0:Int) (a1:Int) (a2:Int) (r:Bool) (w:World) (h:spec_l1In.f a0 a1 a2=some r) :
  Calls Tryd.prog 39 #[.int .i64 a0,.int .i64 a1,.int .i64 a2] w fun e w'=>e = .returned (.bool r)∧Drawn0 w w':=by
 have H:(if a0 ≥ a1 then (some (decide (a0≤a2))) else (some false))=some r:=h;clear h
 by_cases c4:a0 ≥ a1
 ·rw [if_pos c4] at H
  have a3:decide (a1≤a0)=true:=decide_eq_true c4;clear c4;obtain rfl:=Option.some.inj H
  go_enter Tryd.func39,Tryd.ntmps39
  go_wp2
  go_ret
  exact ⟨Ye1,dz⟩
 ·rw [if_neg c4] at H
  have a3:decide (a1≤a0)=false:=decide_eq_false c4;clear c4;obtain rfl:=Option.some.inj H
  go_enter Tryd.func39,Tryd.ntmps39
  go_wp2
  go_ret
  exact ⟨Ye1,dz⟩

end Go.Proofs.YtkmfnmeilooogaaDoor.P


namespace Go.Proofs.YtkmfnmeilooogaaDoor.P
open Go.RowKit Go.Proofs.YtkmfnmeilooogaaDoorW.PrintWords Go.Proofs.YtkmfnmeilooogaaDoorW.PrintLast Go.Proofs.YtkmfnmeilooogaaDoorW.PrintMore
attribute [local go_sem] max2_int min2_int max_two min_two max_three min_three max_four min_four
set_option linter.unusedVariables false
set_option linter.unusedSimpArgs false

mutual
def spec_l4PartOk.j0:Nat→ByteArray→Bool→Bool→Option (Bool)
 | 0,_,_,_=>none
 | k+1,x0,x1,x17=>if x17=true then (some false) else (spec_l4PartOk.l0 k x0 x1 0)
def spec_l4PartOk.l0:Nat→ByteArray→Bool→Int→Option (Bool)
 | 0,_,_,_=>none
 | k+1,x0,x1,x5=>if x5<(x0.size:Int) then (if 0≤x5 then (if (bt x0 x5)<33 then (some false) else (if (bt x0 x5)>126 then (some false) else (if (bt x0 x5)=47 then (some false) else (if (bt x0 x5)=34 then (some false) else (if x1=true then (spec_l4PartOk.l0 k x0 x1 (wrap64 (x5+1))) else (if (bt x0 x5)=42 then (some false) else (if (bt x0 x5)=63 then (some false) else (spec_l4PartOk.l0 k x0 x1 (wrap64 (x5+1)))))))))) else (none)) else (some true)
end
def spec_l4PartOk.f (k:Nat) (a0:ByteArray) (a1:Bool):Option (Bool):=(spec_l1In.f (a0.size:Int) 1 20).bind fun a8=>(if a8=true then (if a0.toList=([46]:List UInt8) then (spec_l4PartOk.j0 k a0 a1 true) else (spec_l4PartOk.j0 k a0 a1 (a0.toList==([46,46]:List UInt8)))) else (spec_l4PartOk.j0 k a0 a1 true))
theorem spec_l4PartOk.mono_l:∀ k,(∀ y0 y1 y2,LeO (spec_l4PartOk.j0 k y0 y1 y2) (spec_l4PartOk.j0 (k+1) y0 y1 y2))∧(∀ y0 y1 y2,LeO (spec_l4PartOk.l0 k y0 y1 y2) (spec_l4PartOk.l0 (k+1) y0 y1 y2))
 | 0=>⟨fun _ _ _ r h=>by simp [spec_l4PartOk.j0] at h,fun _ _ _ r h=>by simp [spec_l4PartOk.l0] at h⟩
 | k + 1 => by
  obtain ⟨ih0,ih1⟩:=spec_l4PartOk.mono_l k;refine ⟨?_,?_⟩
  ·intro y0 y1 y2
   unfold spec_l4PartOk.j0
   repeat' first
   | (with_reducible exact ih0 _ _ _)
   | (with_reducible exact ih1 _ _ _)
   | (with_reducible exact LeO.refl _)
   | (with_reducible exact LeO.none _)
   | (with_reducible refine LeO.ite ?_ ?_)
   | (with_reducible refine LeO.bind ?_ (fun _ => ?_))
   | exact ih0 _ _ _
   | exact ih1 _ _ _
   | exact LeO.none _
   | refine LeO.ite ?_ ?_
   | refine LeO.bind ?_ (fun _ => ?_)
  ·intro y0 y1 y2
   unfold spec_l4PartOk.l0
   repeat' first
   | (with_reducible exact ih0 _ _ _)
   | (with_reducible exact ih1 _ _ _)
   | (with_reducible exact LeO.refl _)
   | (with_reducible exact LeO.none _)
   | (with_reducible refine LeO.ite ?_ ?_)
   | (with_reducible refine LeO.bind ?_ (fun _ => ?_))
   | exact ih0 _ _ _
   | exact ih1 _ _ _
   | exact LeO.none _
   | refine LeO.ite ?_ ?_
   | refine LeO.bind ?_ (fun _ => ?_)
theorem spec_l4PartOk.mono:∀ a0 a1 k,LeO (spec_l4PartOk.f k a0 a1) (spec_l4PartOk.f (k+1) a0 a1):=by
 intro a0 a1 k;obtain ⟨ih0,ih1⟩:=spec_l4PartOk.mono_l k
 unfold spec_l4PartOk.f
 repeat' first
   | (with_reducible exact ih0 _ _ _)
   | (with_reducible exact ih1 _ _ _)
   | (with_reducible exact LeO.refl _)
   | (with_reducible exact LeO.none _)
   | (with_reducible refine LeO.ite ?_ ?_)
   | (with_reducible refine LeO.bind ?_ (fun _ => ?_))
   | exact ih0 _ _ _
   | exact ih1 _ _ _
   | exact LeO.none _
   | refine LeO.ite ?_ ?_
   | refine LeO.bind ?_ (fun _ => ?_)
set_option maxHeartbeats 8000000 in
set_option maxRecDepth 100000 in
theorem spec_l4PartOk.calls (k : Nat) (a0 : ByteArray) (a1 : Bool) (r : Bool) (w : World) (h : spec_l4PartOk.f k a0 a1 = some r) :
  Calls Tryd.prog 71 #[.string a0,.bool a1] w fun e w'=>e = .returned (.bool r)∧Drawn0 w w':=by
 have H:((spec_l1In.f (a0.size:Int) 1 20).bind fun a8=>(if a8=true then (if a0.toList=([46]:List UInt8) then (spec_l4PartOk.j0 k a0 a1 true) else (spec_l4PartOk.j0 k a0 a1 (a0.toList==([46,46]:List UInt8)))) else (spec_l4PartOk.j0 k a0 a1 true)))=some r:=h;clear h;have ad:=Aside0.mk H;clear H
 go_enter Tryd.func71,Tryd.ntmps71
 go_upto_region 1 with (fail)
 go_cut [17] (fun v17 wc => ∃ (kq:Nat) (ab:Bool),v17 = .bool ab∧Aside0 (spec_l4PartOk.j0 kq a0 a1 ab=some r)∧Aside0 (kq≤k)∧Drawn0 w wc)
 case first =>
  have H:=ad.out;clear ad;replace H:=Option.bind_eq_some_iff.mp H;obtain ⟨a8,A40,H⟩:=H;replace H:(if a8=true then (if a0.toList=([46]:List UInt8) then (spec_l4PartOk.j0 k a0 a1 true) else (spec_l4PartOk.j0 k a0 a1 (a0.toList==([46,46]:List UInt8)))) else (spec_l4PartOk.j0 k a0 a1 true))=some r:=H;have A4:=Aside0.mk A40;clear A40
  by_cases c5:a8=true
  ·subst c5
   have H1:(if a0.toList=([46]:List UInt8) then (spec_l4PartOk.j0 k a0 a1 true) else (spec_l4PartOk.j0 k a0 a1 (a0.toList==([46,46]:List UInt8))))=some r:=by rw [if_pos rfl] at H;exact H
   clear H;have H:=H1;clear H1
   by_cases c6:a0.toList=([46]:List UInt8)
   ·rw [if_pos c6] at H
    have a3:(a0.toList==([46]:List UInt8))=true:=beq_iff_eq.mpr c6;have ae:(a0.toList != ([46]:List UInt8))=false:=bne_eq_false_iff_eq.mpr c6;clear c6;(first|rw [a3]|(simp only [i64_w,i32_w];rw [a3])|skip);have H':=Aside0.mk H;clear H
    go_wp2_with (first|((with_reducible refine gc 39 rfl ?_);refine gl (some 8) _ (#[.int .i64 (a0.size:Int),.int .i64 1,.int .i64 20]) Tryd.func39 ?_;(with_reducible refine (spec_l1In.calls (a0.size:Int) 1 20 true _ A4.out).mono ?_);rintro e w' ⟨rfl,⟨nd,rfl⟩⟩;refine ⟨_,rfl,?_⟩))
    go_meet
    case rel=>exact ⟨_,(true),Ye1,H',⟨by first|omega|exact Nat.le_refl _⟩,dz⟩
   ·rw [if_neg c6] at H
    have a3:(a0.toList==([46]:List UInt8))=false:=beq_eq_false_iff_ne.mpr c6;have ae:(a0.toList != ([46]:List UInt8))=true:=bne_iff_ne.mpr c6;(first|rw [a3]|(simp only [i64_w,i32_w];rw [a3])|skip);have H':=Aside0.mk H;clear H
    go_wp2_with (first|((with_reducible refine gc 39 rfl ?_);refine gl (some 8) _ (#[.int .i64 (a0.size:Int),.int .i64 1,.int .i64 20]) Tryd.func39 ?_;(with_reducible refine (spec_l1In.calls (a0.size:Int) 1 20 true _ A4.out).mono ?_);rintro e w' ⟨rfl,⟨nd,rfl⟩⟩;refine ⟨_,rfl,?_⟩))
    go_meet
    case rel=>exact ⟨_,((a0.toList==([46,46]:List UInt8))),Ye1,H',⟨by first|omega|exact Nat.le_refl _⟩,dz⟩
  ·replace c5:=Bool.eq_false_iff.mpr c5;subst c5
   have H1:(spec_l4PartOk.j0 k a0 a1 true)=some r:=by rw [if_neg (show ¬(false=true) by decide)] at H;exact H
   clear H;have H:=H1;clear H1;have H':=Aside0.mk H;clear H
   go_wp2_with (first|((with_reducible refine gc 39 rfl ?_);refine gl (some 8) _ (#[.int .i64 (a0.size:Int),.int .i64 1,.int .i64 20]) Tryd.func39 ?_;(with_reducible refine (spec_l1In.calls (a0.size:Int) 1 20 false _ A4.out).mono ?_);rintro e w' ⟨rfl,⟨nd,rfl⟩⟩;refine ⟨_,rfl,?_⟩))
   go_meet
   case rel=>exact ⟨_,(true),Ye1,H',⟨by first|omega|exact Nat.le_refl _⟩,dz⟩
 case rest =>
  clear ad;(try clear p2);(try clear c3);(try clear c5);(try clear c6);(try clear a3);(try clear ae);obtain ⟨kq,ab,rfl,HA,HJ2,⟨mc2,rfl⟩⟩:=hcut
  cases kq with
  | zero=>exact absurd HA.out (by simp [spec_l4PartOk.j0])
  | succ af =>
   have H:=HA.out;clear HA;simp only [spec_l4PartOk.j0] at H
   by_cases c7:ab=true
   ·subst c7
    have H1:(some false)=some r:=by rw [if_pos rfl] at H;exact H
    clear H;have H:=H1;clear H1;obtain rfl:=Option.some.inj H
    go_wp2
    go_ret
    exact ⟨Ye1,dz⟩
   ·replace c7 := Bool.eq_false_iff.mpr c7; subst c7
    have H1:(spec_l4PartOk.l0 af a0 a1 0)=some r:=by rw [if_neg (show ¬(false=true) by decide)] at H;exact H
    clear H;have H:=H1;clear H1;have H':=Aside0.mk H;clear H
    go_wp2
    go_loopg [5] af (fun kq v5 w' => ∃ (a2:Int),v5 = .int .i64 a2∧Aside0 (spec_l4PartOk.l0 kq a0 a1 a2=some r)∧Aside0 (kq≤af)∧Drawn0 w w')
    case atStart=>exact ⟨(0),Ye1,H',⟨Nat.le_refl _⟩,dz⟩
    case round =>
     clear H';(try clear c2);(try clear p2);(try clear c3);(try clear c5);(try clear c6);(try clear a3);(try clear ae);(try clear c7);(try clear p2);obtain ⟨a2,rfl,HA,HK2,⟨m2,rfl⟩⟩:=hrel
     cases gk with
     | zero=>exact absurd HA.out (by simp [spec_l4PartOk.l0])
     | succ k2 =>
      have H:=HA.out;clear HA;simp only [spec_l4PartOk.l0] at H
      by_cases c8:a2<(a0.size:Int)
      ·rw [if_pos c8] at H
       have ag:decide (a2<(a0.size:Int))=true:=decide_eq_true c8;clear c8
       by_cases c9:0≤a2
       ·rw [if_pos c9] at H
        have c9b0:decide (0≤a2)=true:=decide_eq_true c9;clear c9
        by_cases a9:(bt a0 a2)<33
        ·rw [if_pos a9] at H
         have ah:decide ((bt a0 a2)<33)=true:=decide_eq_true a9;clear a9;obtain rfl:=Option.some.inj H;have p10:0≤(a2:Int):=oda;have q10:a2<(a0.size:Int):=oda;have hx10:=bt_at a0 a2;replace p10:=eq_true p10;replace q10:=eq_true q10
         go_wp2
         go_ret
         exact ⟨Ye1,dz⟩
        ·rw [if_neg a9] at H
         have ah:decide ((bt a0 a2)<33)=false:=decide_eq_false a9;clear a9
         by_cases aa:(bt a0 a2)>126
         ·rw [if_pos aa] at H
          have ai:decide (126<(bt a0 a2))=true:=decide_eq_true aa;clear aa;obtain rfl:=Option.some.inj H;have p10:0≤(a2:Int):=oda;have q10:a2<(a0.size:Int):=oda;have hx10:=bt_at a0 a2;replace p10:=eq_true p10;replace q10:=eq_true q10;have p12:0≤(a2:Int):=oda;have q12:a2<(a0.size:Int):=oda;have hx12:=bt_at a0 a2;replace p12:=eq_true p12;replace q12:=eq_true q12
          go_wp2
          go_ret
          exact ⟨Ye1,dz⟩
         ·rw [if_neg aa] at H
          have ai:decide (126<(bt a0 a2))=false:=decide_eq_false aa;clear aa
          by_cases a4:(bt a0 a2)=47
          ·rw [if_pos a4] at H
           have aj:((bt a0 a2)==47)=true:=beq_iff_eq.mpr a4;have ak:((bt a0 a2) != 47)=false:=bne_eq_false_iff_eq.mpr a4;clear a4;obtain rfl:=Option.some.inj H;have p10:0≤(a2:Int):=oda;have q10:a2<(a0.size:Int):=oda;have hx10:=bt_at a0 a2;replace p10:=eq_true p10;replace q10:=eq_true q10;have p12:0≤(a2:Int):=oda;have q12:a2<(a0.size:Int):=oda;have hx12:=bt_at a0 a2;replace p12:=eq_true p12;replace q12:=eq_true q12;have p14:0≤(a2:Int):=oda;have q14:a2<(a0.size:Int):=oda;have hx14:=bt_at a0 a2;replace p14:=eq_true p14;replace q14:=eq_true q14
           go_wp2
           go_ret
           exact ⟨Ye1,dz⟩
          ·rw [if_neg a4] at H
           have aj:((bt a0 a2)==47)=false:=beq_eq_false_iff_ne.mpr a4;have ak:((bt a0 a2) != 47)=true:=bne_iff_ne.mpr a4
           by_cases a5:(bt a0 a2)=34
           ·rw [if_pos a5] at H
            have al:((bt a0 a2)==34)=true:=beq_iff_eq.mpr a5;have am:((bt a0 a2) != 34)=false:=bne_eq_false_iff_eq.mpr a5;clear a5;obtain rfl:=Option.some.inj H;have p10:0≤(a2:Int):=oda;have q10:a2<(a0.size:Int):=oda;have hx10:=bt_at a0 a2;replace p10:=eq_true p10;replace q10:=eq_true q10;have p12:0≤(a2:Int):=oda;have q12:a2<(a0.size:Int):=oda;have hx12:=bt_at a0 a2;replace p12:=eq_true p12;replace q12:=eq_true q12;have p14:0≤(a2:Int):=oda;have q14:a2<(a0.size:Int):=oda;have hx14:=bt_at a0 a2;replace p14:=eq_true p14;replace q14:=eq_true q14;have p16:0≤(a2:Int):=oda;have q16:a2<(a0.size:Int):=oda;have hx16:=bt_at a0 a2;replace p16:=eq_true p16;replace q16:=eq_true q16
            go_wp2
            go_ret
            exact ⟨Ye1,dz⟩
           ·rw [if_neg a5] at H
            have al:((bt a0 a2)==34)=false:=beq_eq_false_iff_ne.mpr a5;have am:((bt a0 a2) != 34)=true:=bne_iff_ne.mpr a5
            by_cases ac:a1=true
            ·subst ac
             have H1:(spec_l4PartOk.l0 k2 a0 true (wrap64 (a2+1)))=some r:=by rw [if_pos rfl] at H;exact H
             clear H;have H:=H1;clear H1;have H':=Aside0.mk H;clear H;have p10:0≤(a2:Int):=oda;have q10:a2<(a0.size:Int):=oda;have hx10:=bt_at a0 a2;replace p10:=eq_true p10;replace q10:=eq_true q10;have p12:0≤(a2:Int):=oda;have q12:a2<(a0.size:Int):=oda;have hx12:=bt_at a0 a2;replace p12:=eq_true p12;replace q12:=eq_true q12;have p14:0≤(a2:Int):=oda;have q14:a2<(a0.size:Int):=oda;have hx14:=bt_at a0 a2;replace p14:=eq_true p14;replace q14:=eq_true q14;have p16:0≤(a2:Int):=oda;have q16:a2<(a0.size:Int):=oda;have hx16:=bt_at a0 a2;replace p16:=eq_true p16;replace q16:=eq_true q16
             go_wp2
             go_roundg k2
             case measure=>have:=HJ2.out;have:=HK2.out;omega
             case rel=>exact ⟨(wrap64 (a2+1)),Ye1,H',⟨by have:=HJ2.out;have:=HK2.out;omega⟩,dz⟩
            ·replace ac:=Bool.eq_false_iff.mpr ac;subst ac
             have H1:(if (bt a0 a2)=42 then (some false) else (if (bt a0 a2)=63 then (some false) else (spec_l4PartOk.l0 k2 a0 false (wrap64 (a2+1)))))=some r:=by rw [if_neg (show ¬(false=true) by decide)] at H;exact H
             clear H;have H:=H1;clear H1
             by_cases a6:(bt a0 a2)=42
             ·rw [if_pos a6] at H
              have an:((bt a0 a2)==42)=true:=beq_iff_eq.mpr a6;have ao:((bt a0 a2) != 42)=false:=bne_eq_false_iff_eq.mpr a6;clear a6;obtain rfl:=Option.some.inj H;have p10:0≤(a2:Int):=oda;have q10:a2<(a0.size:Int):=oda;have hx10:=bt_at a0 a2;replace p10:=eq_true p10;replace q10:=eq_true q10;have p12:0≤(a2:Int):=oda;have q12:a2<(a0.size:Int):=oda;have hx12:=bt_at a0 a2;replace p12:=eq_true p12;replace q12:=eq_true q12;have p14:0≤(a2:Int):=oda;have q14:a2<(a0.size:Int):=oda;have hx14:=bt_at a0 a2;replace p14:=eq_true p14;replace q14:=eq_true q14;have p16:0≤(a2:Int):=oda;have q16:a2<(a0.size:Int):=oda;have hx16:=bt_at a0 a2;replace p16:=eq_true p16;replace q16:=eq_true q16;have p19:0≤(a2:Int):=oda;have q19:a2<(a0.size:Int):=oda;have hx19:=bt_at a0 a2;replace p19:=eq_true p19;replace q19:=eq_true q19
              go_wp2
              go_ret
              exact ⟨Ye1,dz⟩
             ·rw [if_neg a6] at H
              have an:((bt a0 a2)==42)=false:=beq_eq_false_iff_ne.mpr a6;have ao:((bt a0 a2) != 42)=true:=bne_iff_ne.mpr a6
              by_cases a7:(bt a0 a2)=63
              ·rw [if_pos a7] at H
               have ap:((bt a0 a2)==63)=true:=beq_iff_eq.mpr a7;have aq:((bt a0 a2) != 63)=false:=bne_eq_false_iff_eq.mpr a7;clear a7;obtain rfl:=Option.some.inj H;have p10:0≤(a2:Int):=oda;have q10:a2<(a0.size:Int):=oda;have hx10:=bt_at a0 a2;replace p10:=eq_true p10;replace q10:=eq_true q10;have p12:0≤(a2:Int):=oda;have q12:a2<(a0.size:Int):=oda;have hx12:=bt_at a0 a2;replace p12:=eq_true p12;replace q12:=eq_true q12;have p14:0≤(a2:Int):=oda;have q14:a2<(a0.size:Int):=oda;have hx14:=bt_at a0 a2;replace p14:=eq_true p14;replace q14:=eq_true q14;have p16:0≤(a2:Int):=oda;have q16:a2<(a0.size:Int):=oda;have hx16:=bt_at a0 a2;replace p16:=eq_true p16;replace q16:=eq_true q16;have p19:0≤(a2:Int):=oda;have q19:a2<(a0.size:Int):=oda;have hx19:=bt_at a0 a2;replace p19:=eq_true p19;replace q19:=eq_true q19;have p21:0≤(a2:Int):=oda;have q21:a2<(a0.size:Int):=oda;have hx21:=bt_at a0 a2;replace p21:=eq_true p21;replace q21:=eq_true q21
               go_wp2
               go_ret
               exact ⟨Ye1,dz⟩
              ·rw [if_neg a7] at H
               have ap:((bt a0 a2)==63)=false:=beq_eq_false_iff_ne.mpr a7;have aq:((bt a0 a2) != 63)=true:=bne_iff_ne.mpr a7;have H':=Aside0.mk H;clear H;have p10:0≤(a2:Int):=oda;have q10:a2<(a0.size:Int):=oda;have hx10:=bt_at a0 a2;replace p10:=eq_true p10;replace q10:=eq_true q10;have p12:0≤(a2:Int):=oda;have q12:a2<(a0.size:Int):=oda;have hx12:=bt_at a0 a2;replace p12:=eq_true p12;replace q12:=eq_true q12;have p14:0≤(a2:Int):=oda;have q14:a2<(a0.size:Int):=oda;have hx14:=bt_at a0 a2;replace p14:=eq_true p14;replace q14:=eq_true q14;have p16:0≤(a2:Int):=oda;have q16:a2<(a0.size:Int):=oda;have hx16:=bt_at a0 a2;replace p16:=eq_true p16;replace q16:=eq_true q16;have p19:0≤(a2:Int):=oda;have q19:a2<(a0.size:Int):=oda;have hx19:=bt_at a0 a2;replace p19:=eq_true p19;replace q19:=eq_true q19;have p21:0≤(a2:Int):=oda;have q21:a2<(a0.size:Int):=oda;have hx21:=bt_at a0 a2;replace p21:=eq_true p21;replace q21:=eq_true q21
               go_wp2
               go_roundg k2
               case measure=>have:=HJ2.out;have:=HK2.out;omega
               case rel=>exact ⟨(wrap64 (a2+1)),Ye1,H',⟨by have:=HJ2.out;have:=HK2.out;omega⟩,dz⟩
       ·rw [if_neg c9] at H
        exact absurd H (by simp)
      ·rw [if_neg c8] at H
       have ag:decide (a2<(a0.size:Int))=false:=decide_eq_false c8;clear c8;obtain rfl:=Option.some.inj H
       go_wp2
       go_ret
       exact ⟨Ye1,dz⟩

end Go.Proofs.YtkmfnmeilooogaaDoor.P


namespace Go.Proofs.YtkmfnmeilooogaaDoor.P
open Go.RowKit Go.Proofs.YtkmfnmeilooogaaDoorW.PrintWords Go.Proofs.YtkmfnmeilooogaaDoorW.PrintLast Go.Proofs.YtkmfnmeilooogaaDoorW.PrintMore
attribute [local go_sem] max2_int min2_int max_two min_two max_three min_three max_four min_four
set_option linter.unusedVariables false
set_option linter.unusedSimpArgs false

def spec_l4Parts.l0:Nat→ByteArray→List ByteArray→Int→Int→Option (List ByteArray)
 | 0,_,_,_,_=>none
 | k+1,x0,x3,x4,x5=>if x5<(x0.size:Int) then (if 0≤x5 then (if (bt x0 x5)=47 then (if 0≤x4 then (if x4≤x5 then (if x5≤(x0.size:Int) then (if x3.length<8796093022208 then (spec_l4Parts.l0 k x0 (x3 ++ [x0.extract (x4:Int).toNat (x5:Int).toNat]) (wrap64 (x5+1)) (wrap64 (x5+1))) else (none)) else (none)) else (none)) else (none)) else (spec_l4Parts.l0 k x0 x3 x4 (wrap64 (x5+1)))) else (none)) else (if 0≤x4 then (if x4≤(x0.size:Int) then (if x3.length<8796093022208 then (some (x3 ++ [x0.extract (x4:Int).toNat x0.size])) else (none)) else (none)) else (none))
def spec_l4Parts.f (k:Nat) (a0:ByteArray):Option (List ByteArray):=spec_l4Parts.l0 k a0 (([]:List ByteArray)) 0 0
theorem spec_l4Parts.mono_l:∀ k,(∀ y0 y1 y2 y3,LeO (spec_l4Parts.l0 k y0 y1 y2 y3) (spec_l4Parts.l0 (k+1) y0 y1 y2 y3))
 | 0=>fun _ _ _ _ r h=>by simp [spec_l4Parts.l0] at h
 | k + 1 => by
  have ih0:=spec_l4Parts.mono_l k
  ·intro y0 y1 y2 y3
   unfold spec_l4Parts.l0
   repeat' first
   | (with_reducible exact ih0 _ _ _ _)
   | (with_reducible exact LeO.refl _)
   | (with_reducible exact LeO.none _)
   | (with_reducible refine LeO.ite ?_ ?_)
   | (with_reducible refine LeO.bind ?_ (fun _ => ?_))
   | exact ih0 _ _ _ _
   | exact LeO.none _
   | refine LeO.ite ?_ ?_
   | refine LeO.bind ?_ (fun _ => ?_)
theorem spec_l4Parts.mono:∀ a0 k,LeO (spec_l4Parts.f k a0) (spec_l4Parts.f (k+1) a0):=by
 intro a0 k;have ih0:=spec_l4Parts.mono_l k
 unfold spec_l4Parts.f
 repeat' first
   | (with_reducible exact ih0 _ _ _ _)
   | (with_reducible exact LeO.refl _)
   | (with_reducible exact LeO.none _)
   | (with_reducible refine LeO.ite ?_ ?_)
   | (with_reducible refine LeO.bind ?_ (fun _ => ?_))
   | exact ih0 _ _ _ _
   | exact LeO.none _
   | refine LeO.ite ?_ ?_
   | refine LeO.bind ?_ (fun _ => ?_)
set_option maxHeartbeats 8000000 in
set_option maxRecDepth 100000 in
theorem spec_l4Parts.calls (k : Nat) (a0 : ByteArray) (r : List ByteArray) (w : World) (h : spec_l4Parts.f k a0 = some r) :
  Calls Tryd.prog 42 #[.string a0] w fun e w' => ∃ v0_:Value,e = .returned (v0_)∧Kd.R Kd.string 9 w' w.heap.size (fun _=>True) v0_ r∧Below w.heap.size w w':=by
 have HB:=Aside0.mk (Below.refl w.heap.size w);have H:(spec_l4Parts.l0 k a0 (([]:List ByteArray)) 0 0)=some r:=h;clear h
 obtain ⟨ac,a4⟩:∃ y_:List ByteArray,y_=(([]:List ByteArray)):=⟨_,rfl⟩
 replace H:(spec_l4Parts.l0 k a0 ac 0 0)=some r:=by first|(rw [a4];with_reducible exact H)|(have H2_:=(Option.bind_some _ _).symm.trans H;rw [a4];with_reducible exact H2_)|(have H2_:=(Option.bind_some _ _).symm.trans H;with_reducible exact H2_)|with_reducible exact H|(rw [a4];exact H)|exact H
 have ad:=Aside0.mk a4;clear a4;have H':=Aside0.mk H;clear H
 go_enter Tryd.func42,Tryd.ntmps42
 go_wp2_with (first|((with_reducible refine gd 6 rfl ?_);refine Kd.R_lit Kd.string _ 9 ?hg (N:=6) ?hd (xs:=([]:List ByteArray)) (inner:=[]) (ok:=fun _=>True) (okp:=fun _=>True) ?hr ?hp (fun _ hk=>hk) trivial (Below.refl _ _) (Nat.le_refl _) (by simp) ?_;(case hd=>rfl);(case hg=>rfl);(case hr=>first|(go_simp;done)|(go_simp;rfl));(case hp=>exact (Reps.none _ _));intro v321 w2 ho3 hb hg_ hnew_;clear hg_ hnew_;(first|rw [←ad.out] at ho3|(simp only [Int.reduceToNat] at ho3;rw [←ad.out] at ho3));refine Ya2 (Kd.R_lower ho3 (below_size (be HB.out))) (below_step (be HB.out) hb) ?_;clear HB;intro af HB;clear hb ho3))
 go_loopg [3,4,5] k (fun kq v3 v4 v5 w' => ∃ (a3:List ByteArray) (a2:Int) (a1:Int),v4 = .int .i64 a2∧v5 = .int .i64 a1∧Aside0 (spec_l4Parts.l0 kq a0 a3 a2 a1=some r)∧Aside0 (kq≤k)∧Aside0 (Kd.R Kd.string 9 w' w.heap.size (fun _=>True) v3 a3)∧Aside0 (Below w.heap.size w w'))
 case atStart=>exact ⟨(ac),(0),(0),Ye1,Ye1,H',⟨Nat.le_refl _⟩,⟨kr af.out⟩,⟨be HB.out⟩⟩
 case round =>
  clear H';(try clear p2);obtain ⟨a3,a2,a1,rfl,rfl,HA,HK1,a5,HB⟩:=hrel
  cases gk with
  | zero=>exact absurd HA.out (by simp [spec_l4Parts.l0])
  | succ k1 =>
   have H:=HA.out;clear HA;simp only [spec_l4Parts.l0] at H
   by_cases c4:a1<(a0.size:Int)
   ·rw [if_pos c4] at H
    have ag:decide (a1<(a0.size:Int))=true:=decide_eq_true c4;clear c4
    by_cases c5:0≤a1
    ·rw [if_pos c5] at H
     have c5b0:decide (0≤a1)=true:=decide_eq_true c5;clear c5
     by_cases c7:(bt a0 a1)=47
     ·rw [if_pos c7] at H
      have ah:((bt a0 a1)==47)=true:=beq_iff_eq.mpr c7;have ai:((bt a0 a1) != 47)=false:=bne_eq_false_iff_eq.mpr c7;clear c7
      by_cases c8:0≤a2
      ·rw [if_pos c8] at H
       have c8b0:=eq_true c8;have c8b1:decide (0≤a2)=true:=decide_eq_true c8;clear c8
       by_cases c9:a2≤a1
       ·rw [if_pos c9] at H
        have c9b0:=eq_true c9;have c9b1:decide (a2≤a1)=true:=decide_eq_true c9;clear c9
        by_cases c10:a1≤(a0.size:Int)
        ·rw [if_pos c10] at H
         have c10b0:=eq_true c10;have c10b1:decide (a1≤(a0.size:Int))=true:=decide_eq_true c10;clear c10
         by_cases aa:a3.length<8796093022208
         ·rw [if_pos aa] at H
          have aj:=Aside0.mk aa;clear aa
          obtain ⟨ae,a6⟩:∃ y_:List ByteArray,y_=(a3 ++ [a0.extract (a2:Int).toNat (a1:Int).toNat]):=⟨_,rfl⟩
          replace H:(spec_l4Parts.l0 k1 a0 ae (wrap64 (a1+1)) (wrap64 (a1+1)))=some r:=by first|(rw [a6];with_reducible exact H)|(have H2_:=(Option.bind_some _ _).symm.trans H;rw [a6];with_reducible exact H2_)|(have H2_:=(Option.bind_some _ _).symm.trans H;with_reducible exact H2_)|with_reducible exact H|(rw [a6];exact H)|exact H
          have ak:=Aside0.mk a6;clear a6;have H':=Aside0.mk H;clear H;have p6:0≤(a1:Int):=oda;have q6:a1<(a0.size:Int):=oda;have hx6:=bt_at a0 a1;replace p6:=eq_true p6;replace q6:=eq_true q6
          go_wp2_with (first|((with_reducible refine gate_builtin (b:=.append) (xs:=#[.tmp 17,.tmp 22]) rfl ?_);at_builtin;refine Kd.R_append Kd.string (w0:=w) w.heap.size rfl (.tmp 17) (.tmp 22) 29 9 (.string ⟨#[]⟩) 16 rfl Tryd.underlying29 info9 rfl (by decide) (by omega) u3 a3 (a0.extract (a2:Int).toNat (a1:Int).toNat) [.string (a0.extract (a2:Int).toNat (a1:Int).toNat)] (fun _=>True) (fun _=>False) rfl rfl ?aP (fun _ hk=>hk.elim) ?aF ?aO ?aB ?aS ?aL ?_;(case aP=>exact rfl);(case aB=>exact (be HB.out));(case aF=>exact (fun _ _=>trivial));(case aO=>exact (kr a5.out));(case aS=>exact (below_size (be HB.out)));(case aL=>have:=aj.out;omega);intro v324 w12 ho hb hg hat;rw [←ak.out] at ho;refine Ya2 (hb) (ho) ?_;clear HB a5;intro HB al;clear ho hb hg hat))
          go_roundg k1
          case measure=>have:=HK1.out;omega
          case rel=>exact ⟨(ae),(wrap64 (a1+1)),(wrap64 (a1+1)),Ye1,Ye1,H',⟨by have:=HK1.out;omega⟩,⟨kr al.out⟩,⟨be HB.out⟩⟩
         ·rw [if_neg aa] at H
          exact absurd H (by simp)
        ·rw [if_neg c10] at H
         exact absurd H (by simp)
       ·rw [if_neg c9] at H
        exact absurd H (by simp)
      ·rw [if_neg c8] at H
       exact absurd H (by simp)
     ·rw [if_neg c7] at H
      have ah:((bt a0 a1)==47)=false:=beq_eq_false_iff_ne.mpr c7;have ai:((bt a0 a1) != 47)=true:=bne_iff_ne.mpr c7;have H':=Aside0.mk H;clear H;have p6:0≤(a1:Int):=oda;have q6:a1<(a0.size:Int):=oda;have hx6:=bt_at a0 a1;replace p6:=eq_true p6;replace q6:=eq_true q6
      go_wp2
      go_roundg k1
      case measure=>have:=HK1.out;omega
      case rel=>exact ⟨(a3),(a2),(wrap64 (a1+1)),Ye1,Ye1,H',⟨by have:=HK1.out;omega⟩,⟨kr a5.out⟩,⟨be HB.out⟩⟩
    ·rw [if_neg c5] at H
     exact absurd H (by simp)
   ·rw [if_neg c4] at H
    have ag:decide (a1<(a0.size:Int))=false:=decide_eq_false c4;clear c4
    by_cases a7:0≤a2
    ·rw [if_pos a7] at H
     have c13b0:=eq_true a7;have c13b1:decide (0≤a2)=true:=decide_eq_true a7;clear a7
     by_cases a8:a2≤(a0.size:Int)
     ·rw [if_pos a8] at H
      have c14b0:=eq_true a8;have c14b1:decide (a2≤(a0.size:Int))=true:=decide_eq_true a8;clear a8
      by_cases ab:a3.length<8796093022208
      ·rw [if_pos ab] at H
       have am:=Aside0.mk ab;clear ab
       obtain ⟨an,a9⟩:∃ y_:List ByteArray,y_=(a3 ++ [a0.extract (a2:Int).toNat a0.size]):=⟨_,rfl⟩
       replace H:(some an)=some r:=by first|(rw [a9];with_reducible exact H)|(have H2_:=(Option.bind_some _ _).symm.trans H;rw [a9];with_reducible exact H2_)|(have H2_:=(Option.bind_some _ _).symm.trans H;with_reducible exact H2_)|with_reducible exact H|(rw [a9];exact H)|exact H
       have ao:=Aside0.mk a9;clear a9;obtain rfl:=Option.some.inj H
       go_wp2_with (first|((with_reducible refine gate_builtin (b:=.append) (xs:=#[.tmp 26,.tmp 30]) rfl ?_);at_builtin;refine Kd.R_append Kd.string (w0:=w) w.heap.size rfl (.tmp 26) (.tmp 30) 29 9 (.string ⟨#[]⟩) 16 rfl Tryd.underlying29 info9 rfl (by decide) (by omega) u3 a3 (a0.extract (a2:Int).toNat a0.size) [.string (a0.extract (a2:Int).toNat a0.size)] (fun _=>True) (fun _=>False) rfl rfl ?aP (fun _ hk=>hk.elim) ?aF ?aO ?aB ?aS ?aL ?_;(case aP=>exact rfl);(case aB=>exact (be HB.out));(case aF=>exact (fun _ _=>trivial));(case aO=>exact (kr a5.out));(case aS=>exact (below_size (be HB.out)));(case aL=>have:=am.out;omega);intro v327 w16 ho hb hg hat;rw [←ao.out] at ho;refine Ya2 (hb) (ho) ?_;clear HB a5;intro HB ap;clear ho hb hg hat))
       go_ret
       exact ⟨_,Ye2,kr ap.out,be HB.out⟩
      ·rw [if_neg ab] at H
       exact absurd H (by simp)
     ·rw [if_neg a8] at H
      exact absurd H (by simp)
    ·rw [if_neg a7] at H
     exact absurd H (by simp)

end Go.Proofs.YtkmfnmeilooogaaDoor.P


namespace Go.Proofs.YtkmfnmeilooogaaDoor.P
open Go.RowKit Go.Proofs.YtkmfnmeilooogaaDoorW.PrintWords Go.Proofs.YtkmfnmeilooogaaDoorW.PrintLast Go.Proofs.YtkmfnmeilooogaaDoorW.PrintMore
attribute [local go_sem] max2_int min2_int max_two min_two max_three min_three max_four min_four
set_option linter.unusedVariables false
set_option linter.unusedSimpArgs false

def spec_l4Ok.l0:Nat→Bool→List ByteArray→Int→Option (Bool)
 | 0,_,_,_=>none
 | k+1,x1,x5,x6=>if x6<(x5.length:Int) then (if 0≤x6 then ((spec_l4PartOk.f k (rdOf ByteArray.empty x5 x6) x1).bind fun a6=>(if a6=true then (spec_l4Ok.l0 k x1 x5 (wrap64 (x6+1))) else (some false))) else (none)) else (some true)
def spec_l4Ok.f (k:Nat) (a0:ByteArray) (a1:Bool):Option (Bool):=if (a0.size:Int)>126 then (some false) else ((spec_l4Parts.f k a0).bind fun a2=>(if (a2.length:Int)>6 then (some false) else (spec_l4Ok.l0 k a1 a2 0)))
theorem spec_l4Ok.mono_l:∀ k,(∀ y0 y1 y2,LeO (spec_l4Ok.l0 k y0 y1 y2) (spec_l4Ok.l0 (k+1) y0 y1 y2))
 | 0=>fun _ _ _ r h=>by simp [spec_l4Ok.l0] at h
 | k + 1 => by
  have ih0:=spec_l4Ok.mono_l k
  ·intro y0 y1 y2
   unfold spec_l4Ok.l0
   repeat' first
   | (with_reducible exact ih0 _ _ _)
   | (with_reducible exact spec_l4PartOk.mono _ _ _)
   | (with_reducible exact spec_l4Parts.mono _ _)
   | (with_reducible exact LeO.refl _)
   | (with_reducible exact LeO.none _)
   | (with_reducible refine LeO.ite ?_ ?_)
   | (with_reducible refine LeO.bind ?_ (fun _ => ?_))
   | exact ih0 _ _ _
   | exact spec_l4PartOk.mono _ _ _
   | exact spec_l4Parts.mono _ _
   | exact LeO.none _
   | refine LeO.ite ?_ ?_
   | refine LeO.bind ?_ (fun _ => ?_)
theorem spec_l4Ok.mono:∀ a0 a1 k,LeO (spec_l4Ok.f k a0 a1) (spec_l4Ok.f (k+1) a0 a1):=by
 intro a0 a1 k;have ih0:=spec_l4Ok.mono_l k
 unfold spec_l4Ok.f
 repeat' first
   | (with_reducible exact ih0 _ _ _)
   | (with_reducible exact spec_l4PartOk.mono _ _ _)
   | (with_reducible exact spec_l4Parts.mono _ _)
   | (with_reducible exact LeO.refl _)
   | (with_reducible exact LeO.none _)
   | (with_reducible refine LeO.ite ?_ ?_)
   | (with_reducible refine LeO.bind ?_ (fun _ => ?_))
   | exact ih0 _ _ _
   | exact spec_l4PartOk.mono _ _ _
   | exact spec_l4Parts.mono _ _
   | exact LeO.none _
   | refine LeO.ite ?_ ?_
   | refine LeO.bind ?_ (fun _ => ?_)
set_option maxHeartbeats 8000000 in
set_option maxRecDepth 100000 in
theorem spec_l4Ok.calls (k : Nat) (a0 : ByteArray) (a1 : Bool) (r : Bool) (w : World) (h : spec_l4Ok.f k a0 a1 = some r) :
  Calls Tryd.prog 70 #[.string a0,.bool a1] w fun e w'=>e = .returned (.bool r)∧Below w.heap.size w w':=by
 have HB:=Aside0.mk (Below.refl w.heap.size w);have H:(if (a0.size:Int)>126 then (some false) else ((spec_l4Parts.f k a0).bind fun a2=>(if (a2.length:Int)>6 then (some false) else (spec_l4Ok.l0 k a1 a2 0))))=some r:=h;clear h
 by_cases c3:(a0.size:Int)>126
 ·rw [if_pos c3] at H
  have ac:decide (126<(a0.size:Int))=true:=decide_eq_true c3;have ad:decide (126<a0.size)=true:=decide_eq_true (by omega);clear c3;obtain rfl:=Option.some.inj H
  go_enter Tryd.func70,Tryd.ntmps70
  go_wp2
  go_ret
  exact ⟨Ye2,be HB.out⟩
 ·rw [if_neg c3] at H
  have ac:decide (126<(a0.size:Int))=false:=decide_eq_false c3;have ad:decide (126<a0.size)=false:=decide_eq_false (by omega);clear c3;replace H:=Option.bind_eq_some_iff.mp H;obtain ⟨a2,A40,H⟩:=H;replace H:(if (a2.length:Int)>6 then (some false) else (spec_l4Ok.l0 k a1 a2 0))=some r:=H;have A4:=Aside0.mk A40;clear A40
  by_cases c5:(a2.length:Int)>6
  ·rw [if_pos c5] at H
   have ae:decide (6<(a2.length:Int))=true:=decide_eq_true c5;have af:decide (6<a2.length)=true:=decide_eq_true (by omega);clear c5;obtain rfl:=Option.some.inj H
   go_enter Tryd.func70,Tryd.ntmps70
   go_wp2_with (first|((with_reducible refine gc 42 rfl ?_);refine gl (some 11) _ (#[.string a0]) Tryd.func42 ?_;(with_reducible refine (spec_l4Parts.calls k a0 a2 _ A4.out).mono ?_);rintro e w6 ⟨ah,rfl,ho0,hb⟩;refine ⟨_,rfl,?_⟩;refine Ya2 (Kd.R_lower ho0 (below_size (be HB.out))) (below_step (be HB.out) hb) ?_;clear HB;intro a7 HB;(try clear hb);(try clear hb2);(try clear hk);(try clear hi);(try clear ho0);obtain ⟨Ao7,co7,eo7⟩:=Kd.R_slice a7.out;subst eo7))
   go_ret
   exact ⟨Ye2,be HB.out⟩
  ·rw [if_neg c5] at H
   have ae:decide (6<(a2.length:Int))=false:=decide_eq_false c5;have af:decide (6<a2.length)=false:=decide_eq_false (by omega);clear c5;have H':=Aside0.mk H;clear H
   go_enter Tryd.func70,Tryd.ntmps70
   go_wp2_with (first|((with_reducible refine gc 42 rfl ?_);refine gl (some 11) _ (#[.string a0]) Tryd.func42 ?_;(with_reducible refine (spec_l4Parts.calls k a0 a2 _ A4.out).mono ?_);rintro e w8 ⟨ah,rfl,ho0,hb⟩;refine ⟨_,rfl,?_⟩;refine Ya2 (Kd.R_lower ho0 (below_size (be HB.out))) (below_step (be HB.out) hb) ?_;clear HB;intro a7 HB;(try clear hb);(try clear hb2);(try clear hk);(try clear hi);(try clear ho0);obtain ⟨Ao9,co9,eo9⟩:=Kd.R_slice a7.out;subst eo9))
   go_loopg [6] k (fun kq v6 w' => ∃ (a3:Int),v6 = .int .i64 a3∧Aside0 (spec_l4Ok.l0 kq a1 a2 a3=some r)∧Aside0 (kq≤k)∧Aside0 (Kd.R Kd.string 9 w' w.heap.size (fun _=>True) (.slice Ao9 a2.length co9) a2)∧Aside0 (Below w.heap.size w w'))
   case atStart=>exact ⟨(0),Ye1,H',⟨Nat.le_refl _⟩,⟨kr a7.out⟩,⟨be HB.out⟩⟩
   case round =>
    clear H';(try clear p2);(try clear c3);(try clear ac);(try clear ad);(try clear c4);(try clear c5);(try clear ae);(try clear af);(try clear c7);obtain ⟨a3,rfl,HA,HK1,aa,HB⟩:=hrel
    cases gk with
    | zero=>exact absurd HA.out (by simp [spec_l4Ok.l0])
    | succ k1 =>
     have H:=HA.out;clear HA;simp only [spec_l4Ok.l0] at H
     by_cases c10:a3<(a2.length:Int)
     ·rw [if_pos c10] at H
      have ai:decide (a3<(a2.length:Int))=true:=decide_eq_true c10;clear c10
      by_cases a8:0≤a3
      ·rw [if_pos a8] at H
       have c11b0:decide (0≤a3)=true:=decide_eq_true a8;clear a8;replace H:=Option.bind_eq_some_iff.mp H;obtain ⟨a6,ag,H⟩:=H;replace H:(if a6=true then (spec_l4Ok.l0 k1 a1 a2 (wrap64 (a3+1))) else (some false))=some r:=H;have A12:=Aside0.mk ag;clear ag
       by_cases a9:a6=true
       ·subst a9
        have H1:(spec_l4Ok.l0 k1 a1 a2 (wrap64 (a3+1)))=some r:=by rw [if_pos rfl] at H;exact H
        clear H;have H:=H1;clear H1;have H':=Aside0.mk H;clear H;have a4:0≤(a3:Int):=oda;have a5:a3<(a2.length:Int):=oda;obtain ⟨aj,ab,ak⟩:=Kd.at_string (Kd.R_reads' aa.out).2.2 a3 a4 a5
        cases ab
        replace a4:=eq_true a4;replace a5:=eq_true a5
        go_wp2_with (first|((with_reducible refine gc 71 rfl ?_);refine gl (some 26) _ (#[.string (rdOf ByteArray.empty a2 a3),.bool a1]) Tryd.func71 ?_;(with_reducible refine (spec_l4PartOk.calls k1 (rdOf ByteArray.empty a2 a3) a1 true _ A12.out).mono ?_);rintro e w' ⟨rfl,⟨nd,rfl⟩⟩;refine ⟨_,rfl,?_⟩))
        go_roundg k1
        case measure=>have:=HK1.out;omega
        case rel=>exact ⟨(wrap64 (a3+1)),Ye1,H',⟨by have:=HK1.out;omega⟩,⟨kr aa.out⟩,⟨be HB.out⟩⟩
       ·replace a9:=Bool.eq_false_iff.mpr a9;subst a9
        have H1:(some false)=some r:=by rw [if_neg (show ¬(false=true) by decide)] at H;exact H
        clear H;have H:=H1;clear H1;obtain rfl:=Option.some.inj H;have a4:0≤(a3:Int):=oda;have a5:a3<(a2.length:Int):=oda;obtain ⟨aj,ab,ak⟩:=Kd.at_string (Kd.R_reads' aa.out).2.2 a3 a4 a5
        cases ab
        replace a4:=eq_true a4;replace a5:=eq_true a5
        go_wp2_with (first|((with_reducible refine gc 71 rfl ?_);refine gl (some 26) _ (#[.string (rdOf ByteArray.empty a2 a3),.bool a1]) Tryd.func71 ?_;(with_reducible refine (spec_l4PartOk.calls k1 (rdOf ByteArray.empty a2 a3) a1 false _ A12.out).mono ?_);rintro e w' ⟨rfl,⟨nd,rfl⟩⟩;refine ⟨_,rfl,?_⟩))
        go_ret
        exact ⟨Ye2,be HB.out⟩
      ·rw [if_neg a8] at H
       exact absurd H (by simp)
     ·rw [if_neg c10] at H
      have ai:decide (a3<(a2.length:Int))=false:=decide_eq_false c10;clear c10;obtain rfl:=Option.some.inj H
      go_wp2
      go_ret
      exact ⟨Ye2,be HB.out⟩

end Go.Proofs.YtkmfnmeilooogaaDoor.P


namespace Go.Proofs.YtkmfnmeilooogaaDoor.P
open Go.RowKit Go.Proofs.YtkmfnmeilooogaaDoorW.PrintWords Go.Proofs.YtkmfnmeilooogaaDoorW.PrintLast Go.Proofs.YtkmfnmeilooogaaDoorW.PrintMore
attribute [local go_sem] max2_int min2_int max_two min_two max_three min_three max_four min_four
set_option linter.unusedVariables false
set_option linter.unusedSimpArgs false

def spec_ValidPath.f (k:Nat) (a0:ByteArray):Option (Bool):=(spec_l4Ok.f k a0 false).bind fun a1=>(some a1)
theorem spec_ValidPath.mono:∀ a0 k,LeO (spec_ValidPath.f k a0) (spec_ValidPath.f (k+1) a0):=by
 intro a0 k
 unfold spec_ValidPath.f
 repeat' first
   | (with_reducible exact spec_l4Ok.mono _ _ _)
   | (with_reducible exact LeO.refl _)
   | (with_reducible exact LeO.none _)
   | (with_reducible refine LeO.ite ?_ ?_)
   | (with_reducible refine LeO.bind ?_ (fun _ => ?_))
   | exact spec_l4Ok.mono _ _ _
   | exact LeO.none _
   | refine LeO.ite ?_ ?_
   | refine LeO.bind ?_ (fun _ => ?_)
set_option maxHeartbeats 8000000 in
set_option maxRecDepth 100000 in
theorem spec_ValidPath.calls (k:Nat) (a0:ByteArray) (r:Bool) (w:World) (h:spec_ValidPath.f k a0=some r) :
  Calls Tryd.prog 38 #[.string a0] w fun e w'=>e = .returned (.bool r)∧Below w.heap.size w w':=by
 have HB:=Aside0.mk (Below.refl w.heap.size w);have H:((spec_l4Ok.f k a0 false).bind fun a1=>(some a1))=some r:=h;clear h;replace H:=Option.bind_eq_some_iff.mp H;obtain ⟨a1,A20,H⟩:=H;replace H:(some a1)=some r:=H;have A2:=Aside0.mk A20;clear A20;obtain rfl:=Option.some.inj H
 go_enter Tryd.func38,Tryd.ntmps38
 go_wp2_with (first|((with_reducible refine gc 70 rfl ?_);refine gl (some 4) _ (#[.string a0,.bool false]) Tryd.func70 ?_;(with_reducible refine (spec_l4Ok.calls k a0 false a1 _ A2.out).mono ?_);rintro e w3 ⟨rfl,hb⟩;refine ⟨_,rfl,?_⟩;refine Ya1 (below_step (be HB.out) hb) ?_;clear HB;intro HB;(try clear hb);(try clear hb2);(try clear hk);(try clear hi)))
 go_ret
 exact ⟨Ye2,be HB.out⟩

end Go.Proofs.YtkmfnmeilooogaaDoor.P


namespace Go.Proofs.YtkmfnmeilooogaaDoor.P
open Go.RowKit Go.Proofs.YtkmfnmeilooogaaDoorW.PrintWords Go.Proofs.YtkmfnmeilooogaaDoorW.PrintLast Go.Proofs.YtkmfnmeilooogaaDoorW.PrintMore
attribute [local go_sem] max2_int min2_int max_two min_two max_three min_three max_four min_four
set_option linter.unusedVariables false
set_option linter.unusedSimpArgs false

mutual
def spec_ValidTree.l0:Nat→Int→List (S34)→Option (Bool)
 | 0,_,_=>none
 | k+1,x3,a7=>if x3<(a7.length:Int) then (if 0≤x3 then ((spec_ValidPath.f k ((rd_T34 a7 x3).f0)).bind fun az=>(if az=true then (if (((rd_T34 a7 x3).f1).size:Int)>1500 then (spec_ValidTree.j1 k x3 true a7 ((rd_T34 a7 x3).f0) ((rd_T34 a7 x3).f1) ((rd_T34 a7 x3).f2)) else (if x3>0 then (if 0≤(wrap64 (x3 - 1)) then (if (wrap64 (x3 - 1))<(a7.length:Int) then (spec_ValidTree.j1 k x3 (!(Op.bytesLess (((rd_T34 a7 (wrap64 (x3 - 1))).f0).toList) (((rd_T34 a7 x3).f0).toList))) a7 ((rd_T34 a7 x3).f0) ((rd_T34 a7 x3).f1) ((rd_T34 a7 x3).f2)) else (none)) else (none)) else (spec_ValidTree.j1 k x3 false a7 ((rd_T34 a7 x3).f0) ((rd_T34 a7 x3).f1) ((rd_T34 a7 x3).f2)))) else (spec_ValidTree.j1 k x3 true a7 ((rd_T34 a7 x3).f0) ((rd_T34 a7 x3).f1) ((rd_T34 a7 x3).f2)))) else (none)) else (some true)
def spec_ValidTree.j1:Nat→Int→Bool→List (S34)→ByteArray→ByteArray→Bool→Option (Bool)
 | 0,_,_,_,_,_,_=>none
 | k+1,x3,x47,a7,aA,aK,aL=>if x47=true then (some false) else (spec_ValidTree.l1 k x3 0 a7 aA aK aL)
def spec_ValidTree.l1:Nat→Int→Int→List (S34)→ByteArray→ByteArray→Bool→Option (Bool)
 | 0,_,_,_,_,_,_=>none
 | k+1,x3,x5,a7,aA,aK,aL=>if x5<x3 then (if 0≤x5 then (if x5<(a7.length:Int) then ((spec_l5Begins.f ((rd_T34 a7 x5).f0) aA).bind fun aB=>(if aB=true then (some false) else (spec_ValidTree.l1 k x3 (wrap64 (x5+1)) a7 aA aK aL))) else (none)) else (none)) else (spec_ValidTree.l0 k (wrap64 (x3+1)) a7)
end
def spec_ValidTree.f (k:Nat) (a1:List (S34)):Option (Bool):=if (a1.length:Int)>100 then (some false) else (spec_ValidTree.l0 k 0 a1)
theorem spec_ValidTree.mono_l:∀ k,(∀ y0 y1,LeO (spec_ValidTree.l0 k y0 y1) (spec_ValidTree.l0 (k+1) y0 y1))∧(∀ y0 y1 y2 y3 y4 y5,LeO (spec_ValidTree.j1 k y0 y1 y2 y3 y4 y5) (spec_ValidTree.j1 (k+1) y0 y1 y2 y3 y4 y5))∧(∀ y0 y1 y2 y3 y4 y5,LeO (spec_ValidTree.l1 k y0 y1 y2 y3 y4 y5) (spec_ValidTree.l1 (k+1) y0 y1 y2 y3 y4 y5))
 | 0=>⟨fun _ _ r h=>by simp [spec_ValidTree.l0] at h,fun _ _ _ _ _ _ r h=>by simp [spec_ValidTree.j1] at h,fun _ _ _ _ _ _ r h=>by simp [spec_ValidTree.l1] at h⟩
 | k + 1 => by
  obtain ⟨ih0,ih1,ih2⟩:=spec_ValidTree.mono_l k;refine ⟨?_,?_,?_⟩
  ·intro y0 y1
   unfold spec_ValidTree.l0
   repeat' first
   | (with_reducible exact ih0 _ _)
   | (with_reducible exact ih1 _ _ _ _ _ _)
   | (with_reducible exact ih2 _ _ _ _ _ _)
   | (with_reducible exact spec_ValidPath.mono _ _)
   | (with_reducible exact LeO.refl _)
   | (with_reducible exact LeO.none _)
   | (with_reducible refine LeO.ite ?_ ?_)
   | (with_reducible refine LeO.bind ?_ (fun _ => ?_))
   | exact ih0 _ _
   | exact ih1 _ _ _ _ _ _
   | exact ih2 _ _ _ _ _ _
   | exact spec_ValidPath.mono _ _
   | exact LeO.none _
   | refine LeO.ite ?_ ?_
   | refine LeO.bind ?_ (fun _ => ?_)
  ·intro y0 y1 y2 y3 y4 y5
   unfold spec_ValidTree.j1
   repeat' first
   | (with_reducible exact ih0 _ _)
   | (with_reducible exact ih1 _ _ _ _ _ _)
   | (with_reducible exact ih2 _ _ _ _ _ _)
   | (with_reducible exact spec_ValidPath.mono _ _)
   | (with_reducible exact LeO.refl _)
   | (with_reducible exact LeO.none _)
   | (with_reducible refine LeO.ite ?_ ?_)
   | (with_reducible refine LeO.bind ?_ (fun _ => ?_))
   | exact ih0 _ _
   | exact ih1 _ _ _ _ _ _
   | exact ih2 _ _ _ _ _ _
   | exact spec_ValidPath.mono _ _
   | exact LeO.none _
   | refine LeO.ite ?_ ?_
   | refine LeO.bind ?_ (fun _ => ?_)
  ·intro y0 y1 y2 y3 y4 y5
   unfold spec_ValidTree.l1
   repeat' first
   | (with_reducible exact ih0 _ _)
   | (with_reducible exact ih1 _ _ _ _ _ _)
   | (with_reducible exact ih2 _ _ _ _ _ _)
   | (with_reducible exact spec_ValidPath.mono _ _)
   | (with_reducible exact LeO.refl _)
   | (with_reducible exact LeO.none _)
   | (with_reducible refine LeO.ite ?_ ?_)
   | (with_reducible refine LeO.bind ?_ (fun _ => ?_))
   | exact ih0 _ _
   | exact ih1 _ _ _ _ _ _
   | exact ih2 _ _ _ _ _ _
   | exact spec_ValidPath.mono _ _
   | exact LeO.none _
   | refine LeO.ite ?_ ?_
   | refine LeO.bind ?_ (fun _ => ?_)
theorem spec_ValidTree.mono:∀ a0 k,LeO (spec_ValidTree.f k a0) (spec_ValidTree.f (k+1) a0):=by
 intro a0 k;obtain ⟨ih0,ih1,ih2⟩:=spec_ValidTree.mono_l k
 unfold spec_ValidTree.f
 repeat' first
   | (with_reducible exact ih0 _ _)
   | (with_reducible exact ih1 _ _ _ _ _ _)
   | (with_reducible exact ih2 _ _ _ _ _ _)
   | (with_reducible exact spec_ValidPath.mono _ _)
   | (with_reducible exact LeO.refl _)
   | (with_reducible exact LeO.none _)
   | (with_reducible refine LeO.ite ?_ ?_)
   | (with_reducible refine LeO.bind ?_ (fun _ => ?_))
   | exact ih0 _ _
   | exact ih1 _ _ _ _ _ _
   | exact ih2 _ _ _ _ _ _
   | exact spec_ValidPath.mono _ _
   | exact LeO.none _
   | refine LeO.ite ?_ ?_
   | refine LeO.bind ?_ (fun _ => ?_)
def spec_ValidTree.T7:Bool×List (List Nat×List Nat):=(true,[([],[]),([0],[0]),([1],[1]),([2],[2]),([3,2],[3]),([4],[4]),([5,4],[4,5]),([6,4],[4,6]),([7,4],[4,7]),([4,8],[4,8]),([9,4],[9]),([10],[10]),([11,10],[10,11]),([12,10,10],[10,12]),([13],[13]),([14,13],[13,14]),([13],[13]),([16,13],[13,16]),([15,17,13],[13,15,17]),([18,13],[13,18]),([19,13],[13,19]),([13],[13]),([21,13],[13,21]),([20,22,13],[13,20,22]),([13,23,10],[10,13,23]),([10,24],[10,24])])
def spec_ValidTree.B7:List Nat:=[0,1,3,7,15,31,63,127,255,511,1023,2047,4095,8191,16383,32767,16383,81919,262143,524287,1048575,16383,2113535,8388607,16777215,33554431]
theorem spec_ValidTree.tab7:rtab .any (opsOf Tryd.f79 7)=spec_ValidTree.T7:=by kernel_rfl
theorem spec_ValidTree.bits7:waitsOk spec_ValidTree.T7.2 spec_ValidTree.B7=true:=by kernel_rfl
def spec_ValidTree.T12:Bool×List (List Nat×List Nat):=(true,[([],[]),([0],[0]),([],[]),([1,2],[1,2]),([3],[3]),([4],[4]),([],[]),([6],[6]),([5,7],[5,7])])
def spec_ValidTree.B12:List Nat:=[0,1,0,7,15,31,0,64,255]
theorem spec_ValidTree.tab12:rtab .any (opsOf Tryd.f79 12)=spec_ValidTree.T12:=by kernel_rfl
theorem spec_ValidTree.bits12:waitsOk spec_ValidTree.T12.2 spec_ValidTree.B12=true:=by kernel_rfl
set_option maxHeartbeats 8000000 in
set_option maxRecDepth 100000 in
theorem spec_ValidTree.calls (k : Nat) (au : Option Addr) (ae : Nat) (a1 : List (S34)) (r : Bool) (w : World) (aV : Kd.C k34 w au a1.length a1) (aW : a1.length ≤ ae) (h : spec_ValidTree.f k a1 = some r) :
  Calls Tryd.prog 79 #[.agg #[.slice au a1.length ae]] w fun e w'=>e = .returned (.bool r)∧Below w.heap.size w w':=by
 have hu50:=Tryd.underlying50;have hu34:=Tryd.underlying34;have aC:=Aside0.mk aV;have HC0_0:=Aside0.mk aW;clear aV aW;have HB:=Aside0.mk (Below.refl w.heap.size w);have H:(if (a1.length:Int)>100 then (some false) else (spec_ValidTree.l0 k 0 a1))=some r:=h;clear h
 by_cases c2:(a1.length:Int)>100
 ·rw [if_pos c2] at H
  have aX:decide (100<(a1.length:Int))=true:=decide_eq_true c2;have aY:decide (100<a1.length)=true:=decide_eq_true (by omega);clear c2;obtain rfl:=Option.some.inj H
  go_enter Tryd.func79,Tryd.ntmps79
  go_wp2_with (first|((with_reducible refine gd 1 rfl ?_);(try (refine gate_guard (by rfl) ?_;dsimp only));refine bx 1 50 (#[.slice au a1.length ae]) ?_;intro af hg w3 hbox hb;refine Ya4 (below_step (be HB.out) hb) (hbox) (bs hg (be HB.out)) (bs hg (be HB.out)) ?_;clear HB;intro HB a4 b1 b2;clear hb hbox hg;have ⟨b3,b4⟩:=Yc1 a4.out))
  go_ret
  exact ⟨Ye2,(bf HB.out)⟩
 ·rw [if_neg c2] at H
  have aX:decide (100<(a1.length:Int))=false:=decide_eq_false c2;have aY:decide (100<a1.length)=false:=decide_eq_false (by omega);clear c2;have H':=Aside0.mk H;clear H
  go_enter Tryd.func79,Tryd.ntmps79
  go_wp2_with (first|((with_reducible refine gd 1 rfl ?_);(try (refine gate_guard (by rfl) ?_;dsimp only));refine bx 1 50 (#[.slice au a1.length ae]) ?_;intro af hg w5 hbox hb;refine Ya4 (below_step (be HB.out) hb) (hbox) (bs hg (be HB.out)) (bs hg (be HB.out)) ?_;clear HB;intro HB a4 b1 b2;clear hb hbox hg;have ⟨b5,b6⟩:=Yc1 a4.out))
  go_loopg [3] k (fun kq v3 w' => ∃ (a2:Int),v3 = .int .i64 a2∧Aside0 (spec_ValidTree.l0 kq a2 a1=some r)∧Aside0 (kq≤k)∧Aside0 (w'.heap[af]? = some (.cells #[(.slice au a1.length ae)] 50 (0,0)))∧Aside0 (Below w.heap.size w w'))
  case atStart=>exact ⟨(0),Ye1,H',⟨Nat.le_refl _⟩,⟨bk a4.out⟩,⟨bf HB.out⟩⟩
  case round =>
   clear H';(try clear c2);(try clear aX);(try clear aY);(try clear p2);(try clear b3);(try clear b5);(try clear b4);(try clear b6);obtain ⟨a2,rfl,HA,HK1,a4,HB⟩:=hrel
   cases gk with
   | zero=>exact absurd HA.out (by simp [spec_ValidTree.l0])
   | succ k1 =>
    have H:=HA.out;clear HA;simp only [spec_ValidTree.l0] at H
    by_cases c7:a2<(a1.length:Int)
    ·rw [if_pos c7] at H
     have b7:decide (a2<(a1.length:Int))=true:=decide_eq_true c7;clear c7
     by_cases c8:0≤a2
     ·rw [if_pos c8] at H
      have c8b0:decide (0≤a2)=true:=decide_eq_true c8;clear c8;have aM:=Aside0.mk H;clear H;have ⟨bi,bj⟩:=Yc1 a4.out;have aN:0≤(a2:Int):=oda;have aO:a2<(a1.length:Int):=oda;obtain ⟨a8,b8,bm,bn,bo⟩:=at_T34 (Kd.C_below aC.out HB.out) a2 aN aO
      cases b8
      replace aN:=eq_true aN;replace aO:=eq_true aO
      go_upto_region 7 with (first|((with_reducible refine gd 4 rfl ?_);(try (refine gate_guard (by rfl) ?_;dsimp only));refine bx 4 34 (#[.string (⟨#[]⟩:ByteArray),.string (⟨#[]⟩:ByteArray),.bool false]) ?_;intro a5 hg aa hbox hb;refine Ya7 (bb a4 hb) (below_step (bf HB.out) hb) (hbox) (bs hg (bf HB.out)) (bs hg (bf HB.out)) (bl hg a4) (br hg a4) ?_;clear a4 HB;intro a4 HB a3 GW470 GE470 av b9;clear hb hbox hg;have hnb12:=b9.out;have hnc12:=av.out;have ⟨bq,bu,bv,bw,bz,bA⟩:=Yc3 a3.out))
      (try simp only [Act.put,List.setIfInBounds_toArray,List.set_cons_zero,List.set_cons_succ])
      go_cut [47] (fun v47 wc => ∃ (kq:Nat) (aD:Bool),v47 = .bool aD∧Aside0 (spec_ValidTree.j1 kq a2 aD a1 ((rd_T34 a1 a2).f0) ((rd_T34 a1 a2).f1) ((rd_T34 a1 a2).f2)=some r)∧Aside0 (kq≤k1)∧Aside0 (wc.heap[af]? = some (.cells #[(.slice (some a8) a1.length ae)] 50 (0,0)))∧Aside0 (wc.heap[a5]? = some (.cells #[.string ((rd_T34 a1 a2).f0),.string ((rd_T34 a1 a2).f1),.bool ((rd_T34 a1 a2).f2)] 34 (0,0)))∧Aside0 (Below w.heap.size w wc))
      case first =>
       have H:=aM.out;clear aM;replace H:=Option.bind_eq_some_iff.mp H;obtain ⟨az,aZ,H⟩:=H;replace H:(if az=true then (if (((rd_T34 a1 a2).f1).size:Int)>1500 then (spec_ValidTree.j1 k1 a2 true a1 ((rd_T34 a1 a2).f0) ((rd_T34 a1 a2).f1) ((rd_T34 a1 a2).f2)) else (if a2>0 then (if 0≤(wrap64 (a2 - 1)) then (if (wrap64 (a2 - 1))<(a1.length:Int) then (spec_ValidTree.j1 k1 a2 (!(Op.bytesLess (((rd_T34 a1 (wrap64 (a2 - 1))).f0).toList) (((rd_T34 a1 a2).f0).toList))) a1 ((rd_T34 a1 a2).f0) ((rd_T34 a1 a2).f1) ((rd_T34 a1 a2).f2)) else (none)) else (none)) else (spec_ValidTree.j1 k1 a2 false a1 ((rd_T34 a1 a2).f0) ((rd_T34 a1 a2).f1) ((rd_T34 a1 a2).f2)))) else (spec_ValidTree.j1 k1 a2 true a1 ((rd_T34 a1 a2).f0) ((rd_T34 a1 a2).f1) ((rd_T34 a1 a2).f2)))=some r:=H;have aw:=Aside0.mk aZ;clear aZ
       by_cases an:az=true
       ·subst an
        have H1:(if (((rd_T34 a1 a2).f1).size:Int)>1500 then (spec_ValidTree.j1 k1 a2 true a1 ((rd_T34 a1 a2).f0) ((rd_T34 a1 a2).f1) ((rd_T34 a1 a2).f2)) else (if a2>0 then (if 0≤(wrap64 (a2 - 1)) then (if (wrap64 (a2 - 1))<(a1.length:Int) then (spec_ValidTree.j1 k1 a2 (!(Op.bytesLess (((rd_T34 a1 (wrap64 (a2 - 1))).f0).toList) (((rd_T34 a1 a2).f0).toList))) a1 ((rd_T34 a1 a2).f0) ((rd_T34 a1 a2).f1) ((rd_T34 a1 a2).f2)) else (none)) else (none)) else (spec_ValidTree.j1 k1 a2 false a1 ((rd_T34 a1 a2).f0) ((rd_T34 a1 a2).f1) ((rd_T34 a1 a2).f2))))=some r:=by rw [if_pos rfl] at H;exact H
        clear H;have H:=H1;clear H1
        by_cases ao:(((rd_T34 a1 a2).f1).size:Int)>1500
        ·rw [if_pos ao] at H
         have ax:decide (1500<(((rd_T34 a1 a2).f1).size:Int))=true:=decide_eq_true ao;have ba:decide (1500<((rd_T34 a1 a2).f1).size)=true:=decide_eq_true (by omega);clear ao;(first|rw [ax]|(simp only [i64_w,i32_w];rw [ax])|skip);have H':=Aside0.mk H;clear H
         try go_wp2
         have ab:Aside0 ((((aa.setCell ⟨a5,0,none⟩ (.string ((rd_T34 a1 a2).f0))).setCell ⟨a5,1,none⟩ (.string ((rd_T34 a1 a2).f1))).setCell ⟨a5,2,none⟩ (.bool ((rd_T34 a1 a2).f2))).heap[af]? = some (.cells #[.slice (some a8) a1.length ae] 50 (0,0))):=⟨bkf a4.out av.out⟩
         have ac:Aside0 ((((aa.setCell ⟨a5,0,none⟩ (.string ((rd_T34 a1 a2).f0))).setCell ⟨a5,1,none⟩ (.string ((rd_T34 a1 a2).f1))).setCell ⟨a5,2,none⟩ (.bool ((rd_T34 a1 a2).f2))).heap[a5]? = some (.cells #[.string ((rd_T34 a1 a2).f0),.string ((rd_T34 a1 a2).f1),.bool ((rd_T34 a1 a2).f2)] 34 (0,0))):=⟨bp a3.out⟩
         have ad:Aside0 (Below w.heap.size w (((aa.setCell ⟨a5,0,none⟩ (.string ((rd_T34 a1 a2).f0))).setCell ⟨a5,1,none⟩ (.string ((rd_T34 a1 a2).f1))).setCell ⟨a5,2,none⟩ (.bool ((rd_T34 a1 a2).f2)))):=⟨bf HB.out⟩
         (try clear a4);(try clear a3);(try clear HB);generalize (((aa.setCell ⟨a5,0,none⟩ (.string ((rd_T34 a1 a2).f0))).setCell ⟨a5,1,none⟩ (.string ((rd_T34 a1 a2).f1))).setCell ⟨a5,2,none⟩ (.bool ((rd_T34 a1 a2).f2)))=w17 at ab ac ad ⊢; have a4:=ab;have a3:=ac;have HB:=ad;clear ab ac ad;refine Ya3 (blk_drew a4.out) (blk_drew a3.out) (below_drew1 HB.out) ?_;clear a4 a3 HB;intro a4 a3 HB;refine start_ (n:=26) (S:=fun w'=>w'.cell? ⟨a5,0,none⟩=some (.string ((rd_T34 a1 a2).f0))∧w'.cell? ⟨a5,1,none⟩=some (.string ((rd_T34 a1 a2).f1))∧w'.cell? ⟨a5,2,none⟩=some (.bool ((rd_T34 a1 a2).f2))) (ds:=[]) (fb 26 0) (by kernel_rfl) rfl rfl ⟨bc a3 0,bc a3 1,bc a3 2⟩ (fun hHeld => ?_);refine with_tabW spec_ValidTree.tab7 spec_ValidTree.bits7 (fun HT_ HW_ => ?_);generalize w17.drew=w18 at a4 a3 HB hHeld ⊢; refine pu 0 22 (fb 26 1) HT_ ?_;refine tk 1 23 (fb 26 3) HT_ HW_ hHeld ?_;refine o1 2 (some 24) (fb 26 7) HT_ (fun K hK => ?_);refine gs _ (#[.string ((rd_T34 a1 a2).f0)]) Tryd.func38 ?_;(with_reducible refine (spec_ValidPath.calls k1 ((rd_T34 a1 a2).f0) true _ aw.out).mono ?_);rintro e w19 ⟨rfl,hb⟩;refine ⟨_,rfl,?_⟩;refine Ya3 (bb a4 hb) (bb a3 hb) (below_step (bf HB.out) hb) ?_;clear a4 a3 HB;intro a4 a3 HB;(try clear hb);(try clear hb2);(try clear hk);(try clear hi);refine hK.out _ _ ⟨bc a3 0,bc a3 1,bc a3 2⟩ (fun hHeld => ?_);clear hK K;refine nm 24 ?_;refine pu 3 25 (fb 26 15) HT_ ?_;refine pu 4 26 (fb 26 31) HT_ ?_;refine pu 5 27 (fb 26 63) HT_ ?_;refine tk 6 28 (fb 26 127) HT_ HW_ hHeld ?_;refine pu 7 29 (fb 26 255) HT_ ?_;refine pu 8 30 (fb 26 511) HT_ ?_;refine pu 9 31 (fb 26 1023) HT_ ?_;refine pu 10 32 (fb 26 2047) HT_ ?_;refine pn 11 33 (fb 26 4095) HT_ ?_;refine pn 12 34 (fb 26 8191) HT_ ?_;refine pn 13 35 (fb 26 16383) HT_ ?_;refine pn 14 36 (fb 26 32767) HT_ ?_;refine pn 15 37 (fb 26 65535) HT_ ?_;refine pn 16 38 (fb 26 131071) HT_ ?_;refine pn 17 39 (fb 26 262143) HT_ ?_;refine pn 18 40 (fb 26 524287) HT_ ?_;refine pn 19 41 (fb 26 1048575) HT_ ?_;refine pn 20 42 (fb 26 2097151) HT_ ?_;refine pn 21 43 (fb 26 4194303) HT_ ?_;refine pn 22 44 (fb 26 8388607) HT_ ?_;refine pn 23 45 (fb 26 16777215) HT_ ?_;refine pn 24 46 (fb 26 33554431) HT_ ?_;refine pu 25 47 (fb 26 67108863) HT_ ?_;refine done_ (done_of HT_.out (by kernel_rfl)) ?_
         try go_wp2
         go_meet
         case rel=>exact ⟨_,(true),Ye1,H',⟨by have:=HK1.out;first|omega|exact Nat.le_refl _⟩,⟨bk a4.out⟩,⟨bk a3.out⟩,⟨bf HB.out⟩⟩
        ·rw [if_neg ao] at H
         have ax:decide (1500<(((rd_T34 a1 a2).f1).size:Int))=false:=decide_eq_false ao;have ba:decide (1500<((rd_T34 a1 a2).f1).size)=false:=decide_eq_false (by omega);clear ao;(first|rw [ax]|(simp only [i64_w,i32_w];rw [ax])|skip)
         by_cases aj:a2>0
         ·rw [if_pos aj] at H
          have aP:decide (0<a2)=true:=decide_eq_true aj;clear aj
          obtain ⟨a9,ak⟩:∃ j_:Int,(wrap64 (a2 - 1))=j_:=⟨_,rfl⟩
          replace H:(if 0≤(a9) then (if (a9)<(a1.length:Int) then (spec_ValidTree.j1 k1 a2 (!(Op.bytesLess (((rd_T34 a1 (a9)).f0).toList) (((rd_T34 a1 a2).f0).toList))) a1 ((rd_T34 a1 a2).f0) ((rd_T34 a1 a2).f1) ((rd_T34 a1 a2).f2)) else (none)) else (none))=some r:=by first|(rw [ak] at H;exact H)|(simp only [ak] at H ⊢; exact H)
          (try rw [ak] at aw);have hji21w:(IntKind.i64.wrap (a2 - 1))=a9:=(i64_w _).trans ak
          by_cases ap:0≤(a9)
          ·rw [if_pos ap] at H
           have c22b0:decide (0≤(a9))=true:=decide_eq_true ap;clear ap
           by_cases aq:(a9)<(a1.length:Int)
           ·rw [if_pos aq] at H
            have c23b0:decide ((a9)<(a1.length:Int))=true:=decide_eq_true aq;clear aq;have H':=Aside0.mk H;clear H
            try go_wp2
            have ab:Aside0 ((((aa.setCell ⟨a5,0,none⟩ (.string ((rd_T34 a1 a2).f0))).setCell ⟨a5,1,none⟩ (.string ((rd_T34 a1 a2).f1))).setCell ⟨a5,2,none⟩ (.bool ((rd_T34 a1 a2).f2))).heap[af]? = some (.cells #[.slice (some a8) a1.length ae] 50 (0,0))):=⟨bkf a4.out av.out⟩
            have ac:Aside0 ((((aa.setCell ⟨a5,0,none⟩ (.string ((rd_T34 a1 a2).f0))).setCell ⟨a5,1,none⟩ (.string ((rd_T34 a1 a2).f1))).setCell ⟨a5,2,none⟩ (.bool ((rd_T34 a1 a2).f2))).heap[a5]? = some (.cells #[.string ((rd_T34 a1 a2).f0),.string ((rd_T34 a1 a2).f1),.bool ((rd_T34 a1 a2).f2)] 34 (0,0))):=⟨bp a3.out⟩
            have ad:Aside0 (Below w.heap.size w (((aa.setCell ⟨a5,0,none⟩ (.string ((rd_T34 a1 a2).f0))).setCell ⟨a5,1,none⟩ (.string ((rd_T34 a1 a2).f1))).setCell ⟨a5,2,none⟩ (.bool ((rd_T34 a1 a2).f2)))):=⟨bf HB.out⟩
            (try clear a4);(try clear a3);(try clear HB);generalize (((aa.setCell ⟨a5,0,none⟩ (.string ((rd_T34 a1 a2).f0))).setCell ⟨a5,1,none⟩ (.string ((rd_T34 a1 a2).f1))).setCell ⟨a5,2,none⟩ (.bool ((rd_T34 a1 a2).f2)))=w24 at ab ac ad ⊢; have a4:=ab;have a3:=ac;have HB:=ad;clear ab ac ad;refine Ya3 (blk_drew a4.out) (blk_drew a3.out) (below_drew1 HB.out) ?_;clear a4 a3 HB;intro a4 a3 HB;have aQ:0≤((a9):Int):=oda;have aR:(a9)<(a1.length:Int):=oda;obtain ⟨bd,bg,aE,aF,aG⟩:=at_T34 aC.out (a9) aQ aR;have hw472_2:=aG;have hw472_1:=aF;have hw472_0:=aE
            obtain rfl:a8=bd:=(by injection bg)
            replace aE:=pw_cell_below HB.out aE;replace aF:=pw_cell_below HB.out aF;replace aG:=pw_cell_below HB.out aG;replace aQ:=eq_true aQ;replace aR:=eq_true aR;refine start_ (n:=26) (S:=fun w'=>w'.cell? ⟨a5,0,none⟩=some (.string ((rd_T34 a1 a2).f0))∧w'.cell? ⟨a5,1,none⟩=some (.string ((rd_T34 a1 a2).f1))∧w'.cell? ⟨a5,2,none⟩=some (.bool ((rd_T34 a1 a2).f2))∧w'.cell? ⟨af,0,none⟩=some (.slice (some a8) a1.length ae)∧w'.cell? (a8.add (((a9)).toNat*3))=some (.string ((rd_T34 a1 (a9)).f0))∧w'.cell? ⟨(a8.add (((a9)).toNat*3)).block,(a8.add (((a9)).toNat*3)).off+1,none⟩=some (.string ((rd_T34 a1 (a9)).f1))∧w'.cell? ⟨(a8.add (((a9)).toNat*3)).block,(a8.add (((a9)).toNat*3)).off+2,none⟩=some (.bool ((rd_T34 a1 (a9)).f2))) (ds:=[]) (fb 26 0) (by kernel_rfl) rfl rfl ⟨bc a3 0,bc a3 1,bc a3 2,bc a4 0,(pw_cell_below HB.out hw472_0),(pw_cell_below HB.out hw472_1),(pw_cell_below HB.out hw472_2)⟩ (fun hHeld => ?_);refine with_tabW spec_ValidTree.tab7 spec_ValidTree.bits7 (fun HT_ HW_ => ?_);generalize w24.drew=w25 at a4 a3 HB aE aF aG hHeld ⊢; refine pu 0 22 (fb 26 1) HT_ ?_;refine tk 1 23 (fb 26 3) HT_ HW_ hHeld ?_;refine o1 2 (some 24) (fb 26 7) HT_ (fun K hK => ?_);refine gs _ (#[.string ((rd_T34 a1 a2).f0)]) Tryd.func38 ?_;(with_reducible refine (spec_ValidPath.calls k1 ((rd_T34 a1 a2).f0) true _ aw.out).mono ?_);rintro e w26 ⟨rfl,hb⟩;refine ⟨_,rfl,?_⟩;refine Ya3 (bb a4 hb) (bb a3 hb) (below_step (bf HB.out) hb) ?_;clear a4 a3 HB;intro a4 a3 HB;(try clear hb);(try clear hb2);(try clear hk);(try clear hi);refine hK.out _ _ ⟨bc a3 0,bc a3 1,bc a3 2,bc a4 0,(pw_cell_below HB.out hw472_0),(pw_cell_below HB.out hw472_1),(pw_cell_below HB.out hw472_2)⟩ (fun hHeld => ?_);clear hK K;refine nm 24 ?_;refine pu 3 25 (fb 26 15) HT_ ?_;refine pu 4 26 (fb 26 31) HT_ ?_;refine pu 5 27 (fb 26 63) HT_ ?_;refine tk 6 28 (fb 26 127) HT_ HW_ hHeld ?_;refine pu 7 29 (fb 26 255) HT_ ?_;refine pu 8 30 (fb 26 511) HT_ ?_;refine pu 9 31 (fb 26 1023) HT_ ?_;refine pu 10 32 (fb 26 2047) HT_ ?_;refine pu 11 33 (fb 26 4095) HT_ ?_;refine pu 12 34 (fb 26 8191) HT_ ?_;refine pu 13 35 (fb 26 16383) HT_ ?_;refine pu 14 36 (fb 26 32767) HT_ ?_;refine pu 16 38 (fb 26 98303) HT_ ?_;refine pu 17 39 (fb 26 229375) HT_ ?_;refine pu 21 43 (fb 26 2326527) HT_ ?_;refine tk 15 37 (fb 26 2359295) HT_ HW_ hHeld ?_;refine pu 18 40 (fb 26 2621439) HT_ ?_;refine pu 19 41 (fb 26 3145727) HT_ ?_;refine tk 20 42 (fb 26 4194303) HT_ HW_ hHeld ?_;refine tk 22 44 (fb 26 8388607) HT_ HW_ hHeld ?_;refine pu 23 45 (fb 26 16777215) HT_ ?_;refine pu 24 46 (fb 26 33554431) HT_ ?_;refine pu 25 47 (fb 26 67108863) HT_ ?_;refine done_ (done_of HT_.out (by kernel_rfl)) ?_
            try go_wp2
            go_meet
            case rel=>exact ⟨_,(!(Op.bytesLess (((rd_T34 a1 (a9)).f0).toList) (((rd_T34 a1 a2).f0).toList))),(by first|rfl|(simp;done)|(simp only [←ak] <;> (first|rfl|simp))|(simp [*];done)),(by first|exact H'|(subst ak;exact H')|(simp only [←ak] at H' ⊢; exact H')),⟨by have:=HK1.out;first|omega|exact Nat.le_refl _⟩,⟨bk a4.out⟩,⟨bk a3.out⟩,⟨bf HB.out⟩⟩
           ·rw [if_neg aq] at H
            exact absurd H (by simp)
          ·rw [if_neg ap] at H
           exact absurd H (by simp)
         ·rw [if_neg aj] at H
          have aP:decide (0<a2)=false:=decide_eq_false aj;clear aj;have H':=Aside0.mk H;clear H
          try go_wp2
          have ab:Aside0 ((((aa.setCell ⟨a5,0,none⟩ (.string ((rd_T34 a1 a2).f0))).setCell ⟨a5,1,none⟩ (.string ((rd_T34 a1 a2).f1))).setCell ⟨a5,2,none⟩ (.bool ((rd_T34 a1 a2).f2))).heap[af]? = some (.cells #[.slice (some a8) a1.length ae] 50 (0,0))):=⟨bkf a4.out av.out⟩
          have ac:Aside0 ((((aa.setCell ⟨a5,0,none⟩ (.string ((rd_T34 a1 a2).f0))).setCell ⟨a5,1,none⟩ (.string ((rd_T34 a1 a2).f1))).setCell ⟨a5,2,none⟩ (.bool ((rd_T34 a1 a2).f2))).heap[a5]? = some (.cells #[.string ((rd_T34 a1 a2).f0),.string ((rd_T34 a1 a2).f1),.bool ((rd_T34 a1 a2).f2)] 34 (0,0))):=⟨bp a3.out⟩
          have ad:Aside0 (Below w.heap.size w (((aa.setCell ⟨a5,0,none⟩ (.string ((rd_T34 a1 a2).f0))).setCell ⟨a5,1,none⟩ (.string ((rd_T34 a1 a2).f1))).setCell ⟨a5,2,none⟩ (.bool ((rd_T34 a1 a2).f2)))):=⟨bf HB.out⟩
          (try clear a4);(try clear a3);(try clear HB);generalize (((aa.setCell ⟨a5,0,none⟩ (.string ((rd_T34 a1 a2).f0))).setCell ⟨a5,1,none⟩ (.string ((rd_T34 a1 a2).f1))).setCell ⟨a5,2,none⟩ (.bool ((rd_T34 a1 a2).f2)))=w27 at ab ac ad ⊢; have a4:=ab;have a3:=ac;have HB:=ad;clear ab ac ad;refine Ya3 (blk_drew a4.out) (blk_drew a3.out) (below_drew1 HB.out) ?_;clear a4 a3 HB;intro a4 a3 HB;refine start_ (n:=26) (S:=fun w'=>w'.cell? ⟨a5,0,none⟩=some (.string ((rd_T34 a1 a2).f0))∧w'.cell? ⟨a5,1,none⟩=some (.string ((rd_T34 a1 a2).f1))∧w'.cell? ⟨a5,2,none⟩=some (.bool ((rd_T34 a1 a2).f2))) (ds:=[]) (fb 26 0) (by kernel_rfl) rfl rfl ⟨bc a3 0,bc a3 1,bc a3 2⟩ (fun hHeld => ?_);refine with_tabW spec_ValidTree.tab7 spec_ValidTree.bits7 (fun HT_ HW_ => ?_);generalize w27.drew=w28 at a4 a3 HB hHeld ⊢; refine pu 0 22 (fb 26 1) HT_ ?_;refine tk 1 23 (fb 26 3) HT_ HW_ hHeld ?_;refine o1 2 (some 24) (fb 26 7) HT_ (fun K hK => ?_);refine gs _ (#[.string ((rd_T34 a1 a2).f0)]) Tryd.func38 ?_;(with_reducible refine (spec_ValidPath.calls k1 ((rd_T34 a1 a2).f0) true _ aw.out).mono ?_);rintro e w29 ⟨rfl,hb⟩;refine ⟨_,rfl,?_⟩;refine Ya3 (bb a4 hb) (bb a3 hb) (below_step (bf HB.out) hb) ?_;clear a4 a3 HB;intro a4 a3 HB;(try clear hb);(try clear hb2);(try clear hk);(try clear hi);refine hK.out _ _ ⟨bc a3 0,bc a3 1,bc a3 2⟩ (fun hHeld => ?_);clear hK K;refine nm 24 ?_;refine pu 3 25 (fb 26 15) HT_ ?_;refine pu 4 26 (fb 26 31) HT_ ?_;refine pu 5 27 (fb 26 63) HT_ ?_;refine tk 6 28 (fb 26 127) HT_ HW_ hHeld ?_;refine pu 7 29 (fb 26 255) HT_ ?_;refine pu 8 30 (fb 26 511) HT_ ?_;refine pu 9 31 (fb 26 1023) HT_ ?_;refine pu 10 32 (fb 26 2047) HT_ ?_;refine pu 11 33 (fb 26 4095) HT_ ?_;refine pu 12 34 (fb 26 8191) HT_ ?_;refine pu 13 35 (fb 26 16383) HT_ ?_;refine pn 14 36 (fb 26 32767) HT_ ?_;refine pn 15 37 (fb 26 65535) HT_ ?_;refine pn 16 38 (fb 26 131071) HT_ ?_;refine pn 17 39 (fb 26 262143) HT_ ?_;refine pn 18 40 (fb 26 524287) HT_ ?_;refine pn 19 41 (fb 26 1048575) HT_ ?_;refine pn 20 42 (fb 26 2097151) HT_ ?_;refine pn 21 43 (fb 26 4194303) HT_ ?_;refine pn 22 44 (fb 26 8388607) HT_ ?_;refine pn 23 45 (fb 26 16777215) HT_ ?_;refine pu 24 46 (fb 26 33554431) HT_ ?_;refine pu 25 47 (fb 26 67108863) HT_ ?_;refine done_ (done_of HT_.out (by kernel_rfl)) ?_
          try go_wp2
          go_meet
          case rel=>exact ⟨_,(false),Ye1,H',⟨by have:=HK1.out;first|omega|exact Nat.le_refl _⟩,⟨bk a4.out⟩,⟨bk a3.out⟩,⟨bf HB.out⟩⟩
       ·replace an:=Bool.eq_false_iff.mpr an;subst an
        have H1:(spec_ValidTree.j1 k1 a2 true a1 ((rd_T34 a1 a2).f0) ((rd_T34 a1 a2).f1) ((rd_T34 a1 a2).f2))=some r:=by rw [if_neg (show ¬(false=true) by decide)] at H;exact H
        clear H;have H:=H1;clear H1;have H':=Aside0.mk H;clear H
        try go_wp2
        have ab:Aside0 ((((aa.setCell ⟨a5,0,none⟩ (.string ((rd_T34 a1 a2).f0))).setCell ⟨a5,1,none⟩ (.string ((rd_T34 a1 a2).f1))).setCell ⟨a5,2,none⟩ (.bool ((rd_T34 a1 a2).f2))).heap[af]? = some (.cells #[.slice (some a8) a1.length ae] 50 (0,0))):=⟨bkf a4.out av.out⟩
        have ac:Aside0 ((((aa.setCell ⟨a5,0,none⟩ (.string ((rd_T34 a1 a2).f0))).setCell ⟨a5,1,none⟩ (.string ((rd_T34 a1 a2).f1))).setCell ⟨a5,2,none⟩ (.bool ((rd_T34 a1 a2).f2))).heap[a5]? = some (.cells #[.string ((rd_T34 a1 a2).f0),.string ((rd_T34 a1 a2).f1),.bool ((rd_T34 a1 a2).f2)] 34 (0,0))):=⟨bp a3.out⟩
        have ad:Aside0 (Below w.heap.size w (((aa.setCell ⟨a5,0,none⟩ (.string ((rd_T34 a1 a2).f0))).setCell ⟨a5,1,none⟩ (.string ((rd_T34 a1 a2).f1))).setCell ⟨a5,2,none⟩ (.bool ((rd_T34 a1 a2).f2)))):=⟨bf HB.out⟩
        (try clear a4);(try clear a3);(try clear HB);generalize (((aa.setCell ⟨a5,0,none⟩ (.string ((rd_T34 a1 a2).f0))).setCell ⟨a5,1,none⟩ (.string ((rd_T34 a1 a2).f1))).setCell ⟨a5,2,none⟩ (.bool ((rd_T34 a1 a2).f2)))=w30 at ab ac ad ⊢; have a4:=ab;have a3:=ac;have HB:=ad;clear ab ac ad;refine Ya3 (blk_drew a4.out) (blk_drew a3.out) (below_drew1 HB.out) ?_;clear a4 a3 HB;intro a4 a3 HB;refine start_ (n:=26) (S:=fun w'=>w'.cell? ⟨a5,0,none⟩=some (.string ((rd_T34 a1 a2).f0))∧w'.cell? ⟨a5,1,none⟩=some (.string ((rd_T34 a1 a2).f1))∧w'.cell? ⟨a5,2,none⟩=some (.bool ((rd_T34 a1 a2).f2))) (ds:=[]) (fb 26 0) (by kernel_rfl) rfl rfl ⟨bc a3 0,bc a3 1,bc a3 2⟩ (fun hHeld => ?_);refine with_tabW spec_ValidTree.tab7 spec_ValidTree.bits7 (fun HT_ HW_ => ?_);generalize w30.drew=w31 at a4 a3 HB hHeld ⊢; refine pu 0 22 (fb 26 1) HT_ ?_;refine tk 1 23 (fb 26 3) HT_ HW_ hHeld ?_;refine o1 2 (some 24) (fb 26 7) HT_ (fun K hK => ?_);refine gs _ (#[.string ((rd_T34 a1 a2).f0)]) Tryd.func38 ?_;(with_reducible refine (spec_ValidPath.calls k1 ((rd_T34 a1 a2).f0) false _ aw.out).mono ?_);rintro e w32 ⟨rfl,hb⟩;refine ⟨_,rfl,?_⟩;refine Ya3 (bb a4 hb) (bb a3 hb) (below_step (bf HB.out) hb) ?_;clear a4 a3 HB;intro a4 a3 HB;(try clear hb);(try clear hb2);(try clear hk);(try clear hi);refine hK.out _ _ ⟨bc a3 0,bc a3 1,bc a3 2⟩ (fun hHeld => ?_);clear hK K;refine nm 24 ?_;refine pu 3 25 (fb 26 15) HT_ ?_;refine pu 4 26 (fb 26 31) HT_ ?_;refine pn 5 27 (fb 26 63) HT_ ?_;refine pn 6 28 (fb 26 127) HT_ ?_;refine pn 7 29 (fb 26 255) HT_ ?_;refine pn 8 30 (fb 26 511) HT_ ?_;refine pu 9 31 (fb 26 1023) HT_ ?_;refine pu 10 32 (fb 26 2047) HT_ ?_;refine pn 11 33 (fb 26 4095) HT_ ?_;refine pn 12 34 (fb 26 8191) HT_ ?_;refine pn 13 35 (fb 26 16383) HT_ ?_;refine pn 14 36 (fb 26 32767) HT_ ?_;refine pn 15 37 (fb 26 65535) HT_ ?_;refine pn 16 38 (fb 26 131071) HT_ ?_;refine pn 17 39 (fb 26 262143) HT_ ?_;refine pn 18 40 (fb 26 524287) HT_ ?_;refine pn 19 41 (fb 26 1048575) HT_ ?_;refine pn 20 42 (fb 26 2097151) HT_ ?_;refine pn 21 43 (fb 26 4194303) HT_ ?_;refine pn 22 44 (fb 26 8388607) HT_ ?_;refine pn 23 45 (fb 26 16777215) HT_ ?_;refine pn 24 46 (fb 26 33554431) HT_ ?_;refine pu 25 47 (fb 26 67108863) HT_ ?_;refine done_ (done_of HT_.out (by kernel_rfl)) ?_
        try go_wp2
        go_meet
        case rel=>exact ⟨_,(true),Ye1,H',⟨by have:=HK1.out;first|omega|exact Nat.le_refl _⟩,⟨bk a4.out⟩,⟨bk a3.out⟩,⟨bf HB.out⟩⟩
      case rest =>
       clear aM;(try clear c1);(try clear c2);(try clear p2);(try clear c3);(try clear an);(try clear aj);(try clear aP);(try clear ap);(try clear aq);obtain ⟨kq,aD,rfl,HA,HJ8,a4,a3,HB⟩:=hcut
       cases kq with
       | zero=>exact absurd HA.out (by simp [spec_ValidTree.j1])
       | succ aS =>
        have H:=HA.out;clear HA;simp only [spec_ValidTree.j1] at H
        by_cases ay:aD=true
        ·subst ay
         have H1:(some false)=some r:=by rw [if_pos rfl] at H;exact H
         clear H;have H:=H1;clear H1;obtain rfl:=Option.some.inj H
         go_wp2
         go_ret
         exact ⟨Ye2,(bf HB.out)⟩
        ·replace ay:=Bool.eq_false_iff.mpr ay;subst ay
         have H1:(spec_ValidTree.l1 aS a2 0 a1 ((rd_T34 a1 a2).f0) ((rd_T34 a1 a2).f1) ((rd_T34 a1 a2).f2))=some r:=by rw [if_neg (show ¬(false=true) by decide)] at H;exact H
         clear H;have H:=H1;clear H1;have H':=Aside0.mk H;clear H
         go_wp2
         go_loopg [5] aS (fun kq v5 w' => ∃ (a6:Int),v5 = .int .i64 a6∧Aside0 (spec_ValidTree.l1 kq a2 a6 a1 ((rd_T34 a1 a2).f0) ((rd_T34 a1 a2).f1) ((rd_T34 a1 a2).f2)=some r)∧Aside0 (kq≤aS)∧Aside0 (w'.heap[af]? = some (.cells #[(.slice (some a8) a1.length ae)] 50 (0,0)))∧Aside0 (w'.heap[a5]? = some (.cells #[.string ((rd_T34 a1 a2).f0),.string ((rd_T34 a1 a2).f1),.bool ((rd_T34 a1 a2).f2)] 34 (0,0)))∧Aside0 (Below w.heap.size w w'))
         case atStart=>exact ⟨(0),Ye1,H',⟨Nat.le_refl _⟩,⟨bk a4.out⟩,⟨bk a3.out⟩,⟨bf HB.out⟩⟩
         case round =>
          clear H';(try clear c1);(try clear c2);(try clear p2);(try clear c3);(try clear an);(try clear aj);(try clear aP);(try clear ap);(try clear aq);(try clear ay);(try clear p2);obtain ⟨a6,rfl,HA,HK3,a4,a3,HB⟩:=hrel
          cases gk with
          | zero=>exact absurd HA.out (by simp [spec_ValidTree.l1])
          | succ k3 =>
           have H:=HA.out;clear HA;simp only [spec_ValidTree.l1] at H
           by_cases ar:a6<a2
           ·rw [if_pos ar] at H
            have bh:decide (a6<a2)=true:=decide_eq_true ar;clear ar
            by_cases aH:0≤a6
            ·rw [if_pos aH] at H
             have c35b0:decide (0≤a6)=true:=decide_eq_true aH;clear aH
             by_cases aI:a6<(a1.length:Int)
             ·rw [if_pos aI] at H
              have c36b0:decide (a6<(a1.length:Int))=true:=decide_eq_true aI;clear aI;replace H:=Option.bind_eq_some_iff.mp H;obtain ⟨aB,b0,H⟩:=H;replace H:(if aB=true then (some false) else (spec_ValidTree.l1 k3 a2 (wrap64 (a6+1)) a1 ((rd_T34 a1 a2).f0) ((rd_T34 a1 a2).f1) ((rd_T34 a1 a2).f2)))=some r:=H;have A37:=Aside0.mk b0;clear b0
              by_cases aJ:aB=true
              ·subst aJ
               have H1:(some false)=some r:=by rw [if_pos rfl] at H;exact H
               clear H;have H:=H1;clear H1;obtain rfl:=Option.some.inj H
               try go_wp2
               refine Ya3 (blk_drew a4.out) (blk_drew a3.out) (below_drew1 HB.out) ?_;clear a4 a3 HB;intro a4 a3 HB;have al:0≤(a6:Int):=oda;have am:a6<(a1.length:Int):=oda;obtain ⟨aT,aU,ag,ah,ai⟩:=at_T34 aC.out a6 al am;have hw473_2:=ai;have hw473_1:=ah;have hw473_0:=ag
               obtain rfl:a8=aT:=(by injection aU)
               replace ag:=pw_cell_below HB.out ag;replace ah:=pw_cell_below HB.out ah;replace ai:=pw_cell_below HB.out ai;replace al:=eq_true al;replace am:=eq_true am;refine start_ (n:=9) (S:=fun w'=>w'.cell? ⟨af,0,none⟩=some (.slice (some a8) a1.length ae)∧w'.cell? ⟨a5,0,none⟩=some (.string ((rd_T34 a1 a2).f0))∧w'.cell? ⟨a5,1,none⟩=some (.string ((rd_T34 a1 a2).f1))∧w'.cell? ⟨a5,2,none⟩=some (.bool ((rd_T34 a1 a2).f2))∧w'.cell? (a8.add ((a6).toNat*3))=some (.string ((rd_T34 a1 a6).f0))∧w'.cell? ⟨(a8.add ((a6).toNat*3)).block,(a8.add ((a6).toNat*3)).off+1,none⟩=some (.string ((rd_T34 a1 a6).f1))∧w'.cell? ⟨(a8.add ((a6).toNat*3)).block,(a8.add ((a6).toNat*3)).off+2,none⟩=some (.bool ((rd_T34 a1 a6).f2))) (ds:=[]) (fb 9 0) (by kernel_rfl) rfl rfl ⟨bc a4 0,bc a3 0,bc a3 1,bc a3 2,(pw_cell_below HB.out hw473_0),(pw_cell_below HB.out hw473_1),(pw_cell_below HB.out hw473_2)⟩ (fun hHeld => ?_);refine with_tabW spec_ValidTree.tab12 spec_ValidTree.bits12 (fun HT_ HW_ => ?_);generalize wr.drew=w39 at a4 a3 HB ag ah ai hHeld ⊢; refine pu 0 53 (fb 9 1) HT_ ?_;refine pu 2 55 (fb 9 5) HT_ ?_;refine pu 6 59 (fb 9 69) HT_ ?_;refine tk 1 54 (fb 9 71) HT_ HW_ hHeld ?_;refine pu 3 56 (fb 9 79) HT_ ?_;refine pu 4 57 (fb 9 95) HT_ ?_;refine tk 5 58 (fb 9 127) HT_ HW_ hHeld ?_;refine tk 7 60 (fb 9 255) HT_ HW_ hHeld ?_;refine o1 8 (some 61) (fb 9 511) HT_ (fun K hK => ?_);refine gs _ (#[.string ((rd_T34 a1 a6).f0),.string ((rd_T34 a1 a2).f0)]) Tryd.func87 ?_;(with_reducible refine (spec_l5Begins.calls ((rd_T34 a1 a6).f0) ((rd_T34 a1 a2).f0) true _ A37.out).mono ?_);rintro e w' ⟨rfl,⟨nd,rfl⟩⟩;refine ⟨_,rfl,?_⟩;refine hK.out _ _ ⟨bc a4 0,bc a3 0,bc a3 1,bc a3 2,(pw_cell_below HB.out hw473_0),(pw_cell_below HB.out hw473_1),(pw_cell_below HB.out hw473_2)⟩ (fun hHeld => ?_);clear hK K;refine nm 61 ?_;refine done_ (done_of HT_.out (by kernel_rfl)) ?_
               try go_wp2
               go_ret
               exact ⟨Ye2,(bf HB.out)⟩
              ·replace aJ:=Bool.eq_false_iff.mpr aJ;subst aJ
               have H1:(spec_ValidTree.l1 k3 a2 (wrap64 (a6+1)) a1 ((rd_T34 a1 a2).f0) ((rd_T34 a1 a2).f1) ((rd_T34 a1 a2).f2))=some r:=by rw [if_neg (show ¬(false=true) by decide)] at H;exact H
               clear H;have H:=H1;clear H1;have H':=Aside0.mk H;clear H
               try go_wp2
               refine Ya3 (blk_drew a4.out) (blk_drew a3.out) (below_drew1 HB.out) ?_;clear a4 a3 HB;intro a4 a3 HB;have al:0≤(a6:Int):=oda;have am:a6<(a1.length:Int):=oda;obtain ⟨aT,aU,ag,ah,ai⟩:=at_T34 aC.out a6 al am;have hw473_2:=ai;have hw473_1:=ah;have hw473_0:=ag
               obtain rfl:a8=aT:=(by injection aU)
               replace ag:=pw_cell_below HB.out ag;replace ah:=pw_cell_below HB.out ah;replace ai:=pw_cell_below HB.out ai;replace al:=eq_true al;replace am:=eq_true am;refine start_ (n:=9) (S:=fun w'=>w'.cell? ⟨af,0,none⟩=some (.slice (some a8) a1.length ae)∧w'.cell? ⟨a5,0,none⟩=some (.string ((rd_T34 a1 a2).f0))∧w'.cell? ⟨a5,1,none⟩=some (.string ((rd_T34 a1 a2).f1))∧w'.cell? ⟨a5,2,none⟩=some (.bool ((rd_T34 a1 a2).f2))∧w'.cell? (a8.add ((a6).toNat*3))=some (.string ((rd_T34 a1 a6).f0))∧w'.cell? ⟨(a8.add ((a6).toNat*3)).block,(a8.add ((a6).toNat*3)).off+1,none⟩=some (.string ((rd_T34 a1 a6).f1))∧w'.cell? ⟨(a8.add ((a6).toNat*3)).block,(a8.add ((a6).toNat*3)).off+2,none⟩=some (.bool ((rd_T34 a1 a6).f2))) (ds:=[]) (fb 9 0) (by kernel_rfl) rfl rfl ⟨bc a4 0,bc a3 0,bc a3 1,bc a3 2,(pw_cell_below HB.out hw473_0),(pw_cell_below HB.out hw473_1),(pw_cell_below HB.out hw473_2)⟩ (fun hHeld => ?_);refine with_tabW spec_ValidTree.tab12 spec_ValidTree.bits12 (fun HT_ HW_ => ?_);generalize wr.drew=w40 at a4 a3 HB ag ah ai hHeld ⊢; refine pu 0 53 (fb 9 1) HT_ ?_;refine pu 2 55 (fb 9 5) HT_ ?_;refine pu 6 59 (fb 9 69) HT_ ?_;refine tk 1 54 (fb 9 71) HT_ HW_ hHeld ?_;refine pu 3 56 (fb 9 79) HT_ ?_;refine pu 4 57 (fb 9 95) HT_ ?_;refine tk 5 58 (fb 9 127) HT_ HW_ hHeld ?_;refine tk 7 60 (fb 9 255) HT_ HW_ hHeld ?_;refine o1 8 (some 61) (fb 9 511) HT_ (fun K hK => ?_);refine gs _ (#[.string ((rd_T34 a1 a6).f0),.string ((rd_T34 a1 a2).f0)]) Tryd.func87 ?_;(with_reducible refine (spec_l5Begins.calls ((rd_T34 a1 a6).f0) ((rd_T34 a1 a2).f0) false _ A37.out).mono ?_);rintro e w' ⟨rfl,⟨nd,rfl⟩⟩;refine ⟨_,rfl,?_⟩;refine hK.out _ _ ⟨bc a4 0,bc a3 0,bc a3 1,bc a3 2,(pw_cell_below HB.out hw473_0),(pw_cell_below HB.out hw473_1),(pw_cell_below HB.out hw473_2)⟩ (fun hHeld => ?_);clear hK K;refine nm 61 ?_;refine done_ (done_of HT_.out (by kernel_rfl)) ?_
               try go_wp2
               go_roundg k3
               case measure=>have:=HK1.out;have:=HJ8.out;have:=HK3.out;omega
               case rel=>exact ⟨(wrap64 (a6+1)),Ye1,H',⟨by have:=HK1.out;have:=HJ8.out;have:=HK3.out;omega⟩,⟨bk a4.out⟩,⟨bk a3.out⟩,⟨bf HB.out⟩⟩
             ·rw [if_neg aI] at H
              exact absurd H (by simp)
            ·rw [if_neg aH] at H
             exact absurd H (by simp)
           ·rw [if_neg ar] at H
            have bh:decide (a6<a2)=false:=decide_eq_false ar;clear ar;have H':=Aside0.mk H;clear H
            go_wp2
            go_roundg k3
            case measure=>have:=HK1.out;have:=HJ8.out;have:=HK3.out;omega
            case rel=>exact ⟨(wrap64 (a2+1)),Ye1,H',⟨by have:=HK1.out;have:=HJ8.out;have:=HK3.out;omega⟩,⟨bk a4.out⟩,⟨bf HB.out⟩⟩
     ·rw [if_neg c8] at H
      exact absurd H (by simp)
    ·rw [if_neg c7] at H
     have b7:decide (a2<(a1.length:Int))=false:=decide_eq_false c7;clear c7;obtain rfl:=Option.some.inj H;have ⟨bB,bC⟩:=Yc1 a4.out
     go_wp2
     go_ret
     exact ⟨Ye2,(bf HB.out)⟩

end Go.Proofs.YtkmfnmeilooogaaDoor.P


namespace Go.Proofs.YtkmfnmeilooogaaDoor.P
open Go.RowKit Go.Proofs.YtkmfnmeilooogaaDoorW.PrintWords Go.Proofs.YtkmfnmeilooogaaDoorW.PrintLast Go.Proofs.YtkmfnmeilooogaaDoorW.PrintMore
attribute [local go_sem] max2_int min2_int max_two min_two max_three min_three max_four min_four
set_option linter.unusedVariables false
set_option linter.unusedSimpArgs false

mutual
def spec_Sum.l0:Nat→ByteArray→Int→Int→Int→Option (ByteArray)
 | 0,_,_,_,_=>none
 | k+1,x0,x1,x5,x6=>if x6<(x0.size:Int) then (if 0≤x6 then (spec_Sum.l0 k x0 x1 (IntKind.u64.wrap ((Go.bits .xor .u64 x5 (IntKind.u64.wrap (bt x0 x6)))*1099511628211)) (wrap64 (x6+1))) else (none)) else (spec_Sum.l1 k x1 x5 (⟨#[]⟩:ByteArray) 0)
def spec_Sum.l1:Nat→Int→Int→ByteArray→Int→Option (ByteArray)
 | 0,_,_,_,_=>none
 | k+1,x1,x5,x7,x8=>if x8<x1 then ((some (([(Int.tmod x5 256) % 256]:List Int):List Int)).bind fun a4=>(if (strOfNums a4).size+x7.size≤9223372036854775807 then (spec_Sum.l1 k x1 (IntKind.u64.wrap (Int.tdiv x5 256)) ((strOfNums a4)++x7) (wrap64 (x8+1))) else (none))) else (some x7)
end
def spec_Sum.f (k:Nat) (a0:ByteArray) (a1:Int):Option (ByteArray):=(spec_l1In.f a1 1 8).bind fun a7=>(if a7=true then (spec_Sum.l0 k a0 a1 14695981039346656037 0) else (some (⟨#[]⟩:ByteArray)))
theorem spec_Sum.mono_l:∀ k,(∀ y0 y1 y2 y3,LeO (spec_Sum.l0 k y0 y1 y2 y3) (spec_Sum.l0 (k+1) y0 y1 y2 y3))∧(∀ y0 y1 y2 y3,LeO (spec_Sum.l1 k y0 y1 y2 y3) (spec_Sum.l1 (k+1) y0 y1 y2 y3))
 | 0=>⟨fun _ _ _ _ r h=>by simp [spec_Sum.l0] at h,fun _ _ _ _ r h=>by simp [spec_Sum.l1] at h⟩
 | k + 1 => by
  obtain ⟨ih0,ih1⟩:=spec_Sum.mono_l k;refine ⟨?_,?_⟩
  ·intro y0 y1 y2 y3
   unfold spec_Sum.l0
   repeat' first
   | (with_reducible exact ih0 _ _ _ _)
   | (with_reducible exact ih1 _ _ _ _)
   | (with_reducible exact LeO.refl _)
   | (with_reducible exact LeO.none _)
   | (with_reducible refine LeO.ite ?_ ?_)
   | (with_reducible refine LeO.bind ?_ (fun _ => ?_))
   | exact ih0 _ _ _ _
   | exact ih1 _ _ _ _
   | exact LeO.none _
   | refine LeO.ite ?_ ?_
   | refine LeO.bind ?_ (fun _ => ?_)
  ·intro y0 y1 y2 y3
   unfold spec_Sum.l1
   repeat' first
   | (with_reducible exact ih0 _ _ _ _)
   | (with_reducible exact ih1 _ _ _ _)
   | (with_reducible exact LeO.refl _)
   | (with_reducible exact LeO.none _)
   | (with_reducible refine LeO.ite ?_ ?_)
   | (with_reducible refine LeO.bind ?_ (fun _ => ?_))
   | exact ih0 _ _ _ _
   | exact ih1 _ _ _ _
   | exact LeO.none _
   | refine LeO.ite ?_ ?_
   | refine LeO.bind ?_ (fun _ => ?_)
theorem spec_Sum.mono:∀ a0 a1 k,LeO (spec_Sum.f k a0 a1) (spec_Sum.f (k+1) a0 a1):=by
 intro a0 a1 k;obtain ⟨ih0,ih1⟩:=spec_Sum.mono_l k
 unfold spec_Sum.f
 repeat' first
   | (with_reducible exact ih0 _ _ _ _)
   | (with_reducible exact ih1 _ _ _ _)
   | (with_reducible exact LeO.refl _)
   | (with_reducible exact LeO.none _)
   | (with_reducible refine LeO.ite ?_ ?_)
   | (with_reducible refine LeO.bind ?_ (fun _ => ?_))
   | exact ih0 _ _ _ _
   | exact ih1 _ _ _ _
   | exact LeO.none _
   | refine LeO.ite ?_ ?_
   | refine LeO.bind ?_ (fun _ => ?_)
set_option maxHeartbeats 8000000 in
set_option maxRecDepth 100000 in
theorem spec_Sum.calls (k : Nat) (a0 : ByteArray) (a1 : Int) (r : ByteArray) (w : World) (h : spec_Sum.f k a0 a1 = some r) :
  Calls Tryd.prog 41 #[.string a0,.int .i64 a1] w fun e w'=>e = .returned (.string r)∧Below w.heap.size w w':=by
 have HB:=Aside0.mk (Below.refl w.heap.size w);have H:((spec_l1In.f a1 1 8).bind fun a7=>(if a7=true then (spec_Sum.l0 k a0 a1 14695981039346656037 0) else (some (⟨#[]⟩:ByteArray))))=some r:=h;clear h;replace H:=Option.bind_eq_some_iff.mp H;obtain ⟨a7,A30,H⟩:=H;replace H:(if a7=true then (spec_Sum.l0 k a0 a1 14695981039346656037 0) else (some (⟨#[]⟩:ByteArray)))=some r:=H;have A3:=Aside0.mk A30;clear A30
 by_cases c4:a7=true
 ·subst c4
  have H1:(spec_Sum.l0 k a0 a1 14695981039346656037 0)=some r:=by rw [if_pos rfl] at H;exact H
  clear H;have H:=H1;clear H1;have H':=Aside0.mk H;clear H
  go_enter Tryd.func41,Tryd.ntmps41
  go_wp2_with (first|((with_reducible refine gc 39 rfl ?_);refine gl (some 10) _ (#[.int .i64 a1,.int .i64 1,.int .i64 8]) Tryd.func39 ?_;(with_reducible refine (spec_l1In.calls a1 1 8 true _ A3.out).mono ?_);rintro e w' ⟨rfl,⟨nd,rfl⟩⟩;refine ⟨_,rfl,?_⟩))
  go_loopg [5,6] k (fun kq v5 v6 w' => ∃ (a8:Int) (a2:Int),v5 = .int .u64 a8∧v6 = .int .i64 a2∧Aside0 (spec_Sum.l0 kq a0 a1 a8 a2=some r)∧Aside0 (kq≤k)∧Aside0 (Below w.heap.size w w'))
  case atStart=>exact ⟨(14695981039346656037),(0),Ye1,Ye1,H',⟨Nat.le_refl _⟩,⟨be HB.out⟩⟩
  case round =>
   clear H';(try clear p2);(try clear c3);(try clear c4);obtain ⟨a8,a2,rfl,rfl,HA,HK1,HB⟩:=hrel
   cases gk with
   | zero=>exact absurd HA.out (by simp [spec_Sum.l0])
   | succ k1 =>
    have H:=HA.out;clear HA;simp only [spec_Sum.l0] at H
    by_cases c5:a2<(a0.size:Int)
    ·rw [if_pos c5] at H
     have aa:decide (a2<(a0.size:Int))=true:=decide_eq_true c5;clear c5
     by_cases c6:0≤a2
     ·rw [if_pos c6] at H
      have ac:decide (0≤a2)=true:=decide_eq_true c6;clear c6;have H':=Aside0.mk H;clear H;have p7:0≤(a2:Int):=oda;have q7:a2<(a0.size:Int):=oda;have hx7:=bt_at a0 a2;replace p7:=eq_true p7;replace q7:=eq_true q7
      go_wp2
      go_roundg k1
      case measure=>have:=HK1.out;omega
      case rel=>exact ⟨(IntKind.u64.wrap ((Go.bits .xor .u64 a8 (IntKind.u64.wrap (bt a0 a2)))*1099511628211)),(wrap64 (a2+1)),Ye1,Ye1,H',⟨by have:=HK1.out;omega⟩,⟨be HB.out⟩⟩
     ·rw [if_neg c6] at H
      exact absurd H (by simp)
    ·rw [if_neg c5] at H
     have aa:decide (a2<(a0.size:Int))=false:=decide_eq_false c5;clear c5;have H':=Aside0.mk H;clear H
     go_wp2
     go_loopg [5,7,8] k1 (fun kq v5 v7 v8 w' => ∃ (a3:Int) (a5:ByteArray) (a6:Int),v5 = .int .u64 a3∧v7 = .string a5∧v8 = .int .i64 a6∧Aside0 (spec_Sum.l1 kq a1 a3 a5 a6=some r)∧Aside0 (kq≤k1)∧Aside0 (Below w.heap.size w w'))
     case atStart=>exact ⟨(a8),((⟨#[]⟩:ByteArray)),(0),Ye1,Ye1,Ye1,H',⟨Nat.le_refl _⟩,⟨be HB.out⟩⟩
     case round =>
      clear H';(try clear p2);(try clear c3);(try clear c4);(try clear c5);(try clear aa);(try clear c6);(try clear ac);(try clear p6);(try clear p7);(try clear q7);(try clear hx7);(try clear p2);(try clear p7);(try clear q7);obtain ⟨a3,a5,a6,rfl,rfl,rfl,HA,HK2,HB⟩:=hrel
      cases gk with
      | zero=>exact absurd HA.out (by simp [spec_Sum.l1])
      | succ k2 =>
       have H:=HA.out;clear HA;simp only [spec_Sum.l1] at H
       by_cases c8:a6<a1
       ·rw [if_pos c8] at H
        have ad:decide (a6<a1)=true:=decide_eq_true c8;clear c8
        obtain ⟨a4,a9⟩:∃ y_:List Int,y_=(([(Int.tmod a3 256) % 256]:List Int)):=⟨_,rfl⟩
        replace H:(if (strOfNums a4).size+a5.size≤9223372036854775807 then (spec_Sum.l1 k2 a1 (IntKind.u64.wrap (Int.tdiv a3 256)) ((strOfNums a4)++a5) (wrap64 (a6+1))) else (none))=some r:=by first|(rw [a9];with_reducible exact H)|(have H2_:=(Option.bind_some _ _).symm.trans H;rw [a9];with_reducible exact H2_)|(have H2_:=(Option.bind_some _ _).symm.trans H;with_reducible exact H2_)|with_reducible exact H|(rw [a9];exact H)|exact H
        have ab:=Aside0.mk a9;clear a9
        by_cases c9:(strOfNums a4).size+a5.size≤9223372036854775807
        ·rw [if_pos c9] at H
         have c9b0:=eq_true c9;have c9b1:decide ((strOfNums a4).size+a5.size≤9223372036854775807)=true:=decide_eq_true c9
         try have c9b2:(9223372036854775807<(strOfNums a4).size+a5.size)=False:=eq_false (Nat.not_lt.2 c9)
         have H':=Aside0.mk H;clear H
         go_wp2_with (first|((with_reducible refine gd 33 rfl ?_);refine Kd.R_lit (Kd.int .u8) _ 5 ?hg (N:=33) ?hd (xs:=([(Int.tmod a3 256) % 256]:List Int)) (inner:=[.int .u8 ((Int.tmod a3 256) % 256)]) (ok:=fun _=>True) (okp:=fun _=>True) ?hr ?hp (fun _ hk=>hk) trivial (Below.refl _ _) (Nat.le_refl _) (by simp) ?_;(case hd=>rfl);(case hg=>rfl);(case hr=>first|(go_simp;done)|(go_simp;rfl));(case hp=>exact (Reps.one (show Kd.M (Kd.int .u8) _ _ _ ((Int.tmod a3 256) % 256) [.int .u8 ((Int.tmod a3 256) % 256)] from rfl) (Reps.none _ _)));intro v347 w10 ho11 hb hg_ hnew_;clear hg_ hnew_;(first|rw [←ab.out] at ho11|(simp only [Int.reduceToNat] at ho11;rw [←ab.out] at ho11));refine Ya2 (Kd.R_lower ho11 (below_size (be HB.out))) (below_step (be HB.out) hb) ?_;clear HB;intro ae HB;clear hb ho11;have hcv12:=own_string (P:=Tryd.prog) Tryd.underlying25 Tryd.underlying5 Tryd.underlying9 (Kd.own_of_R ae.out)))
         go_roundg k2
         case measure=>have:=HK1.out;have:=HK2.out;omega
         case rel=>exact ⟨(IntKind.u64.wrap (Int.tdiv a3 256)),((strOfNums a4)++a5),(wrap64 (a6+1)),Ye1,Ye1,Ye1,H',⟨by have:=HK1.out;have:=HK2.out;omega⟩,⟨be HB.out⟩⟩
        ·rw [if_neg c9] at H
         exact absurd H (by simp)
       ·rw [if_neg c8] at H
        have ad:decide (a6<a1)=false:=decide_eq_false c8;clear c8;obtain rfl:=Option.some.inj H
        go_wp2
        go_ret
        exact ⟨Ye2,be HB.out⟩
 ·replace c4:=Bool.eq_false_iff.mpr c4;subst c4
  have H1:(some (⟨#[]⟩:ByteArray))=some r:=by rw [if_neg (show ¬(false=true) by decide)] at H;exact H
  clear H;have H:=H1;clear H1;obtain rfl:=Option.some.inj H
  go_enter Tryd.func41,Tryd.ntmps41
  go_wp2_with (first|((with_reducible refine gc 39 rfl ?_);refine gl (some 10) _ (#[.int .i64 a1,.int .i64 1,.int .i64 8]) Tryd.func39 ?_;(with_reducible refine (spec_l1In.calls a1 1 8 false _ A3.out).mono ?_);rintro e w' ⟨rfl,⟨nd,rfl⟩⟩;refine ⟨_,rfl,?_⟩))
  go_ret
  exact ⟨Ye2,be HB.out⟩

end Go.Proofs.YtkmfnmeilooogaaDoor.P


namespace Go.Proofs.YtkmfnmeilooogaaDoor.P
open Go.RowKit Go.Proofs.YtkmfnmeilooogaaDoorW.PrintWords Go.Proofs.YtkmfnmeilooogaaDoorW.PrintLast Go.Proofs.YtkmfnmeilooogaaDoorW.PrintMore
attribute [local go_sem] max2_int min2_int max_two min_two max_three min_three max_four min_four
set_option linter.unusedVariables false
set_option linter.unusedSimpArgs false

def laws_eqEntry.f (a0_0:ByteArray) (a0_1:ByteArray) (a0_2:Bool) (a1_0:ByteArray) (a1_1:ByteArray) (a1_2:Bool):Option (Bool):=if a0_0.toList=a1_0.toList then (if a0_1.toList=a1_1.toList then (if (a0_2 != a1_2)=true then (some false) else (some true)) else (some false)) else (some false)
set_option maxHeartbeats 8000000 in
set_option maxRecDepth 100000 in
theorem laws_eqEntry.calls (a0_0:ByteArray) (a0_1:ByteArray) (a0_2:Bool) (a1_0:ByteArray) (a1_1:ByteArray) (a1_2:Bool) (r:Bool) (w:World) (h:laws_eqEntry.f a0_0 a0_1 a0_2 a1_0 a1_1 a1_2=some r) :
  Calls Tryd.prog 51 #[.agg #[.string a0_0,.string a0_1,.bool a0_2],.agg #[.string a1_0,.string a1_1,.bool a1_2]] w fun e w'=>e = .returned (.bool r)∧Below w.heap.size w w':=by
 have hu34:=Tryd.underlying34;have HB:=Aside0.mk (Below.refl w.heap.size w);have H:(if a0_0.toList=a1_0.toList then (if a0_1.toList=a1_1.toList then (if (a0_2 != a1_2)=true then (some false) else (some true)) else (some false)) else (some false))=some r:=h;clear h
 by_cases c3:a0_0.toList=a1_0.toList
 ·rw [if_pos c3] at H
  have a8:(a0_0.toList==a1_0.toList)=true:=beq_iff_eq.mpr c3;have aB:(a0_0.toList != a1_0.toList)=false:=bne_eq_false_iff_eq.mpr c3;clear c3
  by_cases c4:a0_1.toList=a1_1.toList
  ·rw [if_pos c4] at H
   have aC:(a0_1.toList==a1_1.toList)=true:=beq_iff_eq.mpr c4;have bj:(a0_1.toList != a1_1.toList)=false:=bne_eq_false_iff_eq.mpr c4;clear c4
   by_cases c5:(a0_2 != a1_2)=true
   ·rw [if_pos c5] at H
    have aI:(a0_2 != a1_2)=true:=c5;(try (have bm:decide (a0_2=a1_2)=false:=by simpa using c5));(try (have bn:(a0_2==a1_2)=false:=by simpa using c5));(try (have c5b3:¬ (a0_2=a1_2):=by simpa using c5));clear c5;obtain rfl:=Option.some.inj H
    go_enter Tryd.func51,Tryd.ntmps51
    go_wp2_with (first|((with_reducible refine gd 2 rfl ?_);refine bx 2 34 (#[.string a0_0,.string a0_1,.bool a0_2]) ?_;intro aJ hg w6 hbox hb;refine Ya4 (below_step (be HB.out) hb) (hbox) (bs hg (be HB.out)) (bs hg (be HB.out)) ?_;clear HB;intro HB a4 aK aL;clear hb hbox hg)|((with_reducible refine gd 3 rfl ?_);refine bx 3 34 (#[.string a1_0,.string a1_1,.bool a1_2]) ?_;intro aM hg w7 hbox hb;refine Ya7 (bb a4 hb) (below_step (bf HB.out) hb) (hbox) (bs hg (bf HB.out)) (bs hg (bf HB.out)) (bl hg a4) (br hg a4) ?_;clear a4 HB;intro a4 HB ak aN aO al am;clear hb hbox hg;have bo:=al.out;have bq:=am.out;have ⟨bu,bv,bw,bz,bA,bB⟩:=Yc3 a4.out;have ⟨aY,aZ,b0,b1,b2,b3⟩:=Yc3 ak.out))
    go_ret
    exact ⟨Ye2,(bf HB.out)⟩
   ·rw [if_neg c5] at H
    have aI:(a0_2 != a1_2)=false:=by simpa using c5
    (try (have bm:decide (a0_2=a1_2)=true:=by simpa using c5));(try (have bn:(a0_2==a1_2)=true:=by simpa using c5));clear c5;obtain rfl:=Option.some.inj H
    go_enter Tryd.func51,Tryd.ntmps51
    go_wp2_with (first|((with_reducible refine gd 2 rfl ?_);refine bx 2 34 (#[.string a0_0,.string a0_1,.bool a0_2]) ?_;intro aJ hg a9 hbox hb;refine Ya4 (below_step (be HB.out) hb) (hbox) (bs hg (be HB.out)) (bs hg (be HB.out)) ?_;clear HB;intro HB a4 aK aL;clear hb hbox hg)|((with_reducible refine gd 3 rfl ?_);refine bx 3 34 (#[.string a1_0,.string a1_1,.bool a1_2]) ?_;intro aM hg w12 hbox hb;refine Ya7 (bb a4 hb) (below_step (bf HB.out) hb) (hbox) (bs hg (bf HB.out)) (bs hg (bf HB.out)) (bl hg a4) (br hg a4) ?_;clear a4 HB;intro a4 HB ak aN aO al am;clear hb hbox hg;have hnb13:=al.out;have hnc13:=am.out;have ⟨bX,bY,bZ,ca,cc,cd⟩:=Yc3 a4.out;have ⟨ce,cf,cg,ch,ci,cj⟩:=Yc3 ak.out))
    go_ret
    exact ⟨Ye2,(bf HB.out)⟩
  ·rw [if_neg c4] at H
   have aC:(a0_1.toList==a1_1.toList)=false:=beq_eq_false_iff_ne.mpr c4;have bj:(a0_1.toList != a1_1.toList)=true:=bne_iff_ne.mpr c4;obtain rfl:=Option.some.inj H
   go_enter Tryd.func51,Tryd.ntmps51
   go_wp2_with (first|((with_reducible refine gd 2 rfl ?_);refine bx 2 34 (#[.string a0_0,.string a0_1,.bool a0_2]) ?_;intro aJ hg w16 hbox hb;refine Ya4 (below_step (be HB.out) hb) (hbox) (bs hg (be HB.out)) (bs hg (be HB.out)) ?_;clear HB;intro HB a4 aK aL;clear hb hbox hg)|((with_reducible refine gd 3 rfl ?_);refine bx 3 34 (#[.string a1_0,.string a1_1,.bool a1_2]) ?_;intro aM hg w17 hbox hb;refine Ya7 (bb a4 hb) (below_step (bf HB.out) hb) (hbox) (bs hg (bf HB.out)) (bs hg (bf HB.out)) (bl hg a4) (br hg a4) ?_;clear a4 HB;intro a4 HB ak aN aO al am;clear hb hbox hg;have hnb18:=al.out;have hnc18:=am.out;have ⟨ck,cl,cm,cn,co,cp⟩:=Yc3 a4.out;have ⟨cq,cr,cs,ct,cu,cv⟩:=Yc3 ak.out))
   go_ret
   exact ⟨Ye2,(bf HB.out)⟩
 ·rw [if_neg c3] at H
  have a8:(a0_0.toList==a1_0.toList)=false:=beq_eq_false_iff_ne.mpr c3;have aB:(a0_0.toList != a1_0.toList)=true:=bne_iff_ne.mpr c3;obtain rfl:=Option.some.inj H
  go_enter Tryd.func51,Tryd.ntmps51
  go_wp2_with (first|((with_reducible refine gd 2 rfl ?_);refine bx 2 34 (#[.string a0_0,.string a0_1,.bool a0_2]) ?_;intro aJ hg w21 hbox hb;refine Ya4 (below_step (be HB.out) hb) (hbox) (bs hg (be HB.out)) (bs hg (be HB.out)) ?_;clear HB;intro HB a4 aK aL;clear hb hbox hg)|((with_reducible refine gd 3 rfl ?_);refine bx 3 34 (#[.string a1_0,.string a1_1,.bool a1_2]) ?_;intro aM hg w22 hbox hb;refine Ya7 (bb a4 hb) (below_step (bf HB.out) hb) (hbox) (bs hg (bf HB.out)) (bs hg (bf HB.out)) (bl hg a4) (br hg a4) ?_;clear a4 HB;intro a4 HB ak aN aO al am;clear hb hbox hg;have hnb23:=al.out;have hnc23:=am.out;have ⟨cw,cx,cy,cz,cA,cB⟩:=Yc3 a4.out;have ⟨cC,cD,cE,cF,cG,cH⟩:=Yc3 ak.out))
  go_ret
  exact ⟨Ye2,(bf HB.out)⟩

def laws_szEntry.f (a0_0:ByteArray) (a0_1:ByteArray) (a0_2:Bool) (a1:Int):Option (Int):=if (wrap64 (a1 - (a0_0.size:Int)))<0 then (some (-1)) else (if (wrap64 ((wrap64 (a1 - (a0_0.size:Int))) - (a0_1.size:Int)))<0 then (some (-1)) else (some (wrap64 ((wrap64 (a1 - (a0_0.size:Int))) - (a0_1.size:Int)))))
set_option maxHeartbeats 8000000 in
set_option maxRecDepth 100000 in
theorem laws_szEntry.calls (a0_0:ByteArray) (a0_1:ByteArray) (a0_2:Bool) (a1:Int) (r:Int) (w:World) (h:laws_szEntry.f a0_0 a0_1 a0_2 a1=some r) :
  Calls Tryd.prog 78 #[.agg #[.string a0_0,.string a0_1,.bool a0_2],.int .i64 a1] w fun e w'=>e = .returned (.int .i64 r)∧Below w.heap.size w w':=by
 have hu130:=Tryd.underlying130;have HB:=Aside0.mk (Below.refl w.heap.size w);have H:(if (wrap64 (a1 - (a0_0.size:Int)))<0 then (some (-1)) else (if (wrap64 ((wrap64 (a1 - (a0_0.size:Int))) - (a0_1.size:Int)))<0 then (some (-1)) else (some (wrap64 ((wrap64 (a1 - (a0_0.size:Int))) - (a0_1.size:Int))))))=some r:=h;clear h
 by_cases c3:(wrap64 (a1 - (a0_0.size:Int)))<0
 ·rw [if_pos c3] at H
  have a8:decide ((wrap64 (a1 - (a0_0.size:Int)))<0)=true:=decide_eq_true c3;clear c3;obtain rfl:=Option.some.inj H
  go_enter Tryd.func78,Tryd.ntmps78
  go_wp2_with (first|((with_reducible refine gd 2 rfl ?_);refine bx 2 130 (#[.string a0_0,.string a0_1,.bool a0_2]) ?_;intro b4 hg w4 hbox hb;refine Ya4 (below_step (be HB.out) hb) (hbox) (bs hg (be HB.out)) (bs hg (be HB.out)) ?_;clear HB;intro HB aD b5 b6;clear hb hbox hg;have ⟨cI,cJ,cK,cL,cM,cN⟩:=Yc3 aD.out))
  go_ret
  exact ⟨Ye2,(bf HB.out)⟩
 ·rw [if_neg c3] at H
  have a8:decide ((wrap64 (a1 - (a0_0.size:Int)))<0)=false:=decide_eq_false c3;clear c3
  by_cases c6:(wrap64 ((wrap64 (a1 - (a0_0.size:Int))) - (a0_1.size:Int)))<0
  ·rw [if_pos c6] at H
   have aG:decide ((wrap64 ((wrap64 (a1 - (a0_0.size:Int))) - (a0_1.size:Int)))<0)=true:=decide_eq_true c6;clear c6;obtain rfl:=Option.some.inj H
   go_enter Tryd.func78,Tryd.ntmps78
   go_wp2_with (first|((with_reducible refine gd 2 rfl ?_);refine bx 2 130 (#[.string a0_0,.string a0_1,.bool a0_2]) ?_;intro b4 hg w7 hbox hb;refine Ya4 (below_step (be HB.out) hb) (hbox) (bs hg (be HB.out)) (bs hg (be HB.out)) ?_;clear HB;intro HB aD b5 b6;clear hb hbox hg;have ⟨cO,cP,cQ,cR,cS,cT⟩:=Yc3 aD.out))
   go_ret
   exact ⟨Ye2,(bf HB.out)⟩
  ·rw [if_neg c6] at H
   have aG:decide ((wrap64 ((wrap64 (a1 - (a0_0.size:Int))) - (a0_1.size:Int)))<0)=false:=decide_eq_false c6;clear c6;obtain rfl:=Option.some.inj H
   go_enter Tryd.func78,Tryd.ntmps78
   go_wp2_with (first|((with_reducible refine gd 2 rfl ?_);refine bx 2 130 (#[.string a0_0,.string a0_1,.bool a0_2]) ?_;intro b4 hg w9 hbox hb;refine Ya4 (below_step (be HB.out) hb) (hbox) (bs hg (be HB.out)) (bs hg (be HB.out)) ?_;clear HB;intro HB aD b5 b6;clear hb hbox hg;have ⟨aY,aZ,b0,b1,b2,b3⟩:=Yc3 aD.out))
   go_ret
   exact ⟨Ye2,(bf HB.out)⟩

def laws_szEntryS.l0:Nat→List (S130)→Int→Int→Option (Int)
 | 0,_,_,_=>none
 | k+1,x0,x1,x5=>if x5<(x0.length:Int) then (if 0≤x5 then ((laws_szEntry.f ((rd_T130 x0 x5).f0) ((rd_T130 x0 x5).f1) ((rd_T130 x0 x5).f2) x1).bind fun aa=>(if aa<0 then (some (-1)) else (laws_szEntryS.l0 k x0 aa (wrap64 (x5+1))))) else (none)) else (some x1)
def laws_szEntryS.f (k:Nat) (l0:List (S130)) (a1:Int):Option (Int):=if (wrap64 (a1 - (l0.length:Int)))<0 then (some (-1)) else (laws_szEntryS.l0 k l0 (wrap64 (a1 - (l0.length:Int))) 0)
theorem laws_szEntryS.mono_l:∀ k,(∀ y0 y1 y2,LeO (laws_szEntryS.l0 k y0 y1 y2) (laws_szEntryS.l0 (k+1) y0 y1 y2))
 | 0=>fun _ _ _ r h=>by simp [laws_szEntryS.l0] at h
 | k + 1 => by
  have ih0:=laws_szEntryS.mono_l k
  ·intro y0 y1 y2
   unfold laws_szEntryS.l0
   repeat' first
   | (with_reducible exact ih0 _ _ _)
   | (with_reducible exact LeO.refl _)
   | (with_reducible exact LeO.none _)
   | (with_reducible refine LeO.ite ?_ ?_)
   | (with_reducible refine LeO.bind ?_ (fun _ => ?_))
   | exact ih0 _ _ _
   | exact LeO.none _
   | refine LeO.ite ?_ ?_
   | refine LeO.bind ?_ (fun _ => ?_)
theorem laws_szEntryS.mono:∀ a0 a1 k,LeO (laws_szEntryS.f k a0 a1) (laws_szEntryS.f (k+1) a0 a1):=by
 intro a0 a1 k;have ih0:=laws_szEntryS.mono_l k
 unfold laws_szEntryS.f
 repeat' first
   | (with_reducible exact ih0 _ _ _)
   | (with_reducible exact LeO.refl _)
   | (with_reducible exact LeO.none _)
   | (with_reducible refine LeO.ite ?_ ?_)
   | (with_reducible refine LeO.bind ?_ (fun _ => ?_))
   | exact ih0 _ _ _
   | exact LeO.none _
   | refine LeO.ite ?_ ?_
   | refine LeO.bind ?_ (fun _ => ?_)
set_option maxHeartbeats 8000000 in
set_option maxRecDepth 100000 in
theorem laws_szEntryS.calls (k:Nat) (A0:Option Addr) (c0:Nat) (l0:List (S130)) (a1:Int) (r:Int) (w:World) (hr0:Kd.C k130 w A0 l0.length l0) (hc0:l0.length≤c0) (h:laws_szEntryS.f k l0 a1=some r) :
  Calls Tryd.prog 53 #[.slice A0 l0.length c0,.int .i64 a1] w fun e w'=>e = .returned (.int .i64 r)∧Below w.heap.size w w':=by
 have hu130:=Tryd.underlying130;have an:=Aside0.mk hr0;have HC0:=Aside0.mk hc0;clear hr0 hc0;have HB:=Aside0.mk (Below.refl w.heap.size w);have H:(if (wrap64 (a1 - (l0.length:Int)))<0 then (some (-1)) else (laws_szEntryS.l0 k l0 (wrap64 (a1 - (l0.length:Int))) 0))=some r:=h;clear h
 by_cases c3:(wrap64 (a1 - (l0.length:Int)))<0
 ·rw [if_pos c3] at H
  have a8:decide ((wrap64 (a1 - (l0.length:Int)))<0)=true:=decide_eq_true c3;clear c3;obtain rfl:=Option.some.inj H
  go_enter Tryd.func53,Tryd.ntmps53
  go_wp2
  go_ret
  exact ⟨Ye2,be HB.out⟩
 ·rw [if_neg c3] at H
  have a8:decide ((wrap64 (a1 - (l0.length:Int)))<0)=false:=decide_eq_false c3;clear c3;have H':=Aside0.mk H;clear H
  go_enter Tryd.func53,Tryd.ntmps53
  go_wp2
  go_loopg [1,5] k (fun kq v1 v5 w' => ∃ (ao:Int) (a2:Int),v1 = .int .i64 ao∧v5 = .int .i64 a2∧Aside0 (laws_szEntryS.l0 kq l0 ao a2=some r)∧Aside0 (kq≤k)∧Aside0 (Below w.heap.size w w'))
  case atStart=>exact ⟨(wrap64 (a1 - (l0.length:Int))),(0),Ye1,Ye1,H',⟨Nat.le_refl _⟩,⟨be HB.out⟩⟩
  case round =>
   clear H';(try clear p2);(try clear c3);(try clear a8);obtain ⟨ao,a2,rfl,rfl,HA,HK1,HB⟩:=hrel
   cases gk with
   | zero=>exact absurd HA.out (by simp [laws_szEntryS.l0])
   | succ k1 =>
    have H:=HA.out;clear HA;simp only [laws_szEntryS.l0] at H
    by_cases c4:a2<(l0.length:Int)
    ·rw [if_pos c4] at H
     have aC:decide (a2<(l0.length:Int))=true:=decide_eq_true c4;clear c4
     by_cases c5:0≤a2
     ·rw [if_pos c5] at H
      have aI:decide (0≤a2)=true:=decide_eq_true c5;clear c5;replace H:=Option.bind_eq_some_iff.mp H;obtain ⟨aa,A60,H⟩:=H;replace H:(if aa<0 then (some (-1)) else (laws_szEntryS.l0 k1 l0 aa (wrap64 (a2+1))))=some r:=H;have A6:=Aside0.mk A60;clear A60
      by_cases c7:aa<0
      ·rw [if_pos c7] at H
       have b7:decide (aa<0)=true:=decide_eq_true c7;clear c7;obtain rfl:=Option.some.inj H;have ap:0≤(a2:Int):=oda;have aq:a2<(l0.length:Int):=oda;obtain ⟨bC,aP,bD,bE,bF⟩:=at_T130 (Kd.C_below an.out HB.out) a2 ap aq
       cases aP
       replace ap:=eq_true ap;replace aq:=eq_true aq
       go_wp2_with (first|((with_reducible refine gc 78 rfl ?_);refine gl (some 23) _ (#[.agg #[.string ((rd_T130 l0 a2).f0),.string ((rd_T130 l0 a2).f1),.bool ((rd_T130 l0 a2).f2)],.int .i64 ao]) Tryd.func78 ?_;(with_reducible refine (laws_szEntry.calls ((rd_T130 l0 a2).f0) ((rd_T130 l0 a2).f1) ((rd_T130 l0 a2).f2) ao aa _ A6.out).mono ?_);rintro e w8 ⟨rfl,hb⟩;refine ⟨_,rfl,?_⟩;refine Ya1 (below_step (be HB.out) hb) ?_;clear HB;intro HB;(try clear hb);(try clear hb2);(try clear hk);(try clear hi)))
       go_ret
       exact ⟨Ye2,be HB.out⟩
      ·rw [if_neg c7] at H
       have b7:decide (aa<0)=false:=decide_eq_false c7;clear c7;have H':=Aside0.mk H;clear H;have ap:0≤(a2:Int):=oda;have aq:a2<(l0.length:Int):=oda;obtain ⟨bC,aP,bD,bE,bF⟩:=at_T130 (Kd.C_below an.out HB.out) a2 ap aq
       cases aP
       replace ap:=eq_true ap;replace aq:=eq_true aq
       go_wp2_with (first|((with_reducible refine gc 78 rfl ?_);refine gl (some 23) _ (#[.agg #[.string ((rd_T130 l0 a2).f0),.string ((rd_T130 l0 a2).f1),.bool ((rd_T130 l0 a2).f2)],.int .i64 ao]) Tryd.func78 ?_;(with_reducible refine (laws_szEntry.calls ((rd_T130 l0 a2).f0) ((rd_T130 l0 a2).f1) ((rd_T130 l0 a2).f2) ao aa _ A6.out).mono ?_);rintro e w9 ⟨rfl,hb⟩;refine ⟨_,rfl,?_⟩;refine Ya1 (below_step (be HB.out) hb) ?_;clear HB;intro HB;(try clear hb);(try clear hb2);(try clear hk);(try clear hi)))
       go_roundg k1
       case measure=>have:=HK1.out;omega
       case rel=>exact ⟨(aa),(wrap64 (a2+1)),Ye1,Ye1,H',⟨by have:=HK1.out;omega⟩,⟨be HB.out⟩⟩
     ·rw [if_neg c5] at H
      exact absurd H (by simp)
    ·rw [if_neg c4] at H
     have aC:decide (a2<(l0.length:Int))=false:=decide_eq_false c4;clear c4;obtain rfl:=Option.some.inj H
     go_wp2
     go_ret
     exact ⟨Ye2,be HB.out⟩

def laws_toEntry.f (a0_0:ByteArray) (a0_1:ByteArray) (a0_2:Bool):Option (ByteArray×ByteArray×Bool):=some (a0_0,a0_1,a0_2)
set_option maxHeartbeats 8000000 in
set_option maxRecDepth 100000 in
theorem laws_toEntry.calls (a0_0:ByteArray) (a0_1:ByteArray) (a0_2:Bool) (r1:ByteArray) (r2:ByteArray) (r3:Bool) (w:World) (h:laws_toEntry.f a0_0 a0_1 a0_2=some (r1,r2,r3)) :
  Calls Tryd.prog 82 #[.agg #[.string a0_0,.string a0_1,.bool a0_2]] w fun e w'=>e = .returned (.agg #[.string r1,.string r2,.bool r3])∧Below w.heap.size w w':=by
 have hu130:=Tryd.underlying130;have hu34:=Tryd.underlying34;have HB:=Aside0.mk (Below.refl w.heap.size w);have H:(some (a0_0,a0_1,a0_2))=some (r1,r2,r3):=h;clear h;simp only [Option.some.injEq,Prod.mk.injEq] at H;obtain ⟨rfl,rfl,rfl⟩:=H
 go_enter Tryd.func82,Tryd.ntmps82
 go_wp2_with (first|((with_reducible refine gd 1 rfl ?_);refine bx 1 130 (#[.string a0_0,.string a0_1,.bool a0_2]) ?_;intro gb565 hg w2 hbox hb;refine Ya4 (below_step (be HB.out) hb) (hbox) (bs hg (be HB.out)) (bs hg (be HB.out)) ?_;clear HB;intro HB ab GW565 GE565;clear hb hbox hg)|((with_reducible refine gd 2 rfl ?_);refine bx 2 34 (#[.string (⟨#[]⟩:ByteArray),.string (⟨#[]⟩:ByteArray),.bool false]) ?_;intro bG hg w3 hbox hb;refine Ya7 (bb ab hb) (below_step (bf HB.out) hb) (hbox) (bs hg (bf HB.out)) (bs hg (bf HB.out)) (bl hg ab) (br hg ab) ?_;clear ab HB;intro ab HB ar GW566 GE566 bH bI;clear hb hbox hg)|((with_reducible refine gd 3 rfl ?_);refine bx 3 34 (#[.string (⟨#[]⟩:ByteArray),.string (⟨#[]⟩:ByteArray),.bool false]) ?_;intro gb567 hg w4 hbox hb;refine Ya10 (bb ab hb) (bb ar hb) (below_step (bf HB.out) hb) (hbox) (bs hg (bf HB.out)) (bs hg (bf HB.out)) (bl hg ab) (br hg ab) (bl hg ar) (br hg ar) ?_;clear ab ar HB;intro ab ar HB bJ GW567 GE567 bK bL bM bN;clear hb hbox hg;have hnb5:=bH.out;have hnc5:=bI.out;have hnb6:=bK.out;have hnc6:=bL.out;have ⟨cU,cV,cW,cX,cY,cZ⟩:=Yc3 ab.out;have bo:=bN.out;have bq:=bM.out;have ⟨bu,bv,bw,bz,bA,bB⟩:=Yc3 bJ.out;have ⟨aY,aZ,b0,b1,b2,b3⟩:=Yc3 ar.out))
 refine bodyPost_ret (results_cell_row rfl _ _ bG 34 #[.string a0_0,.string a0_1,.bool a0_2] (0,0) _ rfl (bp ar.out) Tryd.underlying34 rfl (by kernel_rfl)) rfl ?_;exact ⟨Ye2,(bf HB.out)⟩

def laws_toEntryS.l0:Nat→List (S130)→List (S34)→Int→Option ((List (S34)))
 | 0,_,_,_=>none
 | k+1,x0,x3,x4=>if x4<(x0.length:Int) then (if 0≤x4 then ((laws_toEntry.f ((rd_T130 x0 x4).f0) ((rd_T130 x0 x4).f1) ((rd_T130 x0 x4).f2)).bind fun bt572=>(if x4<(x3.length:Int) then (laws_toEntryS.l0 k x0 (x3.set (x4:Int).toNat (⟨bt572.1,bt572.2.1,bt572.2.2⟩:S34)) (wrap64 (x4+1))) else (none))) else (none)) else (some x3)
def laws_toEntryS.f (k:Nat) (l0:List (S130)):Option ((List (S34))):=if 0≤(l0.length:Int) then (if ((l0.length:Int):Int).toNat≤7036874417766 then (laws_toEntryS.l0 k l0 (List.replicate ((l0.length:Int):Int).toNat z34) 0) else (none)) else (none)
theorem laws_toEntryS.mono_l:∀ k,(∀ y0 y1 y2,LeO (laws_toEntryS.l0 k y0 y1 y2) (laws_toEntryS.l0 (k+1) y0 y1 y2))
 | 0=>fun _ _ _ r h=>by simp [laws_toEntryS.l0] at h
 | k + 1 => by
  have ih0:=laws_toEntryS.mono_l k
  ·intro y0 y1 y2
   unfold laws_toEntryS.l0
   repeat' first
   | (with_reducible exact ih0 _ _ _)
   | (with_reducible exact LeO.refl _)
   | (with_reducible exact LeO.none _)
   | (with_reducible refine LeO.ite ?_ ?_)
   | (with_reducible refine LeO.bind ?_ (fun _ => ?_))
   | exact ih0 _ _ _
   | exact LeO.none _
   | refine LeO.ite ?_ ?_
   | refine LeO.bind ?_ (fun _ => ?_)
theorem laws_toEntryS.mono:∀ a0 k,LeO (laws_toEntryS.f k a0) (laws_toEntryS.f (k+1) a0):=by
 intro a0 k;have ih0:=laws_toEntryS.mono_l k
 unfold laws_toEntryS.f
 repeat' first
   | (with_reducible exact ih0 _ _ _)
   | (with_reducible exact LeO.refl _)
   | (with_reducible exact LeO.none _)
   | (with_reducible refine LeO.ite ?_ ?_)
   | (with_reducible refine LeO.bind ?_ (fun _ => ?_))
   | exact ih0 _ _ _
   | exact LeO.none _
   | refine LeO.ite ?_ ?_
   | refine LeO.bind ?_ (fun _ => ?_)
set_option maxHeartbeats 8000000 in
set_option maxRecDepth 100000 in
theorem laws_toEntryS.calls (k : Nat) (A0 : Option Addr) (c0 : Nat) (l0 : List (S130)) (r : List (S34)) (w : World) (hr0 : Kd.C k130 w A0 l0.length l0) (hc0 : l0.length ≤ c0) (h : laws_toEntryS.f k l0 = some r) :
  Calls Tryd.prog 56 #[.slice A0 l0.length c0] w fun e w' => ∃ v0_:Value,e = .returned (v0_)∧Kd.R k34 34 w' w.heap.size (fun _=>True) v0_ r∧Below w.heap.size w w':=by
 have hu130:=Tryd.underlying130;have hu34:=Tryd.underlying34;have an:=Aside0.mk hr0;have HC0:=Aside0.mk hc0;clear hr0 hc0;have HB:=Aside0.mk (Below.refl w.heap.size w);have H:(if 0≤(l0.length:Int) then (if ((l0.length:Int):Int).toNat≤7036874417766 then (laws_toEntryS.l0 k l0 (List.replicate ((l0.length:Int):Int).toNat z34) 0) else (none)) else (none))=some r:=h;clear h
 by_cases c2:0≤(l0.length:Int)
 ·rw [if_pos c2] at H
  have bO:=eq_true c2;have bP:decide (0≤(l0.length:Int))=true:=decide_eq_true c2;clear c2
  by_cases c3:((l0.length:Int):Int).toNat≤7036874417766
  ·rw [if_pos c3] at H
   have a8:=eq_true c3;have aB:decide (((l0.length:Int):Int).toNat≤7036874417766)=true:=decide_eq_true c3;clear c3
   obtain ⟨b8,aE⟩:∃ y_:List (S34),y_=(List.replicate ((l0.length:Int):Int).toNat z34):=⟨_,rfl⟩
   replace H:(laws_toEntryS.l0 k l0 b8 0)=some r:=by first|(rw [aE];with_reducible exact H)|(have H2_:=(Option.bind_some _ _).symm.trans H;rw [aE];with_reducible exact H2_)|(have H2_:=(Option.bind_some _ _).symm.trans H;with_reducible exact H2_)|with_reducible exact H|(rw [aE];exact H)|exact H
   have b9:=Aside0.mk aE;clear aE;have H':=Aside0.mk H;clear H
   go_enter Tryd.func56,Tryd.ntmps56
   go_wp2_with (first|((with_reducible refine gd 7 rfl ?_);refine Kd.R_make k34 _ 34 rfl (N:=7) rfl 48 _ _ rfl (l0.length:Int) rfl rfl Tryd.underlying48 (.agg #[(.string ⟨#[]⟩),(.string ⟨#[]⟩),(.bool false)]) 40 info34 rfl (by decide) (by omega) z34 (ok:=fun _=>True) (okp:=fun _=>True) (k34_mkM _ _ _ z34 ) (fun _ hk=>hk) trivial (oda) (Nat.le_trans (Nat.mul_le_mul_right _ (oda:(l0.length:Int).toNat≤7036874417766)) (by omega)) (Below.refl _ _) (Nat.le_refl _) ?_;intro bQ w4 ho5 hb hg_ hnew_;clear hg_ hnew_;(first|rw [←b9.out] at ho5|(simp only [Int.reduceToNat] at ho5;rw [←b9.out] at ho5));refine Ya2 (Kd.R_lower ho5 (below_size (be HB.out))) (below_step (be HB.out) hb) ?_;clear HB;intro bR HB;clear hb ho5))
   go_loopg [4] k (fun kq v4 w' => ∃ (a5:List (S34)) (a3:Int),v4 = .int .i64 a3∧Aside0 (laws_toEntryS.l0 kq l0 a5 a3=some r)∧Aside0 (kq≤k)∧Aside0 (Kd.R k34 34 w' w.heap.size (fun _=>True) bQ a5)∧Aside0 (Below w.heap.size w w'))
   case atStart=>exact ⟨(b8),(0),Ye1,H',⟨Nat.le_refl _⟩,⟨kr bR.out⟩,⟨be HB.out⟩⟩
   case round =>
    clear H';(try clear c2);(try clear bO);(try clear bP);(try clear p2);(try clear c3);(try clear a8);(try clear aB);(try clear c5);obtain ⟨a5,a3,rfl,HA,HK1,a6,HB⟩:=hrel
    cases gk with
    | zero=>exact absurd HA.out (by simp [laws_toEntryS.l0])
    | succ k1 =>
     have H:=HA.out;clear HA;simp only [laws_toEntryS.l0] at H
     by_cases c6:a3<(l0.length:Int)
     ·rw [if_pos c6] at H
      have aG:decide (a3<(l0.length:Int))=true:=decide_eq_true c6;clear c6
      by_cases c7:0≤a3
      ·rw [if_pos c7] at H
       have b7:decide (0≤a3)=true:=decide_eq_true c7;clear c7;replace H:=Option.bind_eq_some_iff.mp H;obtain ⟨⟨au,av,aw⟩,A80,H⟩:=H;replace H:(if a3<(a5.length:Int) then (laws_toEntryS.l0 k1 l0 (a5.set (a3:Int).toNat (⟨au,av,aw⟩:S34)) (wrap64 (a3+1))) else (none))=some r:=H;have A8:=Aside0.mk A80;clear A80
       by_cases c9:a3<(a5.length:Int)
       ·rw [if_pos c9] at H
        have c9b0:decide (a3<(a5.length:Int))=true:=decide_eq_true c9;clear c9
        obtain ⟨aQ,aF⟩:∃ y_:List (S34),y_=(a5.set (a3:Int).toNat (⟨au,av,aw⟩:S34)):=⟨_,rfl⟩
        replace H:(laws_toEntryS.l0 k1 l0 aQ (wrap64 (a3+1)))=some r:=by first|(rw [aF];with_reducible exact H)|(have H2_:=(Option.bind_some _ _).symm.trans H;rw [aF];with_reducible exact H2_)|(have H2_:=(Option.bind_some _ _).symm.trans H;with_reducible exact H2_)|with_reducible exact H|(rw [aF];exact H)|exact H
        have bS:=Aside0.mk aF;clear aF;have H':=Aside0.mk H;clear H;have aR:0≤(a3:Int):=oda;have aS:a3<(l0.length:Int):=oda;obtain ⟨ad571,bT,d0,d1,d2⟩:=at_T130 (Kd.C_below an.out HB.out) a3 aR aS
        cases bT
        replace aR:=eq_true aR;replace aS:=eq_true aS
        go_wp2_with (first|((with_reducible refine gc 82 rfl ?_);refine gl (some 20) _ (#[.agg #[.string ((rd_T130 l0 a3).f0),.string ((rd_T130 l0 a3).f1),.bool ((rd_T130 l0 a3).f2)]]) Tryd.func82 ?_;(with_reducible refine (laws_toEntry.calls ((rd_T130 l0 a3).f0) ((rd_T130 l0 a3).f1) ((rd_T130 l0 a3).f2) au av aw _ A8.out).mono ?_);rintro e a9 ⟨rfl,hb⟩;refine ⟨_,rfl,?_⟩;refine Ya2 (Kd.R_below (kr a6.out) hb) (below_step (be HB.out) hb) ?_;clear a6 HB;intro a6 HB;(try clear hb);(try clear hb2);(try clear hk);(try clear hi);have p10:0≤(a3:Int):=oda;have q10:(a3:Int)<((a5.length:Int):Int):=oda;obtain ⟨a7,ba,bd,bg,gl10,cl10,HG10⟩:=Kd.R_form a6.out (by omega);(first|cases bd|(injection bd with ea_ en_ ec_;(first|subst ea_|(injection ea_ with ea_;subst ea_));subst ec_;clear en_));have aT:=Aside0.mk bg;have GG10:=Aside0.mk HG10;clear bg gl10 HG10;obtain ⟨ce10,hcl10,hM10,hcc10,hfr10⟩:=Kd.R_elem a6.out z34 (a3:Int) p10 q10;obtain rfl:=k34_openM hM10;have d3:a9.cell? ⟨a7,(a3:Int).toNat*3,none⟩=some (.string ((rd_T34 a5 a3).f0)):=hcc10 0 _ rfl;have d4:a9.cell? ⟨a7,(a3:Int).toNat*3+1,none⟩=some (.string ((rd_T34 a5 a3).f1)):=hcc10 1 _ rfl;have d5:a9.cell? ⟨a7,(a3:Int).toNat*3+2,none⟩=some (.bool ((rd_T34 a5 a3).f2)):=hcc10 2 _ rfl;have hf10_0:a9.frozen? ⟨a7,(a3:Int).toNat*3,none⟩=false:=hfr10 0;have hf10_1:a9.frozen? ⟨a7,(a3:Int).toNat*3+1,none⟩=false:=hfr10 1;have hf10_2:a9.frozen? ⟨a7,(a3:Int).toNat*3+2,none⟩=false:=hfr10 2;(try clear hM10);clear hcl10 hcc10 hfr10;replace p10:=eq_true p10;replace q10:=eq_true q10;have bh:=Aside0.mk (show Kd.R k34 34 a9 w.heap.size (fun _=>True) (.slice (some ⟨a7,0,none⟩) a5.length ba) a5 from (kr a6.out));obtain ⟨ce12,hcl12,hM12,hcc12,hfr12⟩:=Kd.R_elem bh.out z34 (a3:Int) (oda) (by have h_:(a3:Int)<((a5.length:Int):Int):=oda;first|exact h_|(have e_:=(Kd.R_reads' a6.out).1;omega)|simpa using h_);obtain rfl:=k34_openM hM12;have aU:=Kd.R_seg bh.out (a3:Int) (oda) (by have h_:(a3:Int)<((a5.length:Int):Int):=oda;first|exact h_|(have e_:=(Kd.R_reads' a6.out).1;omega)|simpa using h_) (seg:=[.string au,.string av,.bool aw]) (j:=0) hcl12 hcc12 (show 3≤3 from by decide) (x':=(⟨au,av,aw⟩:S34)) (k34_mkM _ _ _ (⟨au,av,aw⟩:S34) ) (fun _ hk=>hk);have bU:=hcc12 0 _ rfl;(try simp only [show (k34).sz=3 from rfl,Nat.mul_one,Nat.add_zero] at bU);have hf12_0:=hfr12 0;(try simp only [show (k34).sz=3 from rfl,Nat.mul_one,Nat.add_zero] at hf12_0);have bV:=hcc12 1 _ rfl;(try simp only [show (k34).sz=3 from rfl,Nat.mul_one,Nat.add_zero] at bV);have hf12_1:=hfr12 1;(try simp only [show (k34).sz=3 from rfl,Nat.mul_one,Nat.add_zero] at hf12_1);have bW:=hcc12 2 _ rfl;(try simp only [show (k34).sz=3 from rfl,Nat.mul_one,Nat.add_zero] at bW);have hf12_2:=hfr12 2;(try simp only [show (k34).sz=3 from rfl,Nat.mul_one,Nat.add_zero] at hf12_2);(try clear hM12);clear hcl12 hcc12 hfr12)|((with_reducible refine gate_store (t:=34) (p:=21) rfl ?_);refine store_event (t:=34) (p:=21) (v:=?vo_w13) (w1:=(((a9.setCell ⟨a7,(a3:Int).toNat*3,none⟩ (.string au)).setCell ⟨a7,(a3:Int).toNat*3+1,none⟩ (.string av)).setCell ⟨a7,(a3:Int).toNat*3+2,none⟩ (.bool aw))) ?hg ?ho ?hn ?hr ?_;(case ho=>rfl);(case hg=>rfl);(case hn=>rfl);(case hr=>first|(go_simp;done)|(go_simp;rfl));intro aV hw;have hg:a9.grownBy aV (some a7):=(by rw [hw];exact aU.2);have hp_:Kd.R k34 34 aV w.heap.size (fun _=>True) (.slice (some ⟨a7,0,none⟩) a5.length ba) aQ:=(by rw [hw,bS.out];exact aU.1);clear aU;refine Ya2 (hp_) ((by rw [hw];exact below_set (below_set (below_set (HB.out) aT.out) aT.out) aT.out:Below w.heap.size w aV)) ?_;clear a6 HB;intro a6 HB;clear hg hw hp_))
        go_roundg k1
        case measure=>have:=HK1.out;omega
        case rel=>exact ⟨(aQ),(wrap64 (a3+1)),Ye1,H',⟨by have:=HK1.out;omega⟩,⟨kr a6.out⟩,⟨be HB.out⟩⟩
       ·rw [if_neg c9] at H
        exact absurd H (by simp)
      ·rw [if_neg c7] at H
       exact absurd H (by simp)
     ·rw [if_neg c6] at H
      have aG:decide (a3<(l0.length:Int))=false:=decide_eq_false c6;clear c6;obtain rfl:=Option.some.inj H
      go_wp2
      go_ret
      exact ⟨_,Ye2,kr a6.out,be HB.out⟩
  ·rw [if_neg c3] at H
   exact absurd H (by simp)
 ·rw [if_neg c2] at H
  exact absurd H (by simp)

def laws_eqEntryS.l0:Nat→List (S34)→List (S34)→Int→Option (Bool)
 | 0,_,_,_=>none
 | k+1,x0,x1,x5=>if x5<(x0.length:Int) then (if 0≤x5 then (if x5<(x1.length:Int) then ((laws_eqEntry.f ((rd_T34 x0 x5).f0) ((rd_T34 x0 x5).f1) ((rd_T34 x0 x5).f2) ((rd_T34 x1 x5).f0) ((rd_T34 x1 x5).f1) ((rd_T34 x1 x5).f2)).bind fun aH=>(if aH=true then (laws_eqEntryS.l0 k x0 x1 (wrap64 (x5+1))) else (some false))) else (none)) else (none)) else (some true)
def laws_eqEntryS.f (k:Nat) (l0:List (S34)) (l1:List (S34)):Option (Bool):=if (l0.length:Int)=(l1.length:Int) then (laws_eqEntryS.l0 k l0 l1 0) else (some false)
theorem laws_eqEntryS.mono_l:∀ k,(∀ y0 y1 y2,LeO (laws_eqEntryS.l0 k y0 y1 y2) (laws_eqEntryS.l0 (k+1) y0 y1 y2))
 | 0=>fun _ _ _ r h=>by simp [laws_eqEntryS.l0] at h
 | k + 1 => by
  have ih0:=laws_eqEntryS.mono_l k
  ·intro y0 y1 y2
   unfold laws_eqEntryS.l0
   repeat' first
   | (with_reducible exact ih0 _ _ _)
   | (with_reducible exact LeO.refl _)
   | (with_reducible exact LeO.none _)
   | (with_reducible refine LeO.ite ?_ ?_)
   | (with_reducible refine LeO.bind ?_ (fun _ => ?_))
   | exact ih0 _ _ _
   | exact LeO.none _
   | refine LeO.ite ?_ ?_
   | refine LeO.bind ?_ (fun _ => ?_)
theorem laws_eqEntryS.mono:∀ a0 a1 k,LeO (laws_eqEntryS.f k a0 a1) (laws_eqEntryS.f (k+1) a0 a1):=by
 intro a0 a1 k;have ih0:=laws_eqEntryS.mono_l k
 unfold laws_eqEntryS.f
 repeat' first
   | (with_reducible exact ih0 _ _ _)
   | (with_reducible exact LeO.refl _)
   | (with_reducible exact LeO.none _)
   | (with_reducible refine LeO.ite ?_ ?_)
   | (with_reducible refine LeO.bind ?_ (fun _ => ?_))
   | exact ih0 _ _ _
   | exact LeO.none _
   | refine LeO.ite ?_ ?_
   | refine LeO.bind ?_ (fun _ => ?_)
def laws_eqEntryS.T6:Bool×List (List Nat×List Nat):=(true,[([],[]),([],[]),([0,1],[0,1]),([2],[2]),([],[]),([],[]),([4,5],[4,5]),([6],[6]),([3,7],[3,7]),([8],[8])])
def laws_eqEntryS.B6:List Nat:=[0,0,3,7,0,0,48,112,255,511]
theorem laws_eqEntryS.tab6:rtab .any (opsOf Tryd.f59 6)=laws_eqEntryS.T6:=by kernel_rfl
theorem laws_eqEntryS.bits6:waitsOk laws_eqEntryS.T6.2 laws_eqEntryS.B6=true:=by kernel_rfl
set_option maxHeartbeats 8000000 in
set_option maxRecDepth 100000 in
theorem laws_eqEntryS.calls (k : Nat) (A0 : Option Addr) (c0 : Nat) (l0 : List (S34)) (A1 : Option Addr) (c1 : Nat) (l1 : List (S34)) (r : Bool) (w : World) (hr0 : Kd.C k34 w A0 l0.length l0) (hc0 : l0.length ≤ c0) (hr1 : Kd.C k34 w A1 l1.length l1) (hc1 : l1.length ≤ c1) (h : laws_eqEntryS.f k l0 l1 = some r) :
  Calls Tryd.prog 59 #[.slice A0 l0.length c0,.slice A1 l1.length c1] w fun e w'=>e = .returned (.bool r)∧Below w.heap.size w w':=by
 have hu34:=Tryd.underlying34;have an:=Aside0.mk hr0;have HC0:=Aside0.mk hc0;clear hr0 hc0;have HR1:=Aside0.mk hr1;have HC1:=Aside0.mk hc1;clear hr1 hc1;have HB:=Aside0.mk (Below.refl w.heap.size w);have H:(if (l0.length:Int)=(l1.length:Int) then (laws_eqEntryS.l0 k l0 l1 0) else (some false))=some r:=h;clear h
 by_cases c3:(l0.length:Int)=(l1.length:Int)
 ·rw [if_pos c3] at H
  have a8:((l0.length:Int)==(l1.length:Int))=true:=beq_iff_eq.mpr c3;have aB:((l0.length:Int) != (l1.length:Int))=false:=bne_eq_false_iff_eq.mpr c3
  have bi:(l0.length==l1.length)=true:=by first|simpa using c3|(simp at c3 ⊢; omega)
  clear c3;have H':=Aside0.mk H;clear H
  go_enter Tryd.func59,Tryd.ntmps59
  go_wp2
  go_loopg [5] k (fun kq v5 w' => ∃ (a2:Int),v5 = .int .i64 a2∧Aside0 (laws_eqEntryS.l0 kq l0 l1 a2=some r)∧Aside0 (kq≤k)∧Aside0 (Below w.heap.size w w'))
  case atStart=>exact ⟨(0),Ye1,H',⟨Nat.le_refl _⟩,⟨be HB.out⟩⟩
  case round =>
   clear H';(try clear c1);(try clear p2);(try clear c3);(try clear a8);(try clear aB);(try clear bi);obtain ⟨a2,rfl,HA,HK1,HB⟩:=hrel
   cases gk with
   | zero=>exact absurd HA.out (by simp [laws_eqEntryS.l0])
   | succ k1 =>
    have H:=HA.out;clear HA;simp only [laws_eqEntryS.l0] at H
    by_cases c4:a2<(l0.length:Int)
    ·rw [if_pos c4] at H
     have aC:decide (a2<(l0.length:Int))=true:=decide_eq_true c4;clear c4
     by_cases c5:0≤a2
     ·rw [if_pos c5] at H
      have aI:decide (0≤a2)=true:=decide_eq_true c5;clear c5
      by_cases c6:a2<(l1.length:Int)
      ·rw [if_pos c6] at H
       have aG:decide (a2<(l1.length:Int))=true:=decide_eq_true c6;clear c6;replace H:=Option.bind_eq_some_iff.mp H;obtain ⟨aH,A70,H⟩:=H;replace H:(if aH=true then (laws_eqEntryS.l0 k1 l0 l1 (wrap64 (a2+1))) else (some false))=some r:=H;have A7:=Aside0.mk A70;clear A70
       by_cases c8:aH=true
       ·subst c8
        have H1:(laws_eqEntryS.l0 k1 l0 l1 (wrap64 (a2+1)))=some r:=by rw [if_pos rfl] at H;exact H
        clear H;have H:=H1;clear H1;have H':=Aside0.mk H;clear H
        try go_wp2
        refine Ya1 (below_drew1 HB.out) ?_;clear HB;intro HB;have ax:0≤(a2:Int):=oda;have ay:a2<(l0.length:Int):=oda;obtain ⟨ac,aW,ae,af,ag⟩:=at_T34 an.out a2 ax ay;have hw727_2:=ag;have hw727_1:=af;have hw727_0:=ae
        cases aW
        replace ae:=pw_cell_below HB.out ae;replace af:=pw_cell_below HB.out af;replace ag:=pw_cell_below HB.out ag;replace ax:=eq_true ax;replace ay:=eq_true ay;have az:0≤(a2:Int):=oda;have aA:a2<(l1.length:Int):=oda;obtain ⟨ad,aX,ah,ai,aj⟩:=at_T34 HR1.out a2 az aA;have hw728_2:=aj;have hw728_1:=ai;have hw728_0:=ah
        cases aX
        replace ah:=pw_cell_below HB.out ah;replace ai:=pw_cell_below HB.out ai;replace aj:=pw_cell_below HB.out aj;replace az:=eq_true az;replace aA:=eq_true aA;refine start_ (n:=10) (S:=fun w'=>w'.cell? (ac.add ((a2).toNat*3))=some (.string ((rd_T34 l0 a2).f0))∧w'.cell? ⟨(ac.add ((a2).toNat*3)).block,(ac.add ((a2).toNat*3)).off+1,none⟩=some (.string ((rd_T34 l0 a2).f1))∧w'.cell? ⟨(ac.add ((a2).toNat*3)).block,(ac.add ((a2).toNat*3)).off+2,none⟩=some (.bool ((rd_T34 l0 a2).f2))∧w'.cell? (ad.add ((a2).toNat*3))=some (.string ((rd_T34 l1 a2).f0))∧w'.cell? ⟨(ad.add ((a2).toNat*3)).block,(ad.add ((a2).toNat*3)).off+1,none⟩=some (.string ((rd_T34 l1 a2).f1))∧w'.cell? ⟨(ad.add ((a2).toNat*3)).block,(ad.add ((a2).toNat*3)).off+2,none⟩=some (.bool ((rd_T34 l1 a2).f2))) (ds:=[]) (fb 10 0) (by kernel_rfl) rfl rfl ⟨(pw_cell_below HB.out hw727_0),(pw_cell_below HB.out hw727_1),(pw_cell_below HB.out hw727_2),(pw_cell_below HB.out hw728_0),(pw_cell_below HB.out hw728_1),(pw_cell_below HB.out hw728_2)⟩ (fun hHeld => ?_);refine with_tabW laws_eqEntryS.tab6 laws_eqEntryS.bits6 (fun HT_ HW_ => ?_);generalize wr.drew=w9 at HB ae af ag ah ai aj hHeld ⊢; refine pu 0 17 (fb 10 1) HT_ ?_;refine pu 1 18 (fb 10 3) HT_ ?_;refine pu 2 19 (fb 10 7) HT_ ?_;refine pu 4 21 (fb 10 23) HT_ ?_;refine pu 5 22 (fb 10 55) HT_ ?_;refine pu 6 23 (fb 10 119) HT_ ?_;refine tk 3 20 (fb 10 127) HT_ HW_ hHeld ?_;refine tk 7 24 (fb 10 255) HT_ HW_ hHeld ?_;refine o1 8 (some 25) (fb 10 511) HT_ (fun K hK => ?_);refine gs _ (#[.agg #[.string ((rd_T34 l0 a2).f0),.string ((rd_T34 l0 a2).f1),.bool ((rd_T34 l0 a2).f2)],.agg #[.string ((rd_T34 l1 a2).f0),.string ((rd_T34 l1 a2).f1),.bool ((rd_T34 l1 a2).f2)]]) Tryd.func51 ?_;(with_reducible refine (laws_eqEntry.calls ((rd_T34 l0 a2).f0) ((rd_T34 l0 a2).f1) ((rd_T34 l0 a2).f2) ((rd_T34 l1 a2).f0) ((rd_T34 l1 a2).f1) ((rd_T34 l1 a2).f2) true _ A7.out).mono ?_);rintro e w10 ⟨rfl,hb⟩;refine ⟨_,rfl,?_⟩;refine Ya1 (below_step (be HB.out) hb) ?_;clear HB;intro HB;(try clear hb);(try clear hb2);(try clear hk);(try clear hi);refine hK.out _ _ ⟨(pw_cell_below HB.out hw727_0),(pw_cell_below HB.out hw727_1),(pw_cell_below HB.out hw727_2),(pw_cell_below HB.out hw728_0),(pw_cell_below HB.out hw728_1),(pw_cell_below HB.out hw728_2)⟩ (fun hHeld => ?_);clear hK K;refine nm 25 ?_;refine pu 9 26 (fb 10 1023) HT_ ?_;refine done_ (done_of HT_.out (by kernel_rfl)) ?_
        try go_wp2
        go_roundg k1
        case measure=>have:=HK1.out;omega
        case rel=>exact ⟨(wrap64 (a2+1)),Ye1,H',⟨by have:=HK1.out;omega⟩,⟨be HB.out⟩⟩
       ·replace c8:=Bool.eq_false_iff.mpr c8;subst c8
        have H1:(some false)=some r:=by rw [if_neg (show ¬(false=true) by decide)] at H;exact H
        clear H;have H:=H1;clear H1;obtain rfl:=Option.some.inj H
        try go_wp2
        refine Ya1 (below_drew1 HB.out) ?_;clear HB;intro HB;have ax:0≤(a2:Int):=oda;have ay:a2<(l0.length:Int):=oda;obtain ⟨ac,aW,ae,af,ag⟩:=at_T34 an.out a2 ax ay;have hw727_2:=ag;have hw727_1:=af;have hw727_0:=ae
        cases aW
        replace ae:=pw_cell_below HB.out ae;replace af:=pw_cell_below HB.out af;replace ag:=pw_cell_below HB.out ag;replace ax:=eq_true ax;replace ay:=eq_true ay;have az:0≤(a2:Int):=oda;have aA:a2<(l1.length:Int):=oda;obtain ⟨ad,aX,ah,ai,aj⟩:=at_T34 HR1.out a2 az aA;have hw728_2:=aj;have hw728_1:=ai;have hw728_0:=ah
        cases aX
        replace ah:=pw_cell_below HB.out ah;replace ai:=pw_cell_below HB.out ai;replace aj:=pw_cell_below HB.out aj;replace az:=eq_true az;replace aA:=eq_true aA;refine start_ (n:=10) (S:=fun w'=>w'.cell? (ac.add ((a2).toNat*3))=some (.string ((rd_T34 l0 a2).f0))∧w'.cell? ⟨(ac.add ((a2).toNat*3)).block,(ac.add ((a2).toNat*3)).off+1,none⟩=some (.string ((rd_T34 l0 a2).f1))∧w'.cell? ⟨(ac.add ((a2).toNat*3)).block,(ac.add ((a2).toNat*3)).off+2,none⟩=some (.bool ((rd_T34 l0 a2).f2))∧w'.cell? (ad.add ((a2).toNat*3))=some (.string ((rd_T34 l1 a2).f0))∧w'.cell? ⟨(ad.add ((a2).toNat*3)).block,(ad.add ((a2).toNat*3)).off+1,none⟩=some (.string ((rd_T34 l1 a2).f1))∧w'.cell? ⟨(ad.add ((a2).toNat*3)).block,(ad.add ((a2).toNat*3)).off+2,none⟩=some (.bool ((rd_T34 l1 a2).f2))) (ds:=[]) (fb 10 0) (by kernel_rfl) rfl rfl ⟨(pw_cell_below HB.out hw727_0),(pw_cell_below HB.out hw727_1),(pw_cell_below HB.out hw727_2),(pw_cell_below HB.out hw728_0),(pw_cell_below HB.out hw728_1),(pw_cell_below HB.out hw728_2)⟩ (fun hHeld => ?_);refine with_tabW laws_eqEntryS.tab6 laws_eqEntryS.bits6 (fun HT_ HW_ => ?_);generalize wr.drew=a9 at HB ae af ag ah ai aj hHeld ⊢; refine pu 0 17 (fb 10 1) HT_ ?_;refine pu 1 18 (fb 10 3) HT_ ?_;refine pu 2 19 (fb 10 7) HT_ ?_;refine pu 4 21 (fb 10 23) HT_ ?_;refine pu 5 22 (fb 10 55) HT_ ?_;refine pu 6 23 (fb 10 119) HT_ ?_;refine tk 3 20 (fb 10 127) HT_ HW_ hHeld ?_;refine tk 7 24 (fb 10 255) HT_ HW_ hHeld ?_;refine o1 8 (some 25) (fb 10 511) HT_ (fun K hK => ?_);refine gs _ (#[.agg #[.string ((rd_T34 l0 a2).f0),.string ((rd_T34 l0 a2).f1),.bool ((rd_T34 l0 a2).f2)],.agg #[.string ((rd_T34 l1 a2).f0),.string ((rd_T34 l1 a2).f1),.bool ((rd_T34 l1 a2).f2)]]) Tryd.func51 ?_;(with_reducible refine (laws_eqEntry.calls ((rd_T34 l0 a2).f0) ((rd_T34 l0 a2).f1) ((rd_T34 l0 a2).f2) ((rd_T34 l1 a2).f0) ((rd_T34 l1 a2).f1) ((rd_T34 l1 a2).f2) false _ A7.out).mono ?_);rintro e w12 ⟨rfl,hb⟩;refine ⟨_,rfl,?_⟩;refine Ya1 (below_step (be HB.out) hb) ?_;clear HB;intro HB;(try clear hb);(try clear hb2);(try clear hk);(try clear hi);refine hK.out _ _ ⟨(pw_cell_below HB.out hw727_0),(pw_cell_below HB.out hw727_1),(pw_cell_below HB.out hw727_2),(pw_cell_below HB.out hw728_0),(pw_cell_below HB.out hw728_1),(pw_cell_below HB.out hw728_2)⟩ (fun hHeld => ?_);clear hK K;refine nm 25 ?_;refine pu 9 26 (fb 10 1023) HT_ ?_;refine done_ (done_of HT_.out (by kernel_rfl)) ?_
        try go_wp2
        go_ret
        exact ⟨Ye2,be HB.out⟩
      ·rw [if_neg c6] at H
       exact absurd H (by simp)
     ·rw [if_neg c5] at H
      exact absurd H (by simp)
    ·rw [if_neg c4] at H
     have aC:decide (a2<(l0.length:Int))=false:=decide_eq_false c4;clear c4;obtain rfl:=Option.some.inj H
     go_wp2
     go_ret
     exact ⟨Ye2,be HB.out⟩
 ·rw [if_neg c3] at H
  have a8:((l0.length:Int)==(l1.length:Int))=false:=beq_eq_false_iff_ne.mpr c3;have aB:((l0.length:Int) != (l1.length:Int))=true:=bne_iff_ne.mpr c3
  have bi:(l0.length==l1.length)=false:=by first|simpa using c3|(simp at c3 ⊢; omega)
  obtain rfl:=Option.some.inj H
  go_enter Tryd.func59,Tryd.ntmps59
  go_wp2
  go_ret
  exact ⟨Ye2,be HB.out⟩

end Go.Proofs.YtkmfnmeilooogaaDoor.P


namespace Go.Proofs.YtkmfnmeilooogaaDoor.P
open Go.RowKit Go.Proofs.YtkmfnmeilooogaaDoorW.PrintWords Go.Proofs.YtkmfnmeilooogaaDoorW.PrintLast Go.Proofs.YtkmfnmeilooogaaDoorW.PrintMore
attribute [local go_sem] max2_int min2_int max_two min_two max_three min_three max_four min_four
set_option linter.unusedVariables false
set_option linter.unusedSimpArgs false

def laws_szTree.f (k:Nat) (a2:List (S130)) (a1:Int):Option (Int):=(laws_szEntryS.f k a2 a1).bind fun a8=>(if a8<0 then (some (-1)) else (some a8))
theorem laws_szTree.mono:∀ a0 a1 k,LeO (laws_szTree.f k a0 a1) (laws_szTree.f (k+1) a0 a1):=by
 intro a0 a1 k
 unfold laws_szTree.f
 repeat' first
   | (with_reducible exact laws_szEntryS.mono _ _ _)
   | (with_reducible exact LeO.refl _)
   | (with_reducible exact LeO.none _)
   | (with_reducible refine LeO.ite ?_ ?_)
   | (with_reducible refine LeO.bind ?_ (fun _ => ?_))
   | exact laws_szEntryS.mono _ _ _
   | exact LeO.none _
   | refine LeO.ite ?_ ?_
   | refine LeO.bind ?_ (fun _ => ?_)
set_option maxHeartbeats 8000000 in
set_option maxRecDepth 100000 in
theorem laws_szTree.calls (k:Nat) (a4:Option Addr) (a5:Nat) (a2:List (S130)) (a1:Int) (r:Int) (w:World) (ad:Kd.C k130 w a4 a2.length a2) (ae:a2.length≤a5) (h:laws_szTree.f k a2 a1=some r) :
  Calls Tryd.prog 17 #[.agg #[.slice a4 a2.length a5],.int .i64 a1] w fun e w'=>e = .returned (.int .i64 r)∧Below w.heap.size w w':=by
 have hu45:=Tryd.underlying45;have af:=Aside0.mk ad;have ag:=Aside0.mk ae;clear ad ae;have HB:=Aside0.mk (Below.refl w.heap.size w);have H:((laws_szEntryS.f k a2 a1).bind fun a8=>(if a8<0 then (some (-1)) else (some a8)))=some r:=h;clear h;replace H:=Option.bind_eq_some_iff.mp H;obtain ⟨a8,ak,H⟩:=H;replace H:(if a8<0 then (some (-1)) else (some a8))=some r:=H;have A3:=Aside0.mk ak;clear ak
 by_cases c4:a8<0
 ·rw [if_pos c4] at H
  have ay:decide (a8<0)=true:=decide_eq_true c4;clear c4;obtain rfl:=Option.some.inj H
  go_enter Tryd.func17,Tryd.ntmps17
  go_wp2_with (first|((with_reducible refine gd 2 rfl ?_);refine bx 2 45 (#[.slice a4 a2.length a5]) ?_;intro az hg w5 hbox hb;refine Ya4 (below_step (be HB.out) hb) (hbox) (bs hg (be HB.out)) (bs hg (be HB.out)) ?_;clear HB;intro HB aa aA aB;clear hb hbox hg;have ⟨aW,aX⟩:=Yc1 aa.out)|((with_reducible refine gc 53 rfl ?_);refine gl (some 8) _ (#[.slice a4 a2.length a5,.int .i64 a1]) Tryd.func53 ?_;(with_reducible refine (laws_szEntryS.calls k _ _ a2 a1 a8 _ ?side1 ?side2 A3.out).mono ?_);(case side1=>exact cb (Kd.C_below af.out HB.out));(case side2=>exact ag.out);rintro e w7 ⟨rfl,hb⟩;refine ⟨_,rfl,?_⟩;refine Ya2 (bb aa hb) (below_step (bf HB.out) hb) ?_;clear aa HB;intro aa HB;(try clear hb);(try clear hb2);(try clear hk);(try clear hi)))
  go_ret
  exact ⟨Ye2,(bf HB.out)⟩
 ·rw [if_neg c4] at H
  have ay:decide (a8<0)=false:=decide_eq_false c4;clear c4;obtain rfl:=Option.some.inj H
  go_enter Tryd.func17,Tryd.ntmps17
  go_wp2_with (first|((with_reducible refine gd 2 rfl ?_);refine bx 2 45 (#[.slice a4 a2.length a5]) ?_;intro az hg w8 hbox hb;refine Ya4 (below_step (be HB.out) hb) (hbox) (bs hg (be HB.out)) (bs hg (be HB.out)) ?_;clear HB;intro HB aa aA aB;clear hb hbox hg;have ⟨aC,aD⟩:=Yc1 aa.out)|((with_reducible refine gc 53 rfl ?_);refine gl (some 8) _ (#[.slice a4 a2.length a5,.int .i64 a1]) Tryd.func53 ?_;(with_reducible refine (laws_szEntryS.calls k _ _ a2 a1 a8 _ ?side1 ?side2 A3.out).mono ?_);(case side1=>exact cb (Kd.C_below af.out HB.out));(case side2=>exact ag.out);rintro e w10 ⟨rfl,hb⟩;refine ⟨_,rfl,?_⟩;refine Ya2 (bb aa hb) (below_step (bf HB.out) hb) ?_;clear aa HB;intro aa HB;(try clear hb);(try clear hb2);(try clear hk);(try clear hi)))
  go_ret
  exact ⟨Ye2,(bf HB.out)⟩

def laws_toTree.f (k:Nat) (a2:List (S130)):Option ((List (S34))):=(laws_toEntryS.f k a2).bind fun ab=>(some ab)
theorem laws_toTree.mono:∀ a0 k,LeO (laws_toTree.f k a0) (laws_toTree.f (k+1) a0):=by
 intro a0 k
 unfold laws_toTree.f
 repeat' first
   | (with_reducible exact laws_toEntryS.mono _ _)
   | (with_reducible exact LeO.refl _)
   | (with_reducible exact LeO.none _)
   | (with_reducible refine LeO.ite ?_ ?_)
   | (with_reducible refine LeO.bind ?_ (fun _ => ?_))
   | exact laws_toEntryS.mono _ _
   | exact LeO.none _
   | refine LeO.ite ?_ ?_
   | refine LeO.bind ?_ (fun _ => ?_)
set_option maxHeartbeats 8000000 in
set_option maxRecDepth 100000 in
theorem laws_toTree.calls (k:Nat) (a4:Option Addr) (a5:Nat) (a2:List (S130)) (r:List (S34)) (w:World) (ad:Kd.C k130 w a4 a2.length a2) (ae:a2.length≤a5) (h:laws_toTree.f k a2=some r) :
  Calls Tryd.prog 19 #[.agg #[.slice a4 a2.length a5]] w fun e w' => ∃ v0_:Value,e = .returned (.agg #[v0_])∧Kd.R k34 34 w' w.heap.size (fun _=>True) v0_ r∧Below w.heap.size w w':=by
 have hu45:=Tryd.underlying45;have hu50:=Tryd.underlying50;have af:=Aside0.mk ad;have ag:=Aside0.mk ae;clear ad ae;have HB:=Aside0.mk (Below.refl w.heap.size w);have H:((laws_toEntryS.f k a2).bind fun ab=>(some ab))=some r:=h;clear h;replace H:=Option.bind_eq_some_iff.mp H;obtain ⟨ab,A20,H⟩:=H;replace H:(some ab)=some r:=H;have A2:=Aside0.mk A20;clear A20;obtain rfl:=Option.some.inj H
 go_enter Tryd.func19,Tryd.ntmps19
 go_wp2_with (first|((with_reducible refine gd 1 rfl ?_);refine bx 1 45 (#[.slice a4 a2.length a5]) ?_;intro gb576 hg w3 hbox hb;refine Ya4 (below_step (be HB.out) hb) (hbox) (bs hg (be HB.out)) (bs hg (be HB.out)) ?_;clear HB;intro HB a6 GW576 GE576;clear hb hbox hg)|((with_reducible refine gd 2 rfl ?_);refine bx 2 50 (#[.slice none 0 0]) ?_;intro aq hg w4 hbox hb;refine Ya7 (bb a6 hb) (below_step (bf HB.out) hb) (hbox) (bs hg (bf HB.out)) (bs hg (bf HB.out)) (bl hg a6) (br hg a6) ?_;clear a6 HB;intro a6 HB a9 GW577 GE577 aE aF;clear hb hbox hg)|((with_reducible refine gd 3 rfl ?_);refine bx 3 50 (#[.slice none 0 0]) ?_;intro aG hg w5 hbox hb;refine Ya10 (bb a6 hb) (bb a9 hb) (below_step (bf HB.out) hb) (hbox) (bs hg (bf HB.out)) (bs hg (bf HB.out)) (bl hg a6) (br hg a6) (bl hg a9) (br hg a9) ?_;clear a6 a9 HB;intro a6 a9 HB al GW578 GE578 aH aI aJ aK;clear hb hbox hg;have hnb6:=aE.out;have hnc6:=aF.out;have aL:=aH.out;have aM:=aI.out;have ⟨aN,aO⟩:=Yc1 a6.out)|((with_reducible refine gc 56 rfl ?_);refine gl (some 6) _ (#[.slice a4 a2.length a5]) Tryd.func56 ?_;(with_reducible refine (laws_toEntryS.calls k _ _ a2 ab _ ?side1 ?side2 A2.out).mono ?_);(case side1=>exact cb (Kd.C_below af.out HB.out));(case side2=>exact ag.out);rintro e w9 ⟨v580,rfl,ho0,hb⟩;refine ⟨_,rfl,?_⟩;refine Ya5 (Kd.R_lower ho0 (below_size (bf HB.out))) (bb a6 hb) (bb a9 hb) (bb al hb) (below_step (bf HB.out) hb) ?_;clear a6 a9 al HB;intro ar a6 a9 al HB;(try clear hb);(try clear hb2);(try clear hk);(try clear hi);(try clear ho0);obtain ⟨am,an,aP⟩:=Kd.R_slice ar.out;subst aP;have hnb11:=aK.out;have hnc11:=aJ.out;have ⟨aY,aZ⟩:=Yc1 al.out;have ⟨b0,b1⟩:=Yc1 a9.out))
 refine bodyPost_ret (results_cell_row rfl _ _ aq 50 #[.slice am ab.length an] (0,0) _ rfl (bp a9.out) Tryd.underlying50 rfl (by kernel_rfl)) rfl ?_;exact ⟨_,Ye2,by (with_reducible repeat (first|apply Kd.R_alloc|apply Kd.R_drewN|apply Kd.R_drew));exact Kd.R_mono (Kd.R_far (p:=⟨aq,0,none⟩) (Kd.R_far (p:=⟨aG,0,none⟩) (Kd.R_types (Kd.R_types ar.out al.out (by decide)) a9.out (by decide)) (fun _ hk=>hk.1.2) (.slice am ab.length an)) (fun _ hk=>hk.2) (.slice am ab.length an)) (fun _ hk=>trivial),(bf HB.out)⟩

def laws_eqTree.f (k:Nat) (a2:List (S34)) (a7:List (S34)):Option (Bool):=(laws_eqEntryS.f k a2 a7).bind fun ah=>(if ah=true then (some true) else (some false))
theorem laws_eqTree.mono:∀ a0 a1 k,LeO (laws_eqTree.f k a0 a1) (laws_eqTree.f (k+1) a0 a1):=by
 intro a0 a1 k
 unfold laws_eqTree.f
 repeat' first
   | (with_reducible exact laws_eqEntryS.mono _ _ _)
   | (with_reducible exact LeO.refl _)
   | (with_reducible exact LeO.none _)
   | (with_reducible refine LeO.ite ?_ ?_)
   | (with_reducible refine LeO.bind ?_ (fun _ => ?_))
   | exact laws_eqEntryS.mono _ _ _
   | exact LeO.none _
   | refine LeO.ite ?_ ?_
   | refine LeO.bind ?_ (fun _ => ?_)
set_option maxHeartbeats 8000000 in
set_option maxRecDepth 100000 in
theorem laws_eqTree.calls (k:Nat) (a4:Option Addr) (a5:Nat) (a2:List (S34)) (ai:Option Addr) (aj:Nat) (a7:List (S34)) (r:Bool) (w:World) (ad:Kd.C k34 w a4 a2.length a2) (ae:a2.length≤a5) (au:Kd.C k34 w ai a7.length a7) (av:a7.length≤aj) (h:laws_eqTree.f k a2 a7=some r) :
  Calls Tryd.prog 21 #[.agg #[.slice a4 a2.length a5],.agg #[.slice ai a7.length aj]] w fun e w'=>e = .returned (.bool r)∧Below w.heap.size w w':=by
 have hu50:=Tryd.underlying50;have af:=Aside0.mk ad;have ag:=Aside0.mk ae;clear ad ae;have aw:=Aside0.mk au;have ax:=Aside0.mk av;clear au av;have HB:=Aside0.mk (Below.refl w.heap.size w);have H:((laws_eqEntryS.f k a2 a7).bind fun ah=>(if ah=true then (some true) else (some false)))=some r:=h;clear h;replace H:=Option.bind_eq_some_iff.mp H;obtain ⟨ah,ak,H⟩:=H;replace H:(if ah=true then (some true) else (some false))=some r:=H;have A3:=Aside0.mk ak;clear ak
 by_cases c4:ah=true
 ·subst c4
  have H1:(some true)=some r:=by rw [if_pos rfl] at H;exact H
  clear H;have H:=H1;clear H1;obtain rfl:=Option.some.inj H
  go_enter Tryd.func21,Tryd.ntmps21
  go_wp2_with (first|((with_reducible refine gd 2 rfl ?_);refine bx 2 50 (#[.slice a4 a2.length a5]) ?_;intro aQ hg w5 hbox hb;refine Ya4 (below_step (be HB.out) hb) (hbox) (bs hg (be HB.out)) (bs hg (be HB.out)) ?_;clear HB;intro HB a3 aR aS;clear hb hbox hg)|((with_reducible refine gd 3 rfl ?_);refine bx 3 50 (#[.slice ai a7.length aj]) ?_;intro aT hg w6 hbox hb;refine Ya7 (bb a3 hb) (below_step (bf HB.out) hb) (hbox) (bs hg (bf HB.out)) (bs hg (bf HB.out)) (bl hg a3) (br hg a3) ?_;clear a3 HB;intro a3 HB ac aU aV ao ap;clear hb hbox hg;have aL:=ao.out;have aM:=ap.out;have ⟨aN,aO⟩:=Yc1 a3.out;have ⟨aC,aD⟩:=Yc1 ac.out)|((with_reducible refine gc 59 rfl ?_);refine gl (some 9) _ (#[.slice a4 a2.length a5,.slice ai a7.length aj]) Tryd.func59 ?_;(with_reducible refine (laws_eqEntryS.calls k _ _ a2 _ _ a7 true _ ?side1 ?side2 ?side3 ?side4 A3.out).mono ?_);(case side1=>exact cb (Kd.C_below af.out HB.out));(case side2=>exact ag.out);(case side3=>exact cb (Kd.C_below aw.out HB.out));(case side4=>exact ax.out);rintro e w10 ⟨rfl,hb⟩;refine ⟨_,rfl,?_⟩;refine Ya3 (bb a3 hb) (bb ac hb) (below_step (bf HB.out) hb) ?_;clear a3 ac HB;intro a3 ac HB;(try clear hb);(try clear hb2);(try clear hk);(try clear hi)))
  go_ret
  exact ⟨Ye2,(bf HB.out)⟩
 ·replace c4:=Bool.eq_false_iff.mpr c4;subst c4
  have H1:(some false)=some r:=by rw [if_neg (show ¬(false=true) by decide)] at H;exact H
  clear H;have H:=H1;clear H1;obtain rfl:=Option.some.inj H
  go_enter Tryd.func21,Tryd.ntmps21
  go_wp2_with (first|((with_reducible refine gd 2 rfl ?_);refine bx 2 50 (#[.slice a4 a2.length a5]) ?_;intro aQ hg w11 hbox hb;refine Ya4 (below_step (be HB.out) hb) (hbox) (bs hg (be HB.out)) (bs hg (be HB.out)) ?_;clear HB;intro HB a3 aR aS;clear hb hbox hg)|((with_reducible refine gd 3 rfl ?_);refine bx 3 50 (#[.slice ai a7.length aj]) ?_;intro aT hg w12 hbox hb;refine Ya7 (bb a3 hb) (below_step (bf HB.out) hb) (hbox) (bs hg (bf HB.out)) (bs hg (bf HB.out)) (bl hg a3) (br hg a3) ?_;clear a3 HB;intro a3 HB ac aU aV ao ap;clear hb hbox hg;have hnb13:=ao.out;have hnc13:=ap.out;have ⟨b2,b3⟩:=Yc1 a3.out;have ⟨b4,b5⟩:=Yc1 ac.out)|((with_reducible refine gc 59 rfl ?_);refine gl (some 9) _ (#[.slice a4 a2.length a5,.slice ai a7.length aj]) Tryd.func59 ?_;(with_reducible refine (laws_eqEntryS.calls k _ _ a2 _ _ a7 false _ ?side1 ?side2 ?side3 ?side4 A3.out).mono ?_);(case side1=>exact cb (Kd.C_below af.out HB.out));(case side2=>exact ag.out);(case side3=>exact cb (Kd.C_below aw.out HB.out));(case side4=>exact ax.out);rintro e w16 ⟨rfl,hb⟩;refine ⟨_,rfl,?_⟩;refine Ya3 (bb a3 hb) (bb ac hb) (below_step (bf HB.out) hb) ?_;clear a3 ac HB;intro a3 ac HB;(try clear hb);(try clear hb2);(try clear hk);(try clear hi)))
  go_ret
  exact ⟨Ye2,(bf HB.out)⟩

end Go.Proofs.YtkmfnmeilooogaaDoor.P


namespace Go.Proofs.YtkmfnmeilooogaaDoor.P
open Go.RowKit Go.Proofs.YtkmfnmeilooogaaDoorW.PrintWords Go.Proofs.YtkmfnmeilooogaaDoorW.PrintLast Go.Proofs.YtkmfnmeilooogaaDoorW.PrintMore
attribute [local go_sem] max2_int min2_int max_two min_two max_three min_three max_four min_four
set_option linter.unusedVariables false
set_option linter.unusedSimpArgs false

def spec_l6At.l0:Nat→ByteArray→Int→List (S34)→Option (Bool×ByteArray×Bool)
 | 0,_,_,_=>none
 | k+1,x1,x5,ac=>if x5<(ac.length:Int) then (if 0≤x5 then (if ((rd_T34 ac x5).f0).toList=x1.toList then (some (true,(rd_T34 ac x5).f1,(rd_T34 ac x5).f2)) else (spec_l6At.l0 k x1 (wrap64 (x5+1)) ac)) else (none)) else (some (false,(⟨#[]⟩:ByteArray),false))
def spec_l6At.f (k:Nat) (a4:List (S34)) (a1:ByteArray):Option (Bool×ByteArray×Bool):=spec_l6At.l0 k a1 0 a4
theorem spec_l6At.mono_l:∀ k,(∀ y0 y1 y2,LeO (spec_l6At.l0 k y0 y1 y2) (spec_l6At.l0 (k+1) y0 y1 y2))
 | 0=>fun _ _ _ r h=>by simp [spec_l6At.l0] at h
 | k + 1 => by
  have ih0:=spec_l6At.mono_l k
  ·intro y0 y1 y2
   unfold spec_l6At.l0
   repeat' first
   | (with_reducible exact ih0 _ _ _)
   | (with_reducible exact LeO.refl _)
   | (with_reducible exact LeO.none _)
   | (with_reducible refine LeO.ite ?_ ?_)
   | (with_reducible refine LeO.bind ?_ (fun _ => ?_))
   | exact ih0 _ _ _
   | exact LeO.none _
   | refine LeO.ite ?_ ?_
   | refine LeO.bind ?_ (fun _ => ?_)
theorem spec_l6At.mono:∀ a0 a1 k,LeO (spec_l6At.f k a0 a1) (spec_l6At.f (k+1) a0 a1):=by
 intro a0 a1 k;have ih0:=spec_l6At.mono_l k
 unfold spec_l6At.f
 repeat' first
   | (with_reducible exact ih0 _ _ _)
   | (with_reducible exact LeO.refl _)
   | (with_reducible exact LeO.none _)
   | (with_reducible refine LeO.ite ?_ ?_)
   | (with_reducible refine LeO.bind ?_ (fun _ => ?_))
   | exact ih0 _ _ _
   | exact LeO.none _
   | refine LeO.ite ?_ ?_
   | refine LeO.bind ?_ (fun _ => ?_)
def spec_l6At.T5:Bool×List (List Nat×List Nat):=(true,[([],[]),([0],[0]),([],[]),([1,2],[1,2]),([3],[3]),([4],[4]),([],[]),([6],[6]),([],[]),([7,8],[7,8]),([9],[9]),([10],[10]),([5,11],[5,11]),([12,0,1,2,3,4,5,6,7,8,9,10,11,12],[12])])
def spec_l6At.B5:List Nat:=[0,1,0,7,15,31,0,64,0,448,960,1984,4095,8191]
theorem spec_l6At.tab5:rtab .any (opsOf Tryd.f81 5)=spec_l6At.T5:=by kernel_rfl
theorem spec_l6At.bits5:waitsOk spec_l6At.T5.2 spec_l6At.B5=true:=by kernel_rfl
set_option maxHeartbeats 8000000 in
set_option maxRecDepth 100000 in
theorem spec_l6At.calls (k:Nat) (ae:Option Addr) (ad:Nat) (a4:List (S34)) (a1:ByteArray) (r1:Bool) (r2:ByteArray) (r3:Bool) (w:World) (ax:Kd.C k34 w ae a4.length a4) (ay:a4.length≤ad) (h:spec_l6At.f k a4 a1=some (r1,r2,r3)) :
  Calls Tryd.prog 81 #[.agg #[.slice ae a4.length ad],.string a1] w fun e w'=>e = .returned (.agg #[.bool r1,.string r2,.bool r3])∧Below w.heap.size w w':=by
 have hu50:=Tryd.underlying50;have hu133:=Tryd.underlying133;have af:=Aside0.mk ax;have HC0_0:=Aside0.mk ay;clear ax ay;have HB:=Aside0.mk (Below.refl w.heap.size w);have H:(spec_l6At.l0 k a1 0 a4)=some (r1,r2,r3):=h;clear h;have H':=Aside0.mk H;clear H
 go_enter Tryd.func81,Tryd.ntmps81
 go_wp2_with (first|((with_reducible refine gd 2 rfl ?_);refine bx 2 50 (#[.slice ae a4.length ad]) ?_;intro az hg w3 hbox hb;refine Ya4 (below_step (be HB.out) hb) (hbox) (bs hg (be HB.out)) (bs hg (be HB.out)) ?_;clear HB;intro HB a6 GW507 GE507;clear hb hbox hg)|((with_reducible refine gd 4 rfl ?_);refine bx 4 133 (#[.bool false,.string (⟨#[]⟩:ByteArray),.bool false]) ?_;intro a5 hg w4 hbox hb;refine Ya7 (bb a6 hb) (below_step (bf HB.out) hb) (hbox) (bs hg (bf HB.out)) (bs hg (bf HB.out)) (bl hg a6) (br hg a6) ?_;clear a6 HB;intro a6 HB a8 a2 GE508 a9 ag;clear hb hbox hg))
 go_loopg [5] k (fun kq v5 w' => ∃ (a3:Int) (an:Bool) (ao:ByteArray) (ap:Bool),v5 = .int .i64 a3∧Aside0 (spec_l6At.l0 kq a1 a3 a4=some (r1,r2,r3))∧Aside0 (kq≤k)∧Aside0 (w'.heap[az]? = some (.cells #[(.slice ae a4.length ad)] 50 (0,0)))∧Aside0 (w'.heap[a5]? = some (.cells #[.bool an,.string ao,.bool ap] 133 (0,0)))∧Aside0 (Below w.heap.size w w'))
 case atStart=>exact ⟨(0),(false),((⟨#[]⟩:ByteArray)),(false),Ye1,H',⟨Nat.le_refl _⟩,⟨bk a6.out⟩,⟨bk a8.out⟩,⟨bf HB.out⟩⟩
 case round =>
  clear H';(try clear p2);obtain ⟨a3,an,ao,ap,rfl,HA,HK1,a6,a8,HB⟩:=hrel
  cases gk with
  | zero=>exact absurd HA.out (by simp [spec_l6At.l0])
  | succ k1 =>
   have H:=HA.out;clear HA;simp only [spec_l6At.l0] at H
   by_cases c5:a3<(a4.length:Int)
   ·rw [if_pos c5] at H
    have aA:decide (a3<(a4.length:Int))=true:=decide_eq_true c5;clear c5
    by_cases c6:0≤a3
    ·rw [if_pos c6] at H
     have c6b0:decide (0≤a3)=true:=decide_eq_true c6;clear c6
     by_cases c7:((rd_T34 a4 a3).f0).toList=a1.toList
     ·rw [if_pos c7] at H
      have aB:(((rd_T34 a4 a3).f0).toList==a1.toList)=true:=beq_iff_eq.mpr c7;have aC:(((rd_T34 a4 a3).f0).toList != a1.toList)=false:=bne_eq_false_iff_eq.mpr c7;clear c7;simp only [Option.some.injEq,Prod.mk.injEq] at H;obtain ⟨rfl,rfl,rfl⟩:=H;have hnb8:=a9.out;have hnc8:=ag.out;have ⟨aK,aL⟩:=Yc1 a6.out;have aa:0≤(a3:Int):=oda;have ab:a3<(a4.length:Int):=oda;obtain ⟨a7,aq,aD,aE,aF⟩:=at_T34 (Kd.C_below af.out HB.out) a3 aa ab
      cases aq
      replace aa:=eq_true aa;replace ab:=eq_true ab
      try go_wp2
      refine Ya3 (blk_drew a6.out) (blk_drew a8.out) (below_drew1 HB.out) ?_;clear a6 a8 HB;intro a6 a8 HB;have ar:0≤(a3:Int):=oda;have au:a3<(a4.length:Int):=oda;obtain ⟨aG,aH,ah,ai,aj⟩:=at_T34 af.out a3 ar au;have hw510_2:=aj;have hw510_1:=ai;have hw510_0:=ah
      obtain rfl:a7=aG:=(by injection aH)
      replace ah:=pw_cell_below HB.out ah;replace ai:=pw_cell_below HB.out ai;replace aj:=pw_cell_below HB.out aj;replace ar:=eq_true ar;replace au:=eq_true au;have av:0≤(a3:Int):=oda;have aw:a3<(a4.length:Int):=oda;obtain ⟨aI,aJ,ak,al,am⟩:=at_T34 af.out a3 av aw;have hw511_2:=am;have hw511_1:=al;have hw511_0:=ak
      obtain rfl:a7=aI:=(by injection aJ)
      replace ak:=pw_cell_below HB.out ak;replace al:=pw_cell_below HB.out al;replace am:=pw_cell_below HB.out am;replace av:=eq_true av;replace aw:=eq_true aw;refine start_ (n:=14) (S:=fun w'=>w'.cell? ⟨az,0,none⟩=some (.slice (some a7) a4.length ad)∧w'.cell? (a7.add ((a3).toNat*3))=some (.string ((rd_T34 a4 a3).f0))∧w'.cell? ⟨(a7.add ((a3).toNat*3)).block,(a7.add ((a3).toNat*3)).off+1,none⟩=some (.string ((rd_T34 a4 a3).f1))∧w'.cell? ⟨(a7.add ((a3).toNat*3)).block,(a7.add ((a3).toNat*3)).off+2,none⟩=some (.bool ((rd_T34 a4 a3).f2))∧w'.cell? (a7.add ((a3).toNat*3))=some (.string ((rd_T34 a4 a3).f0))∧w'.cell? ⟨(a7.add ((a3).toNat*3)).block,(a7.add ((a3).toNat*3)).off+1,none⟩=some (.string ((rd_T34 a4 a3).f1))∧w'.cell? ⟨(a7.add ((a3).toNat*3)).block,(a7.add ((a3).toNat*3)).off+2,none⟩=some (.bool ((rd_T34 a4 a3).f2))) (ds:=[]) (fb 14 0) (by kernel_rfl) rfl rfl ⟨bc a6 0,(pw_cell_below HB.out hw510_0),(pw_cell_below HB.out hw510_1),(pw_cell_below HB.out hw510_2),(pw_cell_below HB.out hw511_0),(pw_cell_below HB.out hw511_1),(pw_cell_below HB.out hw511_2)⟩ (fun hHeld => ?_);refine with_tabW spec_l6At.tab5 spec_l6At.bits5 (fun HT_ HW_ => ?_);generalize wr.drew=w10 at a6 a8 HB ah ai aj ak al am hHeld ⊢; refine pu 0 21 (fb 14 1) HT_ ?_;refine pu 2 23 (fb 14 5) HT_ ?_;refine pu 6 27 (fb 14 69) HT_ ?_;refine pu 8 29 (fb 14 325) HT_ ?_;refine tk 1 22 (fb 14 327) HT_ HW_ hHeld ?_;refine pu 3 24 (fb 14 335) HT_ ?_;refine pu 4 25 (fb 14 351) HT_ ?_;refine tk 5 26 (fb 14 383) HT_ HW_ hHeld ?_;refine tk 7 28 (fb 14 511) HT_ HW_ hHeld ?_;refine pu 9 30 (fb 14 1023) HT_ ?_;refine pu 10 31 (fb 14 2047) HT_ ?_;refine tk 11 32 (fb 14 4095) HT_ HW_ hHeld ?_;refine pu 12 33 (fb 14 8191) HT_ ?_;refine o1 13 none (fb 14 16383) HT_ (fun K hK => ?_);have ⟨hs11,hs12,hs13,hfs11,hfs12,hfs13⟩:=Yc3 a8.out;have aM:=a9.out;have aN:=ag.out;refine skip_ (w1:=?_) (by rfl) rfl ?_ ?_;rotate_left
      ·go_simp;rfl
      refine hK.out _ _ ⟨((cell_far (p:=⟨a5,_,none⟩) a9.out _).trans (((cell_far (p:=⟨a5,_,none⟩) a9.out _).trans (((cell_far (p:=⟨a5,_,none⟩) a9.out _).trans (hHeld.1)))))),((cell_far (p:=⟨a5,_,none⟩) (by first|exact Nat.ne_of_lt (Nat.lt_of_lt_of_le (by have:=World.block_lt_of_cell? _ _ hw510_0;first|rwa [add_block] at this|exact this) a2.out)|(rw [add_block];exact Nat.ne_of_lt (Nat.lt_of_lt_of_le (by have:=World.block_lt_of_cell? _ _ hw510_0;first|rwa [add_block] at this|exact this) a2.out))|(show (Addr.add _ _).block≠_;rw [add_block];exact Nat.ne_of_lt (Nat.lt_of_lt_of_le (by have:=World.block_lt_of_cell? _ _ hw510_0;first|rwa [add_block] at this|exact this) a2.out))|(dsimp only;exact Nat.ne_of_lt (Nat.lt_of_lt_of_le (by have:=World.block_lt_of_cell? _ _ hw510_0;first|rwa [add_block] at this|exact this) a2.out))) _).trans (((cell_far (p:=⟨a5,_,none⟩) (by first|exact Nat.ne_of_lt (Nat.lt_of_lt_of_le (by have:=World.block_lt_of_cell? _ _ hw510_0;first|rwa [add_block] at this|exact this) a2.out)|(rw [add_block];exact Nat.ne_of_lt (Nat.lt_of_lt_of_le (by have:=World.block_lt_of_cell? _ _ hw510_0;first|rwa [add_block] at this|exact this) a2.out))|(show (Addr.add _ _).block≠_;rw [add_block];exact Nat.ne_of_lt (Nat.lt_of_lt_of_le (by have:=World.block_lt_of_cell? _ _ hw510_0;first|rwa [add_block] at this|exact this) a2.out))|(dsimp only;exact Nat.ne_of_lt (Nat.lt_of_lt_of_le (by have:=World.block_lt_of_cell? _ _ hw510_0;first|rwa [add_block] at this|exact this) a2.out))) _).trans (((cell_far (p:=⟨a5,_,none⟩) (by first|exact Nat.ne_of_lt (Nat.lt_of_lt_of_le (by have:=World.block_lt_of_cell? _ _ hw510_0;first|rwa [add_block] at this|exact this) a2.out)|(rw [add_block];exact Nat.ne_of_lt (Nat.lt_of_lt_of_le (by have:=World.block_lt_of_cell? _ _ hw510_0;first|rwa [add_block] at this|exact this) a2.out))|(show (Addr.add _ _).block≠_;rw [add_block];exact Nat.ne_of_lt (Nat.lt_of_lt_of_le (by have:=World.block_lt_of_cell? _ _ hw510_0;first|rwa [add_block] at this|exact this) a2.out))|(dsimp only;exact Nat.ne_of_lt (Nat.lt_of_lt_of_le (by have:=World.block_lt_of_cell? _ _ hw510_0;first|rwa [add_block] at this|exact this) a2.out))) _).trans (hHeld.2.1)))))),((cell_far (p:=⟨a5,_,none⟩) (by first|exact Nat.ne_of_lt (Nat.lt_of_lt_of_le (by have:=World.block_lt_of_cell? _ _ hw510_1;first|rwa [add_block] at this|exact this) a2.out)|(rw [add_block];exact Nat.ne_of_lt (Nat.lt_of_lt_of_le (by have:=World.block_lt_of_cell? _ _ hw510_1;first|rwa [add_block] at this|exact this) a2.out))|(show (Addr.add _ _).block≠_;rw [add_block];exact Nat.ne_of_lt (Nat.lt_of_lt_of_le (by have:=World.block_lt_of_cell? _ _ hw510_1;first|rwa [add_block] at this|exact this) a2.out))|(dsimp only;exact Nat.ne_of_lt (Nat.lt_of_lt_of_le (by have:=World.block_lt_of_cell? _ _ hw510_1;first|rwa [add_block] at this|exact this) a2.out))) _).trans (((cell_far (p:=⟨a5,_,none⟩) (by first|exact Nat.ne_of_lt (Nat.lt_of_lt_of_le (by have:=World.block_lt_of_cell? _ _ hw510_1;first|rwa [add_block] at this|exact this) a2.out)|(rw [add_block];exact Nat.ne_of_lt (Nat.lt_of_lt_of_le (by have:=World.block_lt_of_cell? _ _ hw510_1;first|rwa [add_block] at this|exact this) a2.out))|(show (Addr.add _ _).block≠_;rw [add_block];exact Nat.ne_of_lt (Nat.lt_of_lt_of_le (by have:=World.block_lt_of_cell? _ _ hw510_1;first|rwa [add_block] at this|exact this) a2.out))|(dsimp only;exact Nat.ne_of_lt (Nat.lt_of_lt_of_le (by have:=World.block_lt_of_cell? _ _ hw510_1;first|rwa [add_block] at this|exact this) a2.out))) _).trans (((cell_far (p:=⟨a5,_,none⟩) (by first|exact Nat.ne_of_lt (Nat.lt_of_lt_of_le (by have:=World.block_lt_of_cell? _ _ hw510_1;first|rwa [add_block] at this|exact this) a2.out)|(rw [add_block];exact Nat.ne_of_lt (Nat.lt_of_lt_of_le (by have:=World.block_lt_of_cell? _ _ hw510_1;first|rwa [add_block] at this|exact this) a2.out))|(show (Addr.add _ _).block≠_;rw [add_block];exact Nat.ne_of_lt (Nat.lt_of_lt_of_le (by have:=World.block_lt_of_cell? _ _ hw510_1;first|rwa [add_block] at this|exact this) a2.out))|(dsimp only;exact Nat.ne_of_lt (Nat.lt_of_lt_of_le (by have:=World.block_lt_of_cell? _ _ hw510_1;first|rwa [add_block] at this|exact this) a2.out))) _).trans (hHeld.2.2.1)))))),((cell_far (p:=⟨a5,_,none⟩) (by first|exact Nat.ne_of_lt (Nat.lt_of_lt_of_le (by have:=World.block_lt_of_cell? _ _ hw510_2;first|rwa [add_block] at this|exact this) a2.out)|(rw [add_block];exact Nat.ne_of_lt (Nat.lt_of_lt_of_le (by have:=World.block_lt_of_cell? _ _ hw510_2;first|rwa [add_block] at this|exact this) a2.out))|(show (Addr.add _ _).block≠_;rw [add_block];exact Nat.ne_of_lt (Nat.lt_of_lt_of_le (by have:=World.block_lt_of_cell? _ _ hw510_2;first|rwa [add_block] at this|exact this) a2.out))|(dsimp only;exact Nat.ne_of_lt (Nat.lt_of_lt_of_le (by have:=World.block_lt_of_cell? _ _ hw510_2;first|rwa [add_block] at this|exact this) a2.out))) _).trans (((cell_far (p:=⟨a5,_,none⟩) (by first|exact Nat.ne_of_lt (Nat.lt_of_lt_of_le (by have:=World.block_lt_of_cell? _ _ hw510_2;first|rwa [add_block] at this|exact this) a2.out)|(rw [add_block];exact Nat.ne_of_lt (Nat.lt_of_lt_of_le (by have:=World.block_lt_of_cell? _ _ hw510_2;first|rwa [add_block] at this|exact this) a2.out))|(show (Addr.add _ _).block≠_;rw [add_block];exact Nat.ne_of_lt (Nat.lt_of_lt_of_le (by have:=World.block_lt_of_cell? _ _ hw510_2;first|rwa [add_block] at this|exact this) a2.out))|(dsimp only;exact Nat.ne_of_lt (Nat.lt_of_lt_of_le (by have:=World.block_lt_of_cell? _ _ hw510_2;first|rwa [add_block] at this|exact this) a2.out))) _).trans (((cell_far (p:=⟨a5,_,none⟩) (by first|exact Nat.ne_of_lt (Nat.lt_of_lt_of_le (by have:=World.block_lt_of_cell? _ _ hw510_2;first|rwa [add_block] at this|exact this) a2.out)|(rw [add_block];exact Nat.ne_of_lt (Nat.lt_of_lt_of_le (by have:=World.block_lt_of_cell? _ _ hw510_2;first|rwa [add_block] at this|exact this) a2.out))|(show (Addr.add _ _).block≠_;rw [add_block];exact Nat.ne_of_lt (Nat.lt_of_lt_of_le (by have:=World.block_lt_of_cell? _ _ hw510_2;first|rwa [add_block] at this|exact this) a2.out))|(dsimp only;exact Nat.ne_of_lt (Nat.lt_of_lt_of_le (by have:=World.block_lt_of_cell? _ _ hw510_2;first|rwa [add_block] at this|exact this) a2.out))) _).trans (hHeld.2.2.2.1)))))),((cell_far (p:=⟨a5,_,none⟩) (by first|exact Nat.ne_of_lt (Nat.lt_of_lt_of_le (by have:=World.block_lt_of_cell? _ _ hw511_0;first|rwa [add_block] at this|exact this) a2.out)|(rw [add_block];exact Nat.ne_of_lt (Nat.lt_of_lt_of_le (by have:=World.block_lt_of_cell? _ _ hw511_0;first|rwa [add_block] at this|exact this) a2.out))|(show (Addr.add _ _).block≠_;rw [add_block];exact Nat.ne_of_lt (Nat.lt_of_lt_of_le (by have:=World.block_lt_of_cell? _ _ hw511_0;first|rwa [add_block] at this|exact this) a2.out))|(dsimp only;exact Nat.ne_of_lt (Nat.lt_of_lt_of_le (by have:=World.block_lt_of_cell? _ _ hw511_0;first|rwa [add_block] at this|exact this) a2.out))) _).trans (((cell_far (p:=⟨a5,_,none⟩) (by first|exact Nat.ne_of_lt (Nat.lt_of_lt_of_le (by have:=World.block_lt_of_cell? _ _ hw511_0;first|rwa [add_block] at this|exact this) a2.out)|(rw [add_block];exact Nat.ne_of_lt (Nat.lt_of_lt_of_le (by have:=World.block_lt_of_cell? _ _ hw511_0;first|rwa [add_block] at this|exact this) a2.out))|(show (Addr.add _ _).block≠_;rw [add_block];exact Nat.ne_of_lt (Nat.lt_of_lt_of_le (by have:=World.block_lt_of_cell? _ _ hw511_0;first|rwa [add_block] at this|exact this) a2.out))|(dsimp only;exact Nat.ne_of_lt (Nat.lt_of_lt_of_le (by have:=World.block_lt_of_cell? _ _ hw511_0;first|rwa [add_block] at this|exact this) a2.out))) _).trans (((cell_far (p:=⟨a5,_,none⟩) (by first|exact Nat.ne_of_lt (Nat.lt_of_lt_of_le (by have:=World.block_lt_of_cell? _ _ hw511_0;first|rwa [add_block] at this|exact this) a2.out)|(rw [add_block];exact Nat.ne_of_lt (Nat.lt_of_lt_of_le (by have:=World.block_lt_of_cell? _ _ hw511_0;first|rwa [add_block] at this|exact this) a2.out))|(show (Addr.add _ _).block≠_;rw [add_block];exact Nat.ne_of_lt (Nat.lt_of_lt_of_le (by have:=World.block_lt_of_cell? _ _ hw511_0;first|rwa [add_block] at this|exact this) a2.out))|(dsimp only;exact Nat.ne_of_lt (Nat.lt_of_lt_of_le (by have:=World.block_lt_of_cell? _ _ hw511_0;first|rwa [add_block] at this|exact this) a2.out))) _).trans (hHeld.2.2.2.2.1)))))),((cell_far (p:=⟨a5,_,none⟩) (by first|exact Nat.ne_of_lt (Nat.lt_of_lt_of_le (by have:=World.block_lt_of_cell? _ _ hw511_1;first|rwa [add_block] at this|exact this) a2.out)|(rw [add_block];exact Nat.ne_of_lt (Nat.lt_of_lt_of_le (by have:=World.block_lt_of_cell? _ _ hw511_1;first|rwa [add_block] at this|exact this) a2.out))|(show (Addr.add _ _).block≠_;rw [add_block];exact Nat.ne_of_lt (Nat.lt_of_lt_of_le (by have:=World.block_lt_of_cell? _ _ hw511_1;first|rwa [add_block] at this|exact this) a2.out))|(dsimp only;exact Nat.ne_of_lt (Nat.lt_of_lt_of_le (by have:=World.block_lt_of_cell? _ _ hw511_1;first|rwa [add_block] at this|exact this) a2.out))) _).trans (((cell_far (p:=⟨a5,_,none⟩) (by first|exact Nat.ne_of_lt (Nat.lt_of_lt_of_le (by have:=World.block_lt_of_cell? _ _ hw511_1;first|rwa [add_block] at this|exact this) a2.out)|(rw [add_block];exact Nat.ne_of_lt (Nat.lt_of_lt_of_le (by have:=World.block_lt_of_cell? _ _ hw511_1;first|rwa [add_block] at this|exact this) a2.out))|(show (Addr.add _ _).block≠_;rw [add_block];exact Nat.ne_of_lt (Nat.lt_of_lt_of_le (by have:=World.block_lt_of_cell? _ _ hw511_1;first|rwa [add_block] at this|exact this) a2.out))|(dsimp only;exact Nat.ne_of_lt (Nat.lt_of_lt_of_le (by have:=World.block_lt_of_cell? _ _ hw511_1;first|rwa [add_block] at this|exact this) a2.out))) _).trans (((cell_far (p:=⟨a5,_,none⟩) (by first|exact Nat.ne_of_lt (Nat.lt_of_lt_of_le (by have:=World.block_lt_of_cell? _ _ hw511_1;first|rwa [add_block] at this|exact this) a2.out)|(rw [add_block];exact Nat.ne_of_lt (Nat.lt_of_lt_of_le (by have:=World.block_lt_of_cell? _ _ hw511_1;first|rwa [add_block] at this|exact this) a2.out))|(show (Addr.add _ _).block≠_;rw [add_block];exact Nat.ne_of_lt (Nat.lt_of_lt_of_le (by have:=World.block_lt_of_cell? _ _ hw511_1;first|rwa [add_block] at this|exact this) a2.out))|(dsimp only;exact Nat.ne_of_lt (Nat.lt_of_lt_of_le (by have:=World.block_lt_of_cell? _ _ hw511_1;first|rwa [add_block] at this|exact this) a2.out))) _).trans (hHeld.2.2.2.2.2.1)))))),((cell_far (p:=⟨a5,_,none⟩) (by first|exact Nat.ne_of_lt (Nat.lt_of_lt_of_le (by have:=World.block_lt_of_cell? _ _ hw511_2;first|rwa [add_block] at this|exact this) a2.out)|(rw [add_block];exact Nat.ne_of_lt (Nat.lt_of_lt_of_le (by have:=World.block_lt_of_cell? _ _ hw511_2;first|rwa [add_block] at this|exact this) a2.out))|(show (Addr.add _ _).block≠_;rw [add_block];exact Nat.ne_of_lt (Nat.lt_of_lt_of_le (by have:=World.block_lt_of_cell? _ _ hw511_2;first|rwa [add_block] at this|exact this) a2.out))|(dsimp only;exact Nat.ne_of_lt (Nat.lt_of_lt_of_le (by have:=World.block_lt_of_cell? _ _ hw511_2;first|rwa [add_block] at this|exact this) a2.out))) _).trans (((cell_far (p:=⟨a5,_,none⟩) (by first|exact Nat.ne_of_lt (Nat.lt_of_lt_of_le (by have:=World.block_lt_of_cell? _ _ hw511_2;first|rwa [add_block] at this|exact this) a2.out)|(rw [add_block];exact Nat.ne_of_lt (Nat.lt_of_lt_of_le (by have:=World.block_lt_of_cell? _ _ hw511_2;first|rwa [add_block] at this|exact this) a2.out))|(show (Addr.add _ _).block≠_;rw [add_block];exact Nat.ne_of_lt (Nat.lt_of_lt_of_le (by have:=World.block_lt_of_cell? _ _ hw511_2;first|rwa [add_block] at this|exact this) a2.out))|(dsimp only;exact Nat.ne_of_lt (Nat.lt_of_lt_of_le (by have:=World.block_lt_of_cell? _ _ hw511_2;first|rwa [add_block] at this|exact this) a2.out))) _).trans (((cell_far (p:=⟨a5,_,none⟩) (by first|exact Nat.ne_of_lt (Nat.lt_of_lt_of_le (by have:=World.block_lt_of_cell? _ _ hw511_2;first|rwa [add_block] at this|exact this) a2.out)|(rw [add_block];exact Nat.ne_of_lt (Nat.lt_of_lt_of_le (by have:=World.block_lt_of_cell? _ _ hw511_2;first|rwa [add_block] at this|exact this) a2.out))|(show (Addr.add _ _).block≠_;rw [add_block];exact Nat.ne_of_lt (Nat.lt_of_lt_of_le (by have:=World.block_lt_of_cell? _ _ hw511_2;first|rwa [add_block] at this|exact this) a2.out))|(dsimp only;exact Nat.ne_of_lt (Nat.lt_of_lt_of_le (by have:=World.block_lt_of_cell? _ _ hw511_2;first|rwa [add_block] at this|exact this) a2.out))) _).trans (hHeld.2.2.2.2.2.2))))))⟩ (fun hHeld => ?_)
      clear hK K;refine done_ (done_of HT_.out (by kernel_rfl)) ?_
      try go_wp2
      refine bodyPost_ret (results_cell_row rfl _ _ a5 133 #[.bool true,.string ((rd_T34 a4 a3).f1),.bool ((rd_T34 a4 a3).f2)] (0,0) _ rfl (bp a8.out) Tryd.underlying133 rfl (by kernel_rfl)) rfl ?_;exact ⟨Ye2,(bf HB.out)⟩
     ·rw [if_neg c7] at H
      have aB:(((rd_T34 a4 a3).f0).toList==a1.toList)=false:=beq_eq_false_iff_ne.mpr c7;have aC:(((rd_T34 a4 a3).f0).toList != a1.toList)=true:=bne_iff_ne.mpr c7;have H':=Aside0.mk H;clear H;have hnb14:=a9.out;have hnc14:=ag.out;have ⟨aO,aP⟩:=Yc1 a6.out;have aa:0≤(a3:Int):=oda;have ab:a3<(a4.length:Int):=oda;obtain ⟨a7,aq,aD,aE,aF⟩:=at_T34 (Kd.C_below af.out HB.out) a3 aa ab
      cases aq
      replace aa:=eq_true aa;replace ab:=eq_true ab
      go_wp2
      go_roundg k1
      case measure=>have:=HK1.out;omega
      case rel=>exact ⟨(wrap64 (a3+1)),(an),(ao),(ap),Ye1,H',⟨by have:=HK1.out;omega⟩,⟨bk a6.out⟩,⟨bk a8.out⟩,⟨bf HB.out⟩⟩
    ·rw [if_neg c6] at H
     exact absurd H (by simp)
   ·rw [if_neg c5] at H
    have aA:decide (a3<(a4.length:Int))=false:=decide_eq_false c5;clear c5;simp only [Option.some.injEq,Prod.mk.injEq] at H;obtain ⟨rfl,rfl,rfl⟩:=H;have hnb16:=a9.out;have hnc16:=ag.out;have ⟨aQ,aR⟩:=Yc1 a6.out;have ⟨aS,aT,aU,aV,aW,aX⟩:=Yc3 a8.out
    go_wp2
    refine bodyPost_ret (results_cell_row rfl _ _ a5 133 #[.bool false,.string (⟨#[]⟩:ByteArray),.bool false] (0,0) _ rfl (bp a8.out) Tryd.underlying133 rfl (by kernel_rfl)) rfl ?_;exact ⟨Ye2,(bf HB.out)⟩

end Go.Proofs.YtkmfnmeilooogaaDoor.P

