/- Several texts of this claim in one file: YthfpoacindblgaaDoorPImplDirText, YthfpoacindblgaaDoorPImplProve, YthfpoacindblgaaDoorPLawsFnExactProve. -/
import Derived.Test.YthfpoacindblgaaDoorM2
import Derived.Test.YthfpoacindblgaaDoorM4
import Derived.Test.YthfpoacindblgaaDoorM6
import Derived.Test.YthfpoacindblgaaDoorM3
import Derived.Lib.ConvBytes
import Derived.Deep.DeepCutAuto
import Derived.Laws.RangeString
import Derived.ChangeMaps5
import Derived.Maps.RangeWalk
import Derived.Deep.CutBlock
import Derived.Test.YthfpoacindblgaaDoorM5
namespace Go.Proofs.YthfpoacindblgaaDoor.P
open Go.RowKit Go.Proofs.YthfpoacindblgaaDoorW.PrintWords Go.Proofs.YthfpoacindblgaaDoorW.PrintLast Go.Proofs.YthfpoacindblgaaDoorW.PrintMore
attribute [local go_sem] max2_int min2_int max_two min_two max_three min_three max_four min_four
set_option linter.unusedVariables false
set_option linter.unusedSimpArgs false

/- Walked by hand. -/
open Go.Proofs.YthfpoacindblgaaDoor.Pure
theorem allK_1 {α:Type} (b:Nat) (M:List (ByteArray×α)):allK [(b,M)]=M.map (·.1):=by simp [allK]
theorem cell_1 {α:Type} (b t:Nat) (M:List (ByteArray×α)) (W:World):∀ i,(h:i < [(b,M)].length)→(W.alloc (.cells #[.map (some b)] t)).cell? (Addr.add ⟨W.heap.size,0,none⟩ i)=some (.map (some [(b,M)][i].1)):=by
 intro i h
 obtain rfl:i=0:=by simpa using h
 simp [Addr.add]
theorem str_zero (w:World):(zeroValue 9).run Tryd.prog w = .ok (.string ⟨#[]⟩) w:=by kernel_rfl
theorem dset3 {W w':World} {b:Nat} {t:TypeId} {c0 c1 c2 x0 x1 x2:Value} (h:W.heap[b]? = some (.cells #[c0,c1,c2] t (0,0))) (hw:w'=((W.setCell ⟨b,0,none⟩ x0).setCell ⟨b,1,none⟩ x1).setCell ⟨b,2,none⟩ x2) :
  w'.heap[b]? = some (.cells #[x0,x1,x2] t (0,0))∧W.grownBy w' (some b)∧w'.heap.size=W.heap.size:=set3 h hw
/-- A text turned to bytes. -/
theorem wpList_bytes {ops:Array Oper} {rest:List Oper} {o:Oper} {a:Act} {Q:Exit→Act→World→Prop} (w:World) (hg:o.guard=none) (x:Operand) (hop:o.op=Op.convert 9 64 x) (s:ByteArray) (hx:a.eval x = .string s)
  (hK:∀ b c w',(∀ i (h:i<s.data.toList.length),w'.cell? ⟨b,0+i,none⟩=some (.int .u8 ((s.data.toList[i]'h).toNat:Int)))→b<w'.heap.size→Below w.heap.size w w'→wpList Tryd.prog ops Q rest (a.put o.dst (.slice (some ⟨b,0,none⟩) s.size c)) w'):wpList Tryd.prog ops Q (o :: rest) a w:=by
 refine wpList_plain hg fun K' hK' => ?_
 have hrun:=Lib.run_convert_string_bytes w 9 64 5 s (u:=.string) Tryd.underlying9 Tryd.underlying64 Tryd.underlying5
 unfold Oper.wp
 simp [execOp,hop,hx,hrun,Result.andThen]
 refine hK' _ _ (hK _ _ _ (fun i h => ?_) (by rw [Lib.bytesWorld_size];omega) ⟨?_,?_,?_,?_,fun k hk=>Lib.bytesWorld_at_old w _ s k hk⟩)
 ·rw [Nat.zero_add,Lib.bytesWorld_cell w _ s i (by rw [←size_toList];exact h),List.getD_eq_getElem?_getD,List.getElem?_eq_getElem h]
  rfl
 ·simp [Lib.bytesWorld,World.freeze,World.alloc,World.drew,-World.alloc_eq,-World.drew_eq]
 ·simp [Lib.bytesWorld,World.freeze,World.alloc,World.drew,-World.alloc_eq,-World.drew_eq]
 ·simp [Lib.bytesWorld,World.freeze,World.alloc,World.drew,-World.alloc_eq,-World.drew_eq]
 ·rw [Lib.bytesWorld_size];omega
theorem hexc (b c:Nat) (s:ByteArray) (w:World) (hs:s.size≤1000000) (hc:∀ i (h:i<s.data.toList.length),w.cell? ⟨b,0+i,none⟩=some (.int .u8 ((s.data.toList[i]'h).toNat:Int))) (hb:b<w.heap.size) :
  Calls Tryd.prog 44 #[.slice (some ⟨b,0,none⟩) s.size c] w fun e w'=>e = .returned (.string (hexB s))∧Below w.heap.size w w' :=
 Tryd.hex_EncodeToString_bytes b 0 c s.data.toList w hc hb (by rw [size_toList];omega)
theorem cut_first (s:ByteArray):(⟨(Lib.cut s.data.toList [47]).1.toArray⟩:ByteArray)=firstB s∧(Lib.cut s.data.toList [47]).2.2=deep s:=by
 unfold Lib.cut
 rcases index_one 47 s.data.toList with ⟨h1,h2⟩|⟨a,r,h1,h2,h3⟩
 ·rw [h1,if_neg (by omega)]
  refine ⟨?_,(decide_eq_false h2).symm⟩
  rw [first_flat (s:=s) (decide_eq_false h2)]
 ·rw [h3,if_pos (by omega)]
  refine ⟨ba_ext ?_,?_⟩
  ·unfold firstB
   rw [mkB,mkB,h1,tw_hit h2,Int.toNat_natCast,List.take_left']
   rfl
  ·show true=deep s
   unfold deep
   rw [h1]
   simp
theorem cutc (s:ByteArray) (w:World) (hg:GOK w) (hs:s.size≤1000000) :
  Calls Tryd.prog 43 #[.string s,.string ⟨#[47]⟩] w fun e w' => ∃ x,e = .returned (.tuple #[.string (firstB s),.string x,.bool (deep s)]) ∧ ∃ n,w'=w.drewN n:=by
 obtain ⟨m,hm⟩:=hg
 refine (Tryd.strings_Cut s ⟨#[47]⟩ m w (by omega) hm).mono ?_
 rintro e w' ⟨rfl,hn⟩
 obtain ⟨h1,h2⟩:=cut_first s
 rw [←h1,←h2]
 exact ⟨_,rfl,hn⟩
theorem sumc (s:ByteArray) (wd:Int) (w:World) (hs:s.size≤1000000) :
  Calls Tryd.prog 45 #[.string s,.int .i64 wd] w fun e w'=>e = .returned (.string (sumOf s wd))∧Below w.heap.size w w' :=
 impl_Sum.calls (s.size+10) s wd (sumOf s wd) w (impl_Sum_eq s (by omega) wd (s.size+10) (by omega))
theorem overc (a b:ByteArray) (r:Bool) (w:World) (ha:a.size≤1048576) (h:begins a b=r) :
  Calls Tryd.prog 41 #[.string a,.string b] w fun e w'=>e = .returned (.bool r)∧Below w.heap.size w w':=by
 subst h
 refine (impl_over.calls a b _ w (impl_over_eq a b ha)).mono ?_
 rintro e w' ⟨he,hd⟩
 exact ⟨he,hd.below⟩
theorem gather_next (L:List ByteArray) (i:Nat) (h:i<L.length):gather (L.take (i+1))=gather (L.take i)++L[i]:=by
 unfold gather
 rw [List.take_succ_eq_append_getElem h,List.foldl_append]
 rfl
/-- The rows so far, as they lie under the directory. -/
theorem subT_next {l:List Entry} {dir:ByteArray} {i:Nat} (h:i<l.length) :
  subT (l.take (i+1)) dir=subT (l.take i) dir++(if dir.toList = [] then [l[i]] else if begins dir l[i].f0=true then [subE dir l[i]] else []):=by
 rw [List.take_succ_eq_append_getElem h]
 unfold subT
 by_cases hd:dir.toList = []
 ·rw [if_pos hd,if_pos hd,if_pos hd]
 ·rw [if_neg hd,if_neg hd,if_neg hd]
  unfold subL
  rw [List.filter_append,List.map_append]
  congr 1
  by_cases hb:begins dir l[i].f0=true
  ·rw [if_pos hb,List.filter_cons_of_pos (by exact hb),List.filter_nil]
   rfl
  ·rw [if_neg hb,List.filter_cons_of_neg (by exact hb),List.filter_nil]
   rfl
theorem subT_in {l:List Entry} {dir:ByteArray} {i:Nat} (h:i<l.length) {q:Entry} (hq:subT (l.take (i+1)) dir=subT (l.take i) dir ++ [q]):q ∈ subT l dir:=by
 have h1:q ∈ subT (l.take (i+1)) dir:=by rw [hq];simp
 unfold subT at h1 ⊢
 by_cases hd:dir.toList = []
 ·rw [if_pos hd] at h1 ⊢
  exact List.mem_of_mem_take h1
 ·rw [if_neg hd] at h1 ⊢
  obtain ⟨e,he,hb,rfl⟩:=sub_mem h1
  exact List.mem_map_of_mem (List.mem_filter.2 ⟨List.mem_of_mem_take he,hb⟩)
theorem subT_size {l:List Entry} {dir:ByteArray} {m:Nat} (h:∀ e ∈ l,e.f0.size≤m∧e.f1.size≤1500):∀ q ∈ subT l dir,q.f0.size≤m∧q.f1.size≤1500:=by
 intro q hq
 unfold subT at hq
 split at hq
 ·exact h q hq
 ·obtain ⟨e,he,_,rfl⟩:=sub_mem hq
  refine ⟨?_,(h e he).2⟩
  show (e.f0.extract (dir.size+1) e.f0.size).size≤m
  rw [ByteArray.size_extract]
  have:=(h e he).1
  omega
theorem onto_size {l:List Entry} {dir:ByteArray} {m:Nat} (h:∀ e ∈ l,e.f0.size≤m) {q:Entry} (hq:q ∈ subT l dir):(onto dir (firstB q.f0)).size≤m:=by
 unfold subT at hq
 unfold onto
 by_cases hd:dir.toList = []
 ·rw [if_pos hd] at hq ⊢
  exact Nat.le_trans (first_size _) (h q hq)
 ·rw [if_neg hd] at hq ⊢
  obtain ⟨e,he,hb,rfl⟩:=sub_mem hq
  have h1:=h e he
  have h2:=((begins_iff _ _).1 hb).1
  have h3:=first_size (subE dir e).f0
  have h4:(subE dir e).f0.size=e.f0.size - (dir.size+1):=by
   show (e.f0.extract (dir.size+1) e.f0.size).size=_
   rw [ByteArray.size_extract]
   omega
  have h5:(dir++(⟨#[47]⟩:ByteArray)++firstB (subE dir e).f0).size=dir.size+1+(firstB (subE dir e).f0).size:=by
   rw [ByteArray.size_append,ByteArray.size_append]
   rfl
  rw [h5]
  omega
def impl_dirText.f (l:List S55) (dir:ByteArray) (wd:Int):Option ByteArray:=if treeOk l=true∧(1≤wd∧wd≤8)∧dir.size≤126 then some (dirT wd 200 (subT l dir)) else none
set_option maxHeartbeats 8000000 in
set_option maxRecDepth 100000 in
theorem impl_dirText.at (wd:Int) (hwd:1≤wd∧wd≤8) (d:Nat):∀ (A0:Option Addr) (c0:Nat) (l:List S55) (dir:ByteArray) (w:World),GOK w→Kd.C k55 w A0 l.length l→l.length≤c0→treeOk l=true→dir.size≤126→(∀ e ∈ subT l dir,slashes e≤d) →
  Calls Tryd.prog 24 #[.agg #[.slice A0 l.length c0],.string dir,.int .i64 wd] w fun e w'=>e = .returned (.string (dirT wd (d+1) (subT l dir)))∧Below w.heap.size w w':=by
 induction d using Nat.strongRecOn with
 | ind d IH =>
 intro A0 c0 l dir w hg hr hc ht hdir hsl
 have HIH:=Aside0.mk IH
 have HG:=Aside0.mk hg
 have HR:=Aside0.mk hr
 have HC0:=Aside0.mk hc
 have HT:=Aside0.mk ht
 have HSL:=Aside0.mk hsl
 have HB:=Aside0.mk (Below.refl w.heap.size w)
 have HFIT:=Aside0.mk ((treeOk_fit ht).subT dir)
 have HLEN:=Aside0.mk (treeOk_len100 ht)
 have HSZ:=Aside0.mk (show ∀ e ∈ l,e.f0.size≤126∧e.f1.size≤1500 from fun e he=>⟨treeOk_size' ht e he,(entryOk_path (((treeOk_iff l).1 ht).2.1 e he)).2⟩)
 have HZR:=Aside0.mk (subT_size (dir:=dir) HSZ.out)
 have HDIR:=Aside0.mk hdir
 have HWD:=Aside0.mk hwd
 clear IH hg hr hc ht hsl hdir hwd
 obtain ⟨eb,hE⟩:∃ b,dir.toList.isEmpty=b:=⟨_,rfl⟩
 have HE:=Aside0.mk (show eb=true ↔ dir.toList = [] from by rw [←hE];exact List.isEmpty_iff)
 have hu50:=Tryd.underlying32
 have hu34:=Tryd.underlying55
 go_enter Tryd.func24,Tryd.ntmps24
 go_wp2_with (first
  | ((with_reducible refine gd 3 rfl ?_);refine bx 3 32 (#[.slice A0 l.length c0]) ?_;intro b3 hg w1 hbox hb;have G3:=Aside0.mk (bs hg (be HB.out));have HB_:=Aside0.mk (below_step (be HB.out) hb);clear HB;have HB:=HB_;clear HB_;have B3:=Aside0.mk hbox;clear hb hbox hg;have ⟨hz3,hf3⟩:=Yc1 B3.out)
  | ((with_reducible refine gd 19 rfl ?_);go_loud (refine wpList_make_M Value.string _ rfl _ rfl ?_);intro bm w2 hg hM hb;have GM:=Aside0.mk (bs hg (be HB.out));have N3M:=Aside0.mk (show b3≠bm from by have:=blk_lt B3.out;omega);have HB_:=Aside0.mk (below_step (be HB.out) hb);have B3_:=Aside0.mk (bb B3 hb);clear HB B3;have HB:=HB_;have B3:=B3_;clear HB_ B3_;have HM:=Aside0.mk hM;clear hM hb hg;(try clear hz3 hf3);have ⟨hz3,hf3⟩:=Yc1 B3.out))
 go_loopg [23] (l.length) (fun kq v_ w' => ∃ (i:Nat) (M:List (ByteArray×ByteArray)),v_ = .int .i64 (i:Int)∧Aside0 (kq+i=l.length)∧Aside0 (LineInv wd (dirT wd d) (subT l dir) (subT (l.take i) dir) M)∧Aside0 (M.length≤i)∧Aside0 (MapAt Value.string w' bm M)∧Aside0 (w'.heap[b3]? = some (.cells #[.slice A0 l.length c0] 32 (0,0)))∧Aside0 (Below w.heap.size w w'))
 case atStart=>exact ⟨0,[],rfl,⟨by omega⟩,⟨by have e:subT (l.take 0) dir = []:=(by unfold subT subL;split <;> rfl);rw [e];exact lineInv_start _ _ _⟩,⟨Nat.le_refl _⟩,HM,B3,HB⟩
 case round =>
 clear HM B3 HB hz3 hf3
 obtain ⟨i,M,rfl,HK,HI,HML,HM,B3,HB⟩:=hrel
 have hik:=HK.out
 have ⟨hz3,hf3⟩:=Yc1 B3.out
 by_cases hi:i<l.length
 ·have c1 : decide ((i : Int) < (l.length : Int)) = true := decide_eq_true (by omega)
  have c2:decide (0≤(i:Int))=true:=decide_eq_true (by omega)
  have c3:decide (i<l.length)=true:=decide_eq_true hi
  obtain ⟨ad,e1,hx0⟩:=at_T55 (Kd.C_below HR.out HB.out) (i:Int) (by omega) (by omega)
  subst e1
  obtain ⟨hx1,hx2,hx3⟩:=hx0
  rw [rdE_eq hi,Int.toNat_natCast] at hx1 hx2 hx3
  have HNX:=Aside0.mk (subT_next (dir:=dir) hi)
  have HEZ:=Aside0.mk (HSZ.out _ (List.getElem_mem hi))
  have HNXL:=Aside0.mk (show i+1≤1000 from by have:=HLEN.out;omega)
  have HW1:=Aside0.mk (show wrap64 ((i:Int)+1)=((i+1:Nat):Int) from by have:=HLEN.out;unfold wrap64;omega)
  generalize hen:l[i]=en at HNX HEZ hx1 hx2 hx3
  have HEN:=Aside0.mk hen
  clear hen
  obtain ⟨f0,f1,f2⟩:=en
  dsimp only at hx1 hx2 hx3
  go_upto_if 30 with (first
   | ((with_reducible refine gd 9 rfl ?_);refine bx 9 55 (#[.string ByteArray.empty,.string ByteArray.empty,.bool false]) ?_;intro b9 hg w7 hbox hb;have G9:=Aside0.mk (bs hg (be HB.out));have N9:=Aside0.mk (show b3≠b9∧bm≠b9 from by have h1:=blk_lt B3.out;have h2:=HM.out.lt;exact ⟨by omega,by omega⟩);have HB_:=Aside0.mk (below_step (be HB.out) hb);have B3_:=Aside0.mk (bb B3 hb);have HM_:=Aside0.mk (MapAt.over HM.out hb rfl);clear HB B3 HM;have HB:=HB_;have B3:=B3_;have HM:=HM_;clear HB_ B3_ HM_;have B9:=Aside0.mk hbox;clear hb hbox hg;(try clear hz3 hf3);have ⟨hz3,hf3⟩:=Yc1 B3.out;have ⟨hc0,hc1,hc2,he0,he1,he2⟩:=Yc3 B9.out)
   | (have g_:=B9;clear g_;(with_reducible refine gate_store (t:=55) rfl ?_);go_loud (refine store_event (w1:=((w7.setCell ⟨b9,0,none⟩ (.string f0)).setCell ⟨b9,1,none⟩ (.string f1)).setCell ⟨b9,2,none⟩ (.bool f2)) ?hg rfl ?hd ?hr ?_;(case hg=>rfl);(case hd=>rfl);(case hr=>first|(go_simp;done)|(go_simp;rfl));intro w8 hw;have S9:=dset3 B9.out hw;clear hw hc0 hc1 hc2 he0 he1 he2 hz3 hf3;have HM_:=Aside0.mk (HM.out.kept S9.2.1 (ne_some N9.out.2));have B3_:=Aside0.mk (blk_grown B3.out S9.2.1 (ne_some N9.out.1));have HB_:=Aside0.mk (below_own HB.out S9.2.1 G9.out);have B9_:=Aside0.mk S9.1;clear S9 HB B3 HM B9;have HB:=HB_;have B3:=B3_;have HM:=HM_;have BN:=B9_;clear HB_ B3_ HM_ B9_;have ⟨hz3,hf3⟩:=Yc1 B3.out;have ⟨hc0,hc1,hc2,he0,he1,he2⟩:=Yc3 BN.out)))
  go_cut [10] (fun s10 wx => ∃ (q:Entry),s10 = .string q.f0∧Aside0 (subT (l.take (i+1)) dir=subT (l.take i) dir ++ [q])∧Aside0 (q.f1=f1∧q.f2=f2)∧Aside0 (MapAt Value.string wx bm M)∧Aside0 (wx.heap[b3]? = some (.cells #[.slice (some ad) l.length c0] 32 (0,0)))∧Aside0 (wx.heap[b9]? = some (.cells #[.string f0,.string f1,.bool f2] 55 (0,0)))∧Aside0 (Below w.heap.size w wx))
  case first =>
   cases eb with
   | true =>
    have HD:=Aside0.mk (HE.out.1 rfl)
    have HN1:=HNX.out
    rw [if_pos HD.out] at HN1
    have HN2:=Aside0.mk HN1
    clear HN1
    go_wp2_with fail
    go_meet
    case rel=>exact ⟨⟨f0,f1,f2⟩,rfl,HN2,⟨⟨rfl,rfl⟩⟩,HM,B3,BN,HB⟩
   | false =>
    have hd:¬ dir.toList = []:=fun h=>by have:=HE.out.2 h;cases this
    have HN1:=HNX.out
    rw [if_neg hd] at HN1
    have HD:=Aside0.mk hd
    clear hd
    cases hb0:begins dir f0 with
    | false =>
     rw [if_neg (by rw [hb0];simp),List.append_nil] at HN1
     have HN2:=Aside0.mk HN1
     have HBG:=Aside0.mk hb0
     clear HN1 hb0
     have B9:=BN
     clear BN
     go_wp2_with (go_at_call 41;(with_reducible refine (overc dir f0 false _ (by have:=HDIR.out;omega) HBG.out).mono ?_);rintro e wo ⟨rfl,hb⟩;have HB_:=Aside0.mk (below_step (be HB.out) hb);have B3_:=Aside0.mk (bb B3 hb);have B9_:=Aside0.mk (bb B9 hb);have HM_:=Aside0.mk (MapAt.over HM.out hb rfl);clear HB B3 B9 HM hb;have HB:=HB_;have B3:=B3_;have B9:=B9_;have HM:=HM_;clear HB_ B3_ B9_ HM_;(try clear hz3 hf3 hc0 hc1 hc2 he0 he1 he2);have ⟨hz3,hf3⟩:=Yc1 B3.out;have ⟨hc0,hc1,hc2,he0,he1,he2⟩:=Yc3 B9.out)
     go_roundg (gk - 1)
     case measure=>omega
     case rel=>exact ⟨i+1,M,by first|rw [HW1.out]|exact congrArg (Value.int .i64) (by omega),⟨by omega⟩,⟨by rw [HN2.out];exact HI.out⟩,⟨by have:=HML.out;omega⟩,HM,B3,HB⟩
    | true =>
     rw [if_pos (by rw [hb0])] at HN1
     have HN2:=Aside0.mk HN1
     have HBG:=Aside0.mk hb0
     have hsz:=((begins_iff _ _).1 hb0).1
     have k1:decide ((dir.size:Int)+1≤(f0.size:Int))=true:=decide_eq_true (by omega)
     have k2:wrap64 ((dir.size:Int)+1)=(dir.size:Int)+1:=by have:=HDIR.out;unfold wrap64;omega
     have k3:decide (0≤(dir.size:Int)+1)=true:=decide_eq_true (by omega)
     have k4:dir.size+1≤f0.size:=by omega
     have K2:=Aside0.mk k2
     clear HN1 hb0 hsz k2
     have k5:dir.size≤126:=HDIR.out
     have B9:=BN
     clear BN
     go_wp2_with (go_at_call 41;(with_reducible refine (overc dir f0 true _ (by have:=HDIR.out;omega) HBG.out).mono ?_);rintro e wo ⟨rfl,hb⟩;have HB_:=Aside0.mk (below_step (be HB.out) hb);have B3_:=Aside0.mk (bb B3 hb);have B9_:=Aside0.mk (bb B9 hb);have HM_:=Aside0.mk (MapAt.over HM.out hb rfl);clear HB B3 B9 HM hb;have HB:=HB_;have B3:=B3_;have B9:=B9_;have HM:=HM_;clear HB_ B3_ B9_ HM_;(try clear hz3 hf3 hc0 hc1 hc2 he0 he1 he2);have ⟨hz3,hf3⟩:=Yc1 B3.out;have ⟨hc0,hc1,hc2,he0,he1,he2⟩:=Yc3 B9.out)
     go_meet
     case rel=>exact ⟨subE dir ⟨f0,f1,f2⟩,rfl,HN2,⟨⟨rfl,rfl⟩⟩,HM,B3,B9,HB⟩
  case rest =>
  clear HM B3 BN HB hz3 hf3 hc0 hc1 hc2 he0 he1 he2 hx1 hx2 hx3 HNX
  obtain ⟨q,rfl,HQ,HQF,HM,B3,B9,HB⟩:=hcut
  have ⟨hz3,hf3⟩:=Yc1 B3.out
  have ⟨hc0,hc1,hc2,he0,he1,he2⟩:=Yc3 B9.out
  have HQR:=Aside0.mk (subT_in hi HQ.out)
  have HQZ:=Aside0.mk (HZR.out q HQR.out)
  have hq0:=HQZ.out.1
  have hf1:f1.size≤1500:=by have:=HQZ.out.2;rw [HQF.out.1] at this;exact this
  have hn0:(firstB q.f0).size≤126:=Nat.le_trans (first_size _) hq0
  have z1_:5+f1.size≤9223372036854775807:=by omega
  have z1a:=eq_true z1_
  have z1b:decide (5+f1.size≤9223372036854775807)=true:=decide_eq_true z1_
  have z1c:(9223372036854775807<5+f1.size)=False:=eq_false (Nat.not_lt.2 z1_)
  have HF1:=Aside0.mk (show ((⟨#[102,105,108,101,32]⟩:ByteArray)++f1).size≤1000000 from by rw [ByteArray.size_append];show 5+f1.size≤1000000;omega)
  have HH:=Aside0.mk (hexB_size (sumOf ((⟨#[102,105,108,101,32]⟩:ByteArray)++f1) wd))
  have HS8:=Aside0.mk (sumOf_size ((⟨#[102,105,108,101,32]⟩:ByteArray)++f1) wd)
  clear z1_
  go_upto_if 64 with (first
   | (go_at_call 43;(with_reducible refine (cutc q.f0 _ (GOK.below HG.out (be HB.out)) (by have:=HQZ.out.1;omega)).mono ?_);rintro e wo ⟨xm,rfl,⟨nd,rfl⟩⟩)
   | (go_at_call 45;(with_reducible refine (sumc ((⟨#[102,105,108,101,32]⟩:ByteArray)++f1) wd _ HF1.out).mono ?_);rintro e ws ⟨rfl,hb⟩;have HB_:=Aside0.mk (below_step (be HB.out) hb);have B3_:=Aside0.mk (bb B3 hb);have B9_:=Aside0.mk (bb B9 hb);have HM_:=Aside0.mk (MapAt.over HM.out hb rfl);clear HB B3 B9 HM hb;have HB:=HB_;have B3:=B3_;have B9:=B9_;have HM:=HM_;clear HB_ B3_ B9_ HM_;(try clear hz3 hf3 hc0 hc1 hc2 he0 he1 he2);have ⟨hz3,hf3⟩:=Yc1 B3.out;have ⟨hc0,hc1,hc2,he0,he1,he2⟩:=Yc3 B9.out)
   | ((with_reducible refine gd 54 rfl ?_);refine wpList_bytes _ rfl _ rfl _ rfl ?_;intro bb_ cc_ wb hcell hlt hb;have HCELL:=Aside0.mk hcell;have HLT:=Aside0.mk hlt;clear hcell hlt;have HB_:=Aside0.mk (below_step (be HB.out) hb);have B3_:=Aside0.mk (bb B3 hb);have B9_:=Aside0.mk (bb B9 hb);have HM_:=Aside0.mk (MapAt.over HM.out hb rfl);clear HB B3 B9 HM hb;have HB:=HB_;have B3:=B3_;have B9:=B9_;have HM:=HM_;clear HB_ B3_ B9_ HM_;(try clear hz3 hf3 hc0 hc1 hc2 he0 he1 he2);have ⟨hz3,hf3⟩:=Yc1 B3.out;have ⟨hc0,hc1,hc2,he0,he1,he2⟩:=Yc3 B9.out)
   | (go_at_call 44;(with_reducible refine (hexc bb_ cc_ (sumOf ((⟨#[102,105,108,101,32]⟩:ByteArray)++f1) wd) _ (by have:=HS8.out;omega) HCELL.out HLT.out).mono ?_);rintro e wh ⟨rfl,hb⟩;clear HCELL HLT;have HB_:=Aside0.mk (below_step (be HB.out) hb);have B3_:=Aside0.mk (bb B3 hb);have B9_:=Aside0.mk (bb B9 hb);have HM_:=Aside0.mk (MapAt.over HM.out hb rfl);clear HB B3 B9 HM hb;have HB:=HB_;have B3:=B3_;have B9:=B9_;have HM:=HM_;clear HB_ B3_ B9_ HM_;(try clear hz3 hf3 hc0 hc1 hc2 he0 he1 he2);have ⟨hz3,hf3⟩:=Yc1 B3.out;have ⟨hc0,hc1,hc2,he0,he1,he2⟩:=Yc3 B9.out))
  have HI2:=Aside0.mk (lineInv_step (D':=fun n=>dirT wd d (subL n (subT l dir))) HFIT.out.tidy HQR.out rfl HI.out)
  rw [←HQ.out] at HI2
  have HNE:=Aside0.mk (first_ne (HFIT.out.whole q HQR.out))
  have HOS:=Aside0.mk (onto_size (m:=126) (fun e he=>(HSZ.out e he).1) HQR.out)
  have HSQ:=Aside0.mk (HSL.out q HQR.out)
  have HSUB:=Aside0.mk (show deep q.f0=true→1≤slashes q from fun h=>by
   unfold slashes
   exact List.count_pos_iff.2 (of_decide_eq_true h))
  unfold stepD at HI2
  have hn1:=hn0
  have hh0:(hexB (sumOf ((⟨#[102,105,108,101,32]⟩:ByteArray)++f1) wd)).size≤16:=by have h1:=HH.out;have h2:=HS8.out;omega
  generalize hnn:firstB q.f0=nn at HI2 HNE HOS hn1 ⊢
  have HNN:=Aside0.mk hnn
  clear hnn hn0
  cases hdp:deep q.f0 with
  | false =>
   rw [hdp,if_neg (by simp)] at HI2
   have HI3:=Aside0.mk (show LineInv wd (dirT wd d) (subT l dir) (subT (l.take (i+1)) dir) (mput nn (fileLine wd nn f1 f2) M) from by have:=HI2.out;rw [HQF.out.1,HQF.out.2] at this;exact this)
   have HLN:=Aside0.mk (mput_len nn (fileLine wd nn f1 f2) M)
   clear HI2 hdp
   unfold fileLine at HI3 HLN
   generalize hexB (sumOf ((⟨#[102,105,108,101,32]⟩:ByteArray)++f1) wd)=hh at HI3 HLN hh0 ⊢
   have y_:2+nn.size≤9223372036854775807:=by omega
   have ya0:=eq_true y_
   have yb0:decide (2+nn.size≤9223372036854775807)=true:=decide_eq_true y_
   have yc0:(9223372036854775807<2+nn.size)=False:=eq_false (Nat.not_lt.2 y_)
   clear y_
   have y_:2+nn.size+1≤9223372036854775807:=by omega
   have ya1:=eq_true y_
   have yb1:decide (2+nn.size+1≤9223372036854775807)=true:=decide_eq_true y_
   have yc1:(9223372036854775807<2+nn.size+1)=False:=eq_false (Nat.not_lt.2 y_)
   clear y_
   have y_:2+nn.size+1+hh.size≤9223372036854775807:=by omega
   have ya2:=eq_true y_
   have yb2:decide (2+nn.size+1+hh.size≤9223372036854775807)=true:=decide_eq_true y_
   have yc2:(9223372036854775807<2+nn.size+1+hh.size)=False:=eq_false (Nat.not_lt.2 y_)
   clear y_
   have y_:2+nn.size+1+hh.size+1≤9223372036854775807:=by omega
   have ya3:=eq_true y_
   have yb3:decide (2+nn.size+1+hh.size+1≤9223372036854775807)=true:=decide_eq_true y_
   have yc3:(9223372036854775807<2+nn.size+1+hh.size+1)=False:=eq_false (Nat.not_lt.2 y_)
   clear y_
   cases f2 with
   | true =>
    rw [if_pos rfl] at HI3 HLN
    go_wp2_with (at_mapUpdate;go_loud (refine wpList_store_M (enc:=Value.string) _ rfl _ _ _ 70 rfl 9 9 Tryd.underlying70 Tryd.underlying9 bm M rfl HM.out nn rfl _ rfl ?_;intro wm hM hg hs;have HM2:=Aside0.mk hM;have HB_:=Aside0.mk (below_own HB.out hg GM.out);have B3_:=Aside0.mk (blk_grown B3.out hg (ne_some N3M.out));clear HB B3 HM hM hg hs;have HB:=HB_;have B3:=B3_;clear HB_ B3_))
    go_roundg (gk - 1)
    case measure=>omega
    case rel=>exact ⟨i+1,_,by first|rw [HW1.out]|exact congrArg (Value.int .i64) (by omega),⟨by omega⟩,⟨HI3.out⟩,⟨by have h1:=HML.out;have h2:=HLN.out;omega⟩,HM2,B3,HB⟩
   | false =>
    rw [if_neg (by simp)] at HI3 HLN
    go_wp2_with (at_mapUpdate;go_loud (refine wpList_store_M (enc:=Value.string) _ rfl _ _ _ 70 rfl 9 9 Tryd.underlying70 Tryd.underlying9 bm M rfl HM.out nn rfl _ rfl ?_;intro wm hM hg hs;have HM2:=Aside0.mk hM;have HB_:=Aside0.mk (below_own HB.out hg GM.out);have B3_:=Aside0.mk (blk_grown B3.out hg (ne_some N3M.out));clear HB B3 HM hM hg hs;have HB:=HB_;have B3:=B3_;clear HB_ B3_))
    go_roundg (gk - 1)
    case measure=>omega
    case rel=>exact ⟨i+1,_,by first|rw [HW1.out]|exact congrArg (Value.int .i64) (by omega),⟨by omega⟩,⟨HI3.out⟩,⟨by have h1:=HML.out;have h2:=HLN.out;omega⟩,HM2,B3,HB⟩
  | true =>
   rw [hdp,if_pos rfl] at HI2
   have HS1:=Aside0.mk (HSUB.out hdp)
   obtain ⟨mv,hmv⟩:∃ v,mget (⟨#[]⟩:ByteArray) nn M=v:=⟨_,rfl⟩
   obtain ⟨em,hem⟩:∃ b,mv.toList.isEmpty=b:=⟨_,rfl⟩
   have HU:=Aside0.mk (show Value.string (mget (⟨#[]⟩:ByteArray) nn M) = .string mv from by rw [hmv])
   have HMV:=Aside0.mk hmv
   clear hmv hdp
   cases em with
   | false =>
    have HI3:=Aside0.mk (show LineInv wd (dirT wd d) (subT l dir) (subT (l.take (i+1)) dir) M from by have:=HI2.out;rw [HMV.out,if_neg (fun h=>by rw [h] at hem;cases hem)] at this;exact this)
    clear HI2
    go_wp2_with (at_lookup;refine wpList_look_M (enc:=Value.string) _ rfl _ _ 70 rfl 9 9 Tryd.underlying70 Tryd.underlying9 (⟨#[]⟩:ByteArray) (str_zero _) bm M rfl HM.out nn rfl _ HU.out ?_)
    go_roundg (gk - 1)
    case measure=>omega
    case rel=>exact ⟨i+1,_,by first|rw [HW1.out]|exact congrArg (Value.int .i64) (by omega),⟨by omega⟩,⟨HI3.out⟩,⟨by have h1:=HML.out;omega⟩,HM,B3,HB⟩
   | true =>
    have HI3:=Aside0.mk (show LineInv wd (dirT wd d) (subT l dir) (subT (l.take (i+1)) dir) (mput nn (dirLine wd nn (dirT wd d (subL nn (subT l dir)))) M) from by have:=HI2.out;rw [HMV.out,if_pos (List.isEmpty_iff.1 hem)] at this;exact this)
    have HLN:=Aside0.mk (mput_len nn (dirLine wd nn (dirT wd d (subL nn (subT l dir)))) M)
    clear HI2
    obtain ⟨d1,rfl⟩:∃ d1,d=d1+1:=⟨d - 1,by have h1:=HS1.out;have h2:=HSQ.out;omega⟩
    have eT:subT l (onto dir nn)=subL nn (subT l dir):=subT_onto l dir nn (by rw [Lib.toList_data];exact HNE.out)
    have HRC:=Aside0.mk (fun (W:World) (hg:GOK W) (hC:Kd.C k55 W (some ad) l.length l)=>HIH.out d1 (Nat.lt_succ_self _) (some ad) c0 l (onto dir nn) W hg hC HC0.out HT.out HOS.out (by
     rw [eT]
     intro e he
     have:=sub_shallow (n:=nn) (l:=subT l dir) (d:=d1+1) (fun e he=>Nat.lt_succ_of_le (HSL.out e he)) e he
     omega))
    rw [eT] at HRC
    have HTZ:=Aside0.mk (dirT_size wd 126 (d1+1) (subL nn (subT l dir)) (by
     have h1:=HLEN.out
     have h2:(subT l dir).length≤l.length:=by
      unfold subT subL
      split
      ·exact Nat.le_refl _
      ·rw [List.length_map]
       exact List.length_filter_le _ _
     have h3:(subL nn (subT l dir)).length≤(subT l dir).length:=by
      unfold subL
      rw [List.length_map]
      exact List.length_filter_le _ _
     omega) (fun x hx=>by
     obtain ⟨e,he,_,rfl⟩:=sub_mem hx
     have h1:=(HZR.out e he).1
     show (e.f0.extract (nn.size+1) e.f0.size).size≤126
     rw [ByteArray.size_extract]
     omega))
    clear eT
    generalize dirT wd (d1+1) (subL nn (subT l dir))=TT at HI3 HLN HRC HTZ
    have HH2:=Aside0.mk (hexB_size (sumOf TT wd))
    have HS82:=Aside0.mk (sumOf_size TT wd)
    have ht0:(hexB (sumOf TT wd)).size≤16:=by have h1:=HH2.out;have h2:=HS82.out;omega
    unfold dirLine at HI3 HLN
    have HHT:=Aside0.mk (hexc (s:=sumOf TT wd))
    generalize htt:hexB (sumOf TT wd)=th at HI3 HLN ht0 HHT
    clear htt HH2
    have y_:2+nn.size≤9223372036854775807:=by have hdz:=HDIR.out;omega
    have ya0:=eq_true y_
    have yb0:decide (2+nn.size≤9223372036854775807)=true:=decide_eq_true y_
    have yc0:(9223372036854775807<2+nn.size)=False:=eq_false (Nat.not_lt.2 y_)
    clear y_
    have y_:2+nn.size+1≤9223372036854775807:=by have hdz:=HDIR.out;omega
    have ya1:=eq_true y_
    have yb1:decide (2+nn.size+1≤9223372036854775807)=true:=decide_eq_true y_
    have yc1:(9223372036854775807<2+nn.size+1)=False:=eq_false (Nat.not_lt.2 y_)
    clear y_
    have y_:2+nn.size+1+th.size≤9223372036854775807:=by have hdz:=HDIR.out;omega
    have ya2:=eq_true y_
    have yb2:decide (2+nn.size+1+th.size≤9223372036854775807)=true:=decide_eq_true y_
    have yc2:(9223372036854775807<2+nn.size+1+th.size)=False:=eq_false (Nat.not_lt.2 y_)
    clear y_
    have y_:2+nn.size+1+th.size+1≤9223372036854775807:=by have hdz:=HDIR.out;omega
    have ya3:=eq_true y_
    have yb3:decide (2+nn.size+1+th.size+1≤9223372036854775807)=true:=decide_eq_true y_
    have yc3:(9223372036854775807<2+nn.size+1+th.size+1)=False:=eq_false (Nat.not_lt.2 y_)
    clear y_
    have y_:dir.size+1≤9223372036854775807:=by have hdz:=HDIR.out;omega
    have ya4:=eq_true y_
    have yb4:decide (dir.size+1≤9223372036854775807)=true:=decide_eq_true y_
    have yc4:(9223372036854775807<dir.size+1)=False:=eq_false (Nat.not_lt.2 y_)
    clear y_
    have y_:dir.size+1+nn.size≤9223372036854775807:=by have hdz:=HDIR.out;omega
    have ya5:=eq_true y_
    have yb5:decide (dir.size+1+nn.size≤9223372036854775807)=true:=decide_eq_true y_
    have yc5:(9223372036854775807<dir.size+1+nn.size)=False:=eq_false (Nat.not_lt.2 y_)
    clear y_
    cases eb with
    | true =>
     have HRC2:=HRC
     rw [show onto dir nn=nn from by unfold onto;rw [if_pos (HE.out.1 rfl)]] at HRC2
     clear HRC
     go_wp2_with (first
     | (at_lookup;refine wpList_look_M (enc:=Value.string) _ rfl _ _ 70 rfl 9 9 Tryd.underlying70 Tryd.underlying9 (⟨#[]⟩:ByteArray) (str_zero _) bm M rfl HM.out nn rfl _ HU.out ?_)
     | (go_at_call 24;go_loud ((with_reducible refine (HRC2.out _ (GOK.below HG.out (be HB.out)) (Kd.C_below HR.out (be HB.out))).mono ?_);rintro e wr2 ⟨rfl,hb⟩;have HB_:=Aside0.mk (below_step (be HB.out) hb);have B3_:=Aside0.mk (bb B3 hb);have B9_:=Aside0.mk (bb B9 hb);have HM_:=Aside0.mk (MapAt.over HM.out hb rfl);clear HB B3 B9 HM hb;have HB:=HB_;have B3:=B3_;have B9:=B9_;have HM:=HM_;clear HB_ B3_ B9_ HM_;(try clear hz3 hf3 hc0 hc1 hc2 he0 he1 he2);have ⟨hz3,hf3⟩:=Yc1 B3.out;have ⟨hc0,hc1,hc2,he0,he1,he2⟩:=Yc3 B9.out))
     | (go_at_call 45;(with_reducible refine (sumc TT wd _ (by have:=HTZ.out;omega)).mono ?_);rintro e ws ⟨rfl,hb⟩;have HB_:=Aside0.mk (below_step (be HB.out) hb);have B3_:=Aside0.mk (bb B3 hb);have B9_:=Aside0.mk (bb B9 hb);have HM_:=Aside0.mk (MapAt.over HM.out hb rfl);clear HB B3 B9 HM hb;have HB:=HB_;have B3:=B3_;have B9:=B9_;have HM:=HM_;clear HB_ B3_ B9_ HM_;(try clear hz3 hf3 hc0 hc1 hc2 he0 he1 he2);have ⟨hz3,hf3⟩:=Yc1 B3.out;have ⟨hc0,hc1,hc2,he0,he1,he2⟩:=Yc3 B9.out)
     | ((with_reducible refine gd 88 rfl ?_);refine wpList_bytes _ rfl _ rfl _ rfl ?_;intro bb_ cc_ wb hcell hlt hb;have HCELL:=Aside0.mk hcell;have HLT:=Aside0.mk hlt;clear hcell hlt;have HB_:=Aside0.mk (below_step (be HB.out) hb);have B3_:=Aside0.mk (bb B3 hb);have B9_:=Aside0.mk (bb B9 hb);have HM_:=Aside0.mk (MapAt.over HM.out hb rfl);clear HB B3 B9 HM hb;have HB:=HB_;have B3:=B3_;have B9:=B9_;have HM:=HM_;clear HB_ B3_ B9_ HM_;(try clear hz3 hf3 hc0 hc1 hc2 he0 he1 he2);have ⟨hz3,hf3⟩:=Yc1 B3.out;have ⟨hc0,hc1,hc2,he0,he1,he2⟩:=Yc3 B9.out)
     | (go_at_call 44;(with_reducible refine (HHT.out bb_ cc_ _ (by have:=HS82.out;omega) HCELL.out HLT.out).mono ?_);rintro e wh ⟨rfl,hb⟩;clear HCELL HLT;have HB_:=Aside0.mk (below_step (be HB.out) hb);have B3_:=Aside0.mk (bb B3 hb);have B9_:=Aside0.mk (bb B9 hb);have HM_:=Aside0.mk (MapAt.over HM.out hb rfl);clear HB B3 B9 HM hb;have HB:=HB_;have B3:=B3_;have B9:=B9_;have HM:=HM_;clear HB_ B3_ B9_ HM_;(try clear hz3 hf3 hc0 hc1 hc2 he0 he1 he2);have ⟨hz3,hf3⟩:=Yc1 B3.out;have ⟨hc0,hc1,hc2,he0,he1,he2⟩:=Yc3 B9.out)
     | (at_mapUpdate;go_loud (refine wpList_store_M (enc:=Value.string) _ rfl _ _ _ 70 rfl 9 9 Tryd.underlying70 Tryd.underlying9 bm M rfl HM.out nn rfl _ rfl ?_;intro wm hM hg hs;have HM2:=Aside0.mk hM;have HB_:=Aside0.mk (below_own HB.out hg GM.out);have B3_:=Aside0.mk (blk_grown B3.out hg (ne_some N3M.out));clear HB B3 HM hM hg hs;have HB:=HB_;have B3:=B3_;clear HB_ B3_)))
     go_roundg (gk - 1)
     case measure=>omega
     case rel=>exact ⟨i+1,_,by first|rw [HW1.out]|exact congrArg (Value.int .i64) (by omega),⟨by omega⟩,⟨HI3.out⟩,⟨by have h1:=HML.out;have h2:=HLN.out;omega⟩,HM2,B3,HB⟩
    | false =>
     have HRC2:=HRC
     rw [show onto dir nn=dir++(⟨#[47]⟩:ByteArray)++nn from by unfold onto;rw [if_neg (fun h=>by have:=HE.out.2 h;cases this)]] at HRC2
     clear HRC
     go_wp2_with (first
     | (at_lookup;refine wpList_look_M (enc:=Value.string) _ rfl _ _ 70 rfl 9 9 Tryd.underlying70 Tryd.underlying9 (⟨#[]⟩:ByteArray) (str_zero _) bm M rfl HM.out nn rfl _ HU.out ?_)
     | (go_at_call 24;go_loud ((with_reducible refine (HRC2.out _ (GOK.below HG.out (be HB.out)) (Kd.C_below HR.out (be HB.out))).mono ?_);rintro e wr2 ⟨rfl,hb⟩;have HB_:=Aside0.mk (below_step (be HB.out) hb);have B3_:=Aside0.mk (bb B3 hb);have B9_:=Aside0.mk (bb B9 hb);have HM_:=Aside0.mk (MapAt.over HM.out hb rfl);clear HB B3 B9 HM hb;have HB:=HB_;have B3:=B3_;have B9:=B9_;have HM:=HM_;clear HB_ B3_ B9_ HM_;(try clear hz3 hf3 hc0 hc1 hc2 he0 he1 he2);have ⟨hz3,hf3⟩:=Yc1 B3.out;have ⟨hc0,hc1,hc2,he0,he1,he2⟩:=Yc3 B9.out))
     | (go_at_call 45;(with_reducible refine (sumc TT wd _ (by have:=HTZ.out;omega)).mono ?_);rintro e ws ⟨rfl,hb⟩;have HB_:=Aside0.mk (below_step (be HB.out) hb);have B3_:=Aside0.mk (bb B3 hb);have B9_:=Aside0.mk (bb B9 hb);have HM_:=Aside0.mk (MapAt.over HM.out hb rfl);clear HB B3 B9 HM hb;have HB:=HB_;have B3:=B3_;have B9:=B9_;have HM:=HM_;clear HB_ B3_ B9_ HM_;(try clear hz3 hf3 hc0 hc1 hc2 he0 he1 he2);have ⟨hz3,hf3⟩:=Yc1 B3.out;have ⟨hc0,hc1,hc2,he0,he1,he2⟩:=Yc3 B9.out)
     | ((with_reducible refine gd 88 rfl ?_);refine wpList_bytes _ rfl _ rfl _ rfl ?_;intro bb_ cc_ wb hcell hlt hb;have HCELL:=Aside0.mk hcell;have HLT:=Aside0.mk hlt;clear hcell hlt;have HB_:=Aside0.mk (below_step (be HB.out) hb);have B3_:=Aside0.mk (bb B3 hb);have B9_:=Aside0.mk (bb B9 hb);have HM_:=Aside0.mk (MapAt.over HM.out hb rfl);clear HB B3 B9 HM hb;have HB:=HB_;have B3:=B3_;have B9:=B9_;have HM:=HM_;clear HB_ B3_ B9_ HM_;(try clear hz3 hf3 hc0 hc1 hc2 he0 he1 he2);have ⟨hz3,hf3⟩:=Yc1 B3.out;have ⟨hc0,hc1,hc2,he0,he1,he2⟩:=Yc3 B9.out)
     | (go_at_call 44;(with_reducible refine (HHT.out bb_ cc_ _ (by have:=HS82.out;omega) HCELL.out HLT.out).mono ?_);rintro e wh ⟨rfl,hb⟩;clear HCELL HLT;have HB_:=Aside0.mk (below_step (be HB.out) hb);have B3_:=Aside0.mk (bb B3 hb);have B9_:=Aside0.mk (bb B9 hb);have HM_:=Aside0.mk (MapAt.over HM.out hb rfl);clear HB B3 B9 HM hb;have HB:=HB_;have B3:=B3_;have B9:=B9_;have HM:=HM_;clear HB_ B3_ B9_ HM_;(try clear hz3 hf3 hc0 hc1 hc2 he0 he1 he2);have ⟨hz3,hf3⟩:=Yc1 B3.out;have ⟨hc0,hc1,hc2,he0,he1,he2⟩:=Yc3 B9.out)
     | (at_mapUpdate;go_loud (refine wpList_store_M (enc:=Value.string) _ rfl _ _ _ 70 rfl 9 9 Tryd.underlying70 Tryd.underlying9 bm M rfl HM.out nn rfl _ rfl ?_;intro wm hM hg hs;have HM2:=Aside0.mk hM;have HB_:=Aside0.mk (below_own HB.out hg GM.out);have B3_:=Aside0.mk (blk_grown B3.out hg (ne_some N3M.out));clear HB B3 HM hM hg hs;have HB:=HB_;have B3:=B3_;clear HB_ B3_)))
     go_roundg (gk - 1)
     case measure=>omega
     case rel=>exact ⟨i+1,_,by first|rw [HW1.out]|exact congrArg (Value.int .i64) (by omega),⟨by omega⟩,⟨HI3.out⟩,⟨by have h1:=HML.out;have h2:=HLN.out;omega⟩,HM2,B3,HB⟩
 have c1:decide ((i:Int)<(l.length:Int))=false:=decide_eq_false (by omega)
 have c3:decide (i<l.length)=false:=decide_eq_false hi
 have HI2:=HI.out
 rw [List.take_of_length_le (by omega)] at HI2
 have HTX:=Aside0.mk (lineInv_text HI2)
 have HVS:=Aside0.mk (show ∀ n,n ∈ keysS (M.map (·.1))→(mget (⟨#[]⟩:ByteArray) n M).size≤146 from fun n hn=>by
  rw [keysS_mem,HI2.1] at hn
  rw [HI2.2.1 n hn]
  obtain ⟨e,he,rfl⟩:=List.mem_map.1 hn
  have h1:=(lineOf_size wd (dirT wd d) (subT l dir) (firstB e.f0)).1
  have h2:=first_size e.f0
  have h3:=(HZR.out e he).1
  omega)
 have HKL:=Aside0.mk (show (keysS (M.map (·.1))).length≤100 from by
  have h1:=keysS_len (M.map (·.1))
  have h2:=HML.out
  have h3:=HLEN.out
  rw [List.length_map] at h1
  omega)
 have HMB:=Aside0.mk (show M.length≤100 from by have h2:=HML.out;have h3:=HLEN.out;omega)
 clear HI HI2 HK hik hi
 go_wp2_with (go_at_call 46;go_loud (refine (keysString_calls Value.string [(bm,M)] ⟨wr.heap.size,0,none⟩ 1 _ (cell_1 bm 70 M wr) (fun i h=>by obtain rfl:i=0:=(by simpa using h);exact HM.out.alloc _) (by simp) (by simp [sizeK];have:=HMB.out;omega)).mono ?_;rintro e w4 ⟨v,rfl,hR,hb⟩;rw [allK_1] at hR;obtain ⟨A,cp,rfl⟩:=Kd.R_slice hR;have HR4:=Aside0.mk hR;have HB2:=Aside0.mk (below_step (below_alloc HB.out _) hb);have HM4:=Aside0.mk ((HM.out.alloc _).below hb (HM.out.alloc _).lt);clear hR hb HB HM B3 hz3 hf3))
 generalize hks:keysS (M.map (·.1))=ks at HTX HVS HKL HR4 ⊢
 clear hks
 go_loopg [16,108] (ks.length) (fun kq s16 s108 w' => ∃ (i:Nat) (out:ByteArray),s16 = .string out∧s108 = .int .i64 (i:Int)∧Aside0 (kq+i=ks.length)∧Aside0 (out=gather ((ks.map fun n=>mget (⟨#[]⟩:ByteArray) n M).take i))∧Aside0 (out.size≤i*146)∧Aside0 (Below w4.heap.size w4 w'))
 case atStart=>exact ⟨0,⟨#[]⟩,rfl,rfl,⟨by omega⟩,⟨by rw [List.take_zero];rfl⟩,⟨Nat.zero_le _⟩,⟨Below.refl _ _⟩⟩
 case round =>
 clear c1 c3
 obtain ⟨i,out,rfl,rfl,HK,HO,HOZ,HB5⟩:=hrel
 have hik:=HK.out
 by_cases hi:i<ks.length
 ·have c1:decide ((i:Int)<(ks.length:Int))=true:=decide_eq_true (by omega)
  have c2:decide (0≤(i:Int))=true:=decide_eq_true (by omega)
  have c3:decide (i<ks.length)=true:=decide_eq_true hi
  obtain ⟨ad,e1,hx1⟩:=Kd.at_string (Kd.C_below (Kd.R_reads' HR4.out).2.2 HB5.out) (i:Int) (by omega) (by omega)
  cases e1
  rw [rd_eq _ hi,Int.toNat_natCast] at hx1
  have HV:=Aside0.mk (HVS.out ks[i] (List.getElem_mem hi))
  have HM5:=Aside0.mk (MapAt.over HM4.out HB5.out rfl)
  have HO2:=Aside0.mk (show out++mget (⟨#[]⟩:ByteArray) ks[i] M=gather ((ks.map fun n=>mget (⟨#[]⟩:ByteArray) n M).take (i+1)) from by
   rw [gather_next _ i (by rw [List.length_map];exact hi),←HO.out,List.getElem_map])
  generalize ks[i]=kk at hx1 HV HO2
  generalize hmv:mget (⟨#[]⟩:ByteArray) kk M=mv at HV HO2
  have HU:=Aside0.mk (show Value.string (mget (⟨#[]⟩:ByteArray) kk M) = .string mv from by rw [hmv])
  clear hmv
  have y_:out.size+mv.size≤9223372036854775807:=by have h1:=HOZ.out;have h2:=HV.out;have h3:=HKL.out;omega
  have ya:=eq_true y_
  have yb:decide (out.size+mv.size≤9223372036854775807)=true:=decide_eq_true y_
  have yc:(9223372036854775807<out.size+mv.size)=False:=eq_false (Nat.not_lt.2 y_)
  clear y_
  go_wp2_with (at_lookup;refine wpList_look_M (enc:=Value.string) _ rfl _ _ 70 rfl 9 9 Tryd.underlying70 Tryd.underlying9 (⟨#[]⟩:ByteArray) (str_zero _) bm M rfl HM5.out kk rfl _ HU.out ?_)
  go_roundg (gk - 1)
  case measure=>omega
  case rel=>exact ⟨i+1,_,rfl,by first|(rw [show wrap64 ((i:Int)+1)=((i+1:Nat):Int) from by have:=HKL.out;unfold wrap64;omega])|exact congrArg (Value.int .i64) (by omega),⟨by omega⟩,HO2,⟨by rw [ByteArray.size_append];have h1:=HOZ.out;have h2:=HV.out;omega⟩,HB5⟩
 ·have c1:decide ((i:Int)<(ks.length:Int))=false:=decide_eq_false (by omega)
  have c3:decide (i<ks.length)=false:=decide_eq_false hi
  have HO2:=HO.out
  rw [List.take_of_length_le (by rw [List.length_map];omega),HTX.out] at HO2
  have HO3:=Aside0.mk HO2
  clear HO HO2
  go_wp2
  go_ret
  exact ⟨by rw [HO3.out];rfl,below_step HB2.out HB5.out⟩
theorem impl_dirText.calls (A0_0:Option Addr) (c0_0:Nat) (l0_0:List S55) (a1:ByteArray) (a2:Int) (r:ByteArray) (w:World) (hg:GOK w) (hr0_0:Kd.C k55 w A0_0 l0_0.length l0_0) (hc0_0:l0_0.length≤c0_0) (h:impl_dirText.f l0_0 a1 a2=some r) :
  Calls Tryd.prog 24 #[.agg #[.slice A0_0 l0_0.length c0_0],.string a1,.int .i64 a2] w fun e w'=>e = .returned (.string r)∧Below w.heap.size w w':=by
 unfold impl_dirText.f at h
 split at h
 ·rename_i hc
  obtain rfl:=Option.some.inj h
  refine impl_dirText.at a2 hc.2.1 199 A0_0 c0_0 l0_0 a1 w hg hr0_0 hc0_0 hc.1 hc.2.2 (fun e he => ?_)
  have h1:=(subT_size (dir:=a1) (m:=126) (fun e he=>⟨treeOk_size' hc.1 e he,(entryOk_path (((treeOk_iff l0_0).1 hc.1).2.1 e he)).2⟩) e he).1
  have h2:=slashes_le e
  omega
 ·cases h


end Go.Proofs.YthfpoacindblgaaDoor.P


namespace Go.Proofs.YthfpoacindblgaaDoor.P
open Go.RowKit Go.Proofs.YthfpoacindblgaaDoorW.PrintWords Go.Proofs.YthfpoacindblgaaDoorW.PrintLast Go.Proofs.YthfpoacindblgaaDoorW.PrintMore
attribute [local go_sem] max2_int min2_int max_two min_two max_three min_three max_four min_four
set_option linter.unusedVariables false
set_option linter.unusedSimpArgs false

/- Walked by hand. -/
open Go.Proofs.YthfpoacindblgaaDoor.Pure Go.ChangeMaps Go.MapKept
def impl_Prove.D (l:List S55) (path:ByteArray) (wd:Int):Nat→ByteArray:=fun i=>dirT wd 200 (subT l (path.extract 0 i))
def impl_Prove.text (o:Option S55):ByteArray:=match o with
 | some e=>e.f1
 | none=>⟨#[]⟩
def impl_Prove.good (l:List S55) (path:ByteArray) (wd:Int):List ByteArray×Bool×ByteArray:=(dirT wd 200 l :: dirsG (impl_Prove.D l path wd) path path.size 0,(atF l path).isSome,impl_Prove.text (atF l path))
def impl_Prove.f (l:List S55) (path:ByteArray) (wd:Int):Option (List ByteArray×Bool×ByteArray):=if (∀ e ∈ l,e.f0.size≤1048576)∧path.size≤1048576 then some (if treeOk l=true∧pathOk path false=true∧(1≤wd∧wd≤8) then impl_Prove.good l path wd else ([],false,⟨#[]⟩)) else none
section
variable {P:Program} {ops:Array Oper} {rest:List Oper} {o:Oper} {a:Act} {Q:Exit→Act→World→Prop}
theorem next_str (w:World) (r:Nat) (s:ByteArray) (pos:Nat) (ty:TypeId) (h:w.heap[r]? = some (.stringIter s pos)) (hp:pos<s.size) (ha:(s[pos]'hp).toNat<128) :
  (Instr.next (.pointer (some ⟨r,0,none⟩)) true ty).run P w = .ok (.tuple #[.bool true,.int .i64 pos,.int .i32 (s[pos]'hp).toNat]) (setBlock w r (.stringIter s (pos+1))):=by
 simp only [Instr.next,getObj,setObj,Sem.run_bind,Sem.run,h,Result.andThen,hp,if_true,decode_ascii s pos hp ha]
 simp [goInt,Sem.run,setBlock,h]
theorem next_str_end (w:World) (r:Nat) (s:ByteArray) (pos:Nat) (ty:TypeId) (h:w.heap[r]? = some (.stringIter s pos)) (hp:¬ pos<s.size) :
  (Instr.next (.pointer (some ⟨r,0,none⟩)) true ty).run P w = .ok (.tuple #[.bool false]) w:=by
 simp [Instr.next,getObj,Sem.run,h,hp]
/-- A range over a text begins. -/
theorem wpList_range_S (w:World) (hg:o.guard=none) (m:Operand) (t:TypeId) (hop:o.op=Op.range t m) (ht:P.underlying t=some .string) (s:ByteArray) (hm:a.eval m = .string s)
  (hK:∀ r w',r=w.heap.size→w'.heap[r]? = some (.stringIter s 0)→Below w.heap.size w w'→wpList P ops Q rest (a.put o.dst (.pointer (some ⟨r,0,none⟩))) w'):wpList P ops Q (o :: rest) a w:=by
 refine wpList_plain hg fun K' hK' => ?_
 have hrun:=run_range_string (P:=P) w t s ht
 unfold Oper.wp
 simp [execOp,hop,hm,hrun,Result.andThen]
 exact hK' _ _ (hK _ _ rfl (World.iter_heap w s 0) ((Below.refl _ w).alloc (Nat.le_refl _) _))
/-- Its next byte, or its end. -/
theorem wpList_next_S (w:World) (hg:o.guard=none) (it:Operand) (hop:o.op=Op.next it true) (r:Nat) (s:ByteArray) (pos:Nat) (hit:a.eval it = .pointer (some ⟨r,0,none⟩)) (h:w.heap[r]? = some (.stringIter s pos))
  (hMore:∀ (hp:pos<s.size) w',w'.heap[r]? = some (.stringIter s (pos+1))→w.grownBy w' (some r)→w'.heap.size=w.heap.size→wpList P ops Q rest (a.put o.dst (.tuple #[.bool true,.int .i64 pos,.int .i32 (s[pos]'hp).toNat])) w')
  (hDone:¬ pos<s.size→wpList P ops Q rest (a.put o.dst (.tuple #[.bool false])) w) (ha:∀ i,(hi:i<s.size)→(s[i]'hi).toNat<128):wpList P ops Q (o :: rest) a w:=by
 refine wpList_plain hg fun K' hK' => ?_
 unfold Oper.wp
 by_cases hp:pos<s.size
 ·have hrun:=next_str (P:=P) w r s pos o.type h hp (ha pos hp)
  have hset:=heap_set (o':=.stringIter s (pos+1)) h
  simp [execOp,hop,hit,hrun,Result.andThen]
  exact hK' _ _ (hMore hp _ hset.1 ⟨rfl,rfl,rfl,by simp [setBlock],fun i _ hi=>hset.2 i (fun e1=>hi (by rw [e1]))⟩ (by simp [setBlock]))
 ·have hrun:=next_str_end (P:=P) w r s pos o.type h hp
  simp [execOp,hop,hit,hrun,Result.andThen]
  exact hK' _ _ (hDone hp)
end
theorem vtc (A0:Option Addr) (c0:Nat) (l:List S55) (b:Bool) (w:World) (hg:GOK w) (hr:Kd.C k55 w A0 l.length l) (hc:l.length≤c0) (hz:∀ e ∈ l,e.f0.size≤1048576) (h:treeOk l=b) :
  Calls Tryd.prog 21 #[.agg #[.slice A0 l.length c0]] w fun e w'=>e = .returned (.bool b)∧Below w.heap.size w w':=by
 obtain ⟨k,hk⟩:=Ev.rounds (impl_ValidTree_ev l hz)
 exact impl_ValidTree.calls k A0 c0 l b w hg hr hc (by rw [←h];exact hk)
theorem vpc (s:ByteArray) (b:Bool) (w:World) (hg:GOK w) (hs:s.size≤1048576) (h:pathOk s false=b) :
  Calls Tryd.prog 22 #[.string s] w fun e w'=>e = .returned (.bool b)∧Below w.heap.size w w':=by
 obtain ⟨k,hk⟩:=Ev.rounds (impl_path_ev s hs)
 exact impl_ValidPath.calls k s b w hg (by rw [←h];exact hk)
theorem inc (x:Int) (b:Bool) (w:World) (h:decide (1≤x∧x≤8)=b) :
  Calls Tryd.prog 23 #[.int .i64 x,.int .i64 1,.int .i64 8] w fun e w'=>e = .returned (.bool b)∧Below w.heap.size w w':=by
 refine (impl_in.calls x 1 8 b w (by rw [←h];exact impl_in_eq x 1 8)).mono ?_
 rintro e w' ⟨he,hd⟩
 exact ⟨he,hd.below⟩
theorem dtc (A0:Option Addr) (c0:Nat) (l:List S55) (dir:ByteArray) (wd:Int) (r:ByteArray) (w:World) (hg:GOK w) (hr:Kd.C k55 w A0 l.length l) (hc:l.length≤c0) (ht:treeOk l=true) (hw:1≤wd∧wd≤8) (hd:dir.size≤126) (h:dirT wd 200 (subT l dir)=r) :
  Calls Tryd.prog 24 #[.agg #[.slice A0 l.length c0],.string dir,.int .i64 wd] w fun e w'=>e = .returned (.string r)∧Below w.heap.size w w' :=
 impl_dirText.calls A0 c0 l dir wd r w hg hr hc (by unfold impl_dirText.f;rw [if_pos ⟨ht,hw,hd⟩,h])
theorem fdc (A0:Option Addr) (c0:Nat) (l:List S55) (p:ByteArray) (w:World) (hr:Kd.C k55 w A0 l.length l) (hc:l.length≤c0) (ht:treeOk l=true) :
  ∃ (m:Nat) (ok:Bool),(ok=true → ∃ hm:m<l.length,atF l p=some l[m])∧(ok=false→atF l p=none) ∧
   ∀ w':World,Kd.C k55 w' A0 l.length l→Calls Tryd.prog 25 #[.agg #[.slice A0 l.length c0],.string p] w' fun e w2=>e = .returned (.tuple #[.int .i64 (m:Int),.bool ok])∧Below w'.heap.size w' w2:=by
 obtain ⟨m,ok,e,h1,h2⟩:=find_ev l p ht
 obtain ⟨k,hk⟩:=Ev.rounds e
 refine ⟨m,ok,fun ho => ?_,fun ho => ?_,fun w' hr'=>impl_find.calls k A0 c0 l p (m:Int) ok w' hr' hc hk⟩
 ·obtain ⟨hm,he⟩:=h1 ho
  refine ⟨hm,?_⟩
  have:l[m].f0=p:=str_eq he
  rw [←this]
  exact atF_some (treeOk_fit ht).asc (List.getElem_mem hm)
 ·unfold atF
  rw [List.find?_eq_none]
  intro x hx
  obtain ⟨i,hi,rfl⟩:=List.getElem_of_mem hx
  simpa using h2 ho i hi
set_option maxHeartbeats 4000000 in
set_option maxRecDepth 100000 in
theorem impl_Prove.bad (A0_0:Option Addr) (c0_0:Nat) (l0_0:List S55) (a1:ByteArray) (a2:Int) (w:World) (hg:GOK w) (hr0_0:Kd.C k55 w A0_0 l0_0.length l0_0) (hc0_0:l0_0.length≤c0_0) (hz:∀ e ∈ l0_0,e.f0.size≤1048576) (hp:a1.size≤1048576) (h:¬ (treeOk l0_0=true∧pathOk a1 false=true∧(1≤a2∧a2≤8))) :
  Calls Tryd.prog 7 #[.agg #[.slice A0_0 l0_0.length c0_0],.string a1,.int .i64 a2] w fun e w' => ∃ v0_:Value,e = .returned (.agg #[v0_,.bool false,.string (⟨#[]⟩:ByteArray)])∧Kd.R Kd.string 9 w' w.heap.size (fun k_=>(w.heap.size≤k_)) v0_ ([]:List ByteArray)∧Below w.heap.size w w':=by
 have hu32:=Tryd.underlying32
 have hu28:=Tryd.underlying28
 have HG:=Aside0.mk hg
 have HR:=Aside0.mk hr0_0
 have HC0:=Aside0.mk hc0_0
 have HZ:=Aside0.mk hz
 have HP:=Aside0.mk hp
 have HB:=Aside0.mk (Below.refl w.heap.size w)
 clear hg hr0_0 hc0_0 hz hp
 have hcase:(treeOk l0_0=false)∨(treeOk l0_0=true∧pathOk a1 false=false)∨(treeOk l0_0=true∧pathOk a1 false=true∧decide (1≤a2∧a2≤8)=false):=by
  cases h1:treeOk l0_0 with
  | false=>exact .inl rfl
  | true =>
   cases h2:pathOk a1 false with
   | false=>exact .inr (.inl ⟨rfl,rfl⟩)
   | true=>exact .inr (.inr ⟨rfl,rfl,decide_eq_false (fun h3=>h ⟨h1,h2,h3⟩)⟩)
 clear h
 rcases hcase with h1|⟨h1,h2⟩|⟨h1,h2,h3⟩
 all_goals have H1:=Aside0.mk h1
 all_goals (try have H2:=Aside0.mk h2)
 all_goals (try have H3:=Aside0.mk h3)
 all_goals (try clear h3)
 all_goals (try clear h2)
 all_goals clear h1
 all_goals go_enter Tryd.func7,Tryd.ntmps7
 all_goals go_wp2_with (first
  | ((with_reducible refine gd 3 rfl ?_);refine bx 3 32 (#[.slice A0_0 l0_0.length c0_0]) ?_;intro b3 hg w1 hbox hb;have G3:=Aside0.mk (bs hg (be HB.out));have HB_:=Aside0.mk (below_step (be HB.out) hb);clear HB;have HB:=HB_;clear HB_;have B3:=Aside0.mk hbox;clear hb hbox hg;have ⟨hz3,hf3⟩:=Yc1 B3.out)
  | ((with_reducible refine gd 6 rfl ?_);refine bx 6 28 (#[.slice none 0 0,.bool false,.string (⟨#[]⟩:ByteArray)]) ?_;intro b6 hg w2 hbox hb;have G6:=Aside0.mk (bs hg (be HB.out));have HB_:=Aside0.mk (below_step (be HB.out) hb);have B3_:=Aside0.mk (bb B3 hb);clear HB B3 hz3 hf3;have HB:=HB_;have B3:=B3_;clear HB_ B3_;have B6:=Aside0.mk hbox;clear hb hbox hg;have ⟨hz3,hf3⟩:=Yc1 B3.out;have ⟨hc0,hc1,hc2,he0,he1,he2⟩:=Yc3 B6.out)
  | (go_at_call 21;(with_reducible refine (vtc A0_0 c0_0 l0_0 _ _ (GOK.below HG.out (be HB.out)) (Kd.C_below HR.out (be HB.out)) HC0.out HZ.out H1.out).mono ?_);rintro e wo ⟨rfl,hb⟩;have HB_:=Aside0.mk (below_step (be HB.out) hb);have B3_:=Aside0.mk (bb B3 hb);have B6_:=Aside0.mk (bb B6 hb);clear HB B3 B6 hb hz3 hf3 hc0 hc1 hc2 he0 he1 he2;have HB:=HB_;have B3:=B3_;have B6:=B6_;clear HB_ B3_ B6_;have ⟨hz3,hf3⟩:=Yc1 B3.out;have ⟨hc0,hc1,hc2,he0,he1,he2⟩:=Yc3 B6.out)
  | (go_at_call 22;(with_reducible refine (vpc a1 _ _ (GOK.below HG.out (be HB.out)) HP.out H2.out).mono ?_);rintro e wo ⟨rfl,hb⟩;have HB_:=Aside0.mk (below_step (be HB.out) hb);have B3_:=Aside0.mk (bb B3 hb);have B6_:=Aside0.mk (bb B6 hb);clear HB B3 B6 hb hz3 hf3 hc0 hc1 hc2 he0 he1 he2;have HB:=HB_;have B3:=B3_;have B6:=B6_;clear HB_ B3_ B6_;have ⟨hz3,hf3⟩:=Yc1 B3.out;have ⟨hc0,hc1,hc2,he0,he1,he2⟩:=Yc3 B6.out)
  | (go_at_call 23;(with_reducible refine (inc a2 _ _ H3.out).mono ?_);rintro e wo ⟨rfl,hb⟩;have HB_:=Aside0.mk (below_step (be HB.out) hb);have B3_:=Aside0.mk (bb B3 hb);have B6_:=Aside0.mk (bb B6 hb);clear HB B3 B6 hb hz3 hf3 hc0 hc1 hc2 he0 he1 he2;have HB:=HB_;have B3:=B3_;have B6:=B6_;clear HB_ B3_ B6_;have ⟨hz3,hf3⟩:=Yc1 B3.out;have ⟨hc0,hc1,hc2,he0,he1,he2⟩:=Yc3 B6.out))
 all_goals refine bodyPost_ret (results_cell_row rfl _ _ b6 28 #[.slice none 0 0,.bool false,.string (⟨#[]⟩:ByteArray)] (0,0) _ rfl (bp B6.out) Tryd.underlying28 rfl (by kernel_rfl)) rfl ?_
 all_goals exact ⟨_,Ye2,nl,(bf HB.out)⟩
/-- What the row of directories may lie in, while the call goes on. -/
def impl_Prove.ok (n b3 b6 b7 bi:Nat):Nat→Prop:=fun k=>n≤k∧k≠b3∧k≠b6∧k≠b7∧k≠bi
set_option maxHeartbeats 8000000 in
set_option maxRecDepth 100000 in
theorem impl_Prove.main (A0_0:Option Addr) (c0_0:Nat) (l0_0:List S55) (a1:ByteArray) (a2:Int) (w:World) (hg:GOK w) (hr0_0:Kd.C k55 w A0_0 l0_0.length l0_0) (hc0_0:l0_0.length≤c0_0) (hz:∀ e ∈ l0_0,e.f0.size≤1048576) (hp:a1.size≤1048576) (h1:treeOk l0_0=true) (h2:pathOk a1 false=true) (h3:1≤a2∧a2≤8) :
  Calls Tryd.prog 7 #[.agg #[.slice A0_0 l0_0.length c0_0],.string a1,.int .i64 a2] w fun e w' => ∃ v0_:Value,e = .returned (.agg #[v0_,.bool (atF l0_0 a1).isSome,.string (impl_Prove.text (atF l0_0 a1))])∧Kd.R Kd.string 9 w' w.heap.size (fun k_=>(w.heap.size≤k_)) v0_ (impl_Prove.good l0_0 a1 a2).1∧Below w.heap.size w w':=by
 have hu32:=Tryd.underlying32
 have hu28:=Tryd.underlying28
 have hu46:=Tryd.underlying55
 have HG:=Aside0.mk hg
 have HR:=Aside0.mk hr0_0
 have HC0:=Aside0.mk hc0_0
 have HZ:=Aside0.mk hz
 have HP:=Aside0.mk hp
 have HB:=Aside0.mk (Below.refl w.heap.size w)
 have H1:=Aside0.mk h1
 have H2:=Aside0.mk h2
 have H3:=Aside0.mk (decide_eq_true h3)
 have HW:=Aside0.mk h3
 have HA:=Aside0.mk (pathOk_ascii h2)
 have HPS:=Aside0.mk (pathOk_size h2)
 obtain ⟨m,ok,hf1,hf2,hfc⟩:=fdc A0_0 c0_0 l0_0 a1 w hr0_0 hc0_0 h1
 obtain ⟨r3,hr3⟩:∃ r,impl_Prove.text (atF l0_0 a1)=r:=⟨_,rfl⟩
 have hok:(atF l0_0 a1).isSome=ok:=by
  cases ok with
  | false=>rw [hf2 rfl];rfl
  | true =>
   obtain ⟨_,e⟩:=hf1 rfl
   rw [e]
   rfl
 have HF1:=Aside0.mk (show ok=true → ∃ hm:m<l0_0.length,l0_0[m].f1=r3 from fun h=>by
  obtain ⟨hm,e⟩:=hf1 h
  rw [e] at hr3
  exact ⟨hm,hr3⟩)
 have HF2:=Aside0.mk (show ok=false→r3=(⟨#[]⟩:ByteArray) from fun h=>by
  rw [hf2 h] at hr3
  exact hr3.symm)
 rw [hr3,hok]
 clear hr3 hok
 have HFC:=Aside0.mk hfc
 have HD0:=Aside0.mk (show dirT a2 200 (subT l0_0 (⟨#[]⟩:ByteArray))=dirT a2 200 l0_0 from by rw [show subT l0_0 (⟨#[]⟩:ByteArray)=l0_0 from if_pos (by rw [Lib.toList_data])])
 clear hg hr0_0 hc0_0 hz hp h1 h2 h3 hf1 hf2 hfc
 obtain ⟨L,hL⟩:∃ L,(impl_Prove.good l0_0 a1 a2).1=L:=⟨_,rfl⟩
 rw [hL]
 have HL:=Aside0.mk (show [dirT a2 200 l0_0]++dirsG (impl_Prove.D l0_0 a1 a2) a1 a1.size 0=L from hL)
 clear hL
 go_enter Tryd.func7,Tryd.ntmps7
 go_upto_block 0 with (first
  | ((with_reducible refine gd 3 rfl ?_);refine bx 3 32 (#[.slice A0_0 l0_0.length c0_0]) ?_;intro b3 hg w1 hbox hb;have G3:=Aside0.mk (bs hg (be HB.out));have HB_:=Aside0.mk (below_step (be HB.out) hb);clear HB;have HB:=HB_;clear HB_;have B3:=Aside0.mk hbox;clear hb hbox hg;have ⟨hz3,hf3⟩:=Yc1 B3.out)
  | ((with_reducible refine gd 6 rfl ?_);refine bx 6 28 (#[.slice none 0 0,.bool false,.string (⟨#[]⟩:ByteArray)]) ?_;intro b6 hg w2 hbox hb;have G6:=Aside0.mk (bs hg (be HB.out));have N36:=Aside0.mk (show b3≠b6 from by have:=blk_lt B3.out;omega);have HB_:=Aside0.mk (below_step (be HB.out) hb);have B3_:=Aside0.mk (bb B3 hb);clear HB B3 hz3 hf3;have HB:=HB_;have B3:=B3_;clear HB_ B3_;have B6:=Aside0.mk hbox;clear hb hbox hg;have ⟨hz3,hf3⟩:=Yc1 B3.out)
  | (go_at_call 21;(with_reducible refine (vtc A0_0 c0_0 l0_0 _ _ (GOK.below HG.out (be HB.out)) (Kd.C_below HR.out (be HB.out)) HC0.out HZ.out H1.out).mono ?_);rintro e wo ⟨rfl,hb⟩;have HB_:=Aside0.mk (below_step (be HB.out) hb);have B3_:=Aside0.mk (bb B3 hb);have B6_:=Aside0.mk (bb B6 hb);clear HB B3 B6 hb hz3 hf3;have HB:=HB_;have B3:=B3_;have B6:=B6_;clear HB_ B3_ B6_;have ⟨hz3,hf3⟩:=Yc1 B3.out)
  | (go_at_call 22;(with_reducible refine (vpc a1 _ _ (GOK.below HG.out (be HB.out)) HP.out H2.out).mono ?_);rintro e wo ⟨rfl,hb⟩;have HB_:=Aside0.mk (below_step (be HB.out) hb);have B3_:=Aside0.mk (bb B3 hb);have B6_:=Aside0.mk (bb B6 hb);clear HB B3 B6 hb hz3 hf3;have HB:=HB_;have B3:=B3_;have B6:=B6_;clear HB_ B3_ B6_;have ⟨hz3,hf3⟩:=Yc1 B3.out)
  | (go_at_call 23;(with_reducible refine (inc a2 _ _ H3.out).mono ?_);rintro e wo ⟨rfl,hb⟩;have HB_:=Aside0.mk (below_step (be HB.out) hb);have B3_:=Aside0.mk (bb B3 hb);have B6_:=Aside0.mk (bb B6 hb);clear HB B3 B6 hb hz3 hf3;have HB:=HB_;have B3:=B3_;have B6:=B6_;clear HB_ B3_ B6_;have ⟨hz3,hf3⟩:=Yc1 B3.out)
  | (go_at_call 24;(with_reducible refine (dtc A0_0 c0_0 l0_0 (⟨#[]⟩:ByteArray) a2 _ _ (GOK.below HG.out (be HB.out)) (Kd.C_below HR.out (be HB.out)) HC0.out H1.out HW.out (Nat.zero_le _) HD0.out).mono ?_);rintro e wo ⟨rfl,hb⟩;have HB_:=Aside0.mk (below_step (be HB.out) hb);have B3_:=Aside0.mk (bb B3 hb);have B6_:=Aside0.mk (bb B6 hb);clear HB B3 B6 hb hz3 hf3;have HB:=HB_;have B3:=B3_;have B6:=B6_;clear HB_ B3_ B6_;have ⟨hz3,hf3⟩:=Yc1 B3.out)
  | ((with_reducible refine gd 29 rfl ?_);refine Kd.R_lit Kd.string _ 9 ?hg (N:=29) ?hd (xs:=([dirT a2 200 l0_0]:List ByteArray)) (inner:=[.string (dirT a2 200 l0_0)]) (ok:=fun k=>w.heap.size≤k∧k≠b3∧k≠b6) (okp:=fun k=>w.heap.size≤k∧k≠b3∧k≠b6) ?hr ?hp (fun _ hk=>hk) ⟨below_size (be HB.out),by have:=blk_lt B3.out;omega,by have:=blk_lt B6.out;omega⟩ (be HB.out) (below_size (be HB.out)) (by simp) ?_;(case hd=>rfl);(case hg=>rfl);(case hr=>first|(go_simp;done)|(go_simp;rfl));(case hp=>exact (Reps.one (show Kd.M Kd.string _ _ _ (dirT a2 200 l0_0) [.string (dirT a2 200 l0_0)] from rfl) (Reps.none _ _)));intro v29 w29 ho hb hg_ hnew_;clear hnew_;have HB_:=Aside0.mk hb;have B3_:=Aside0.mk (blk_grown B3.out hg_ (by simp));have B6_:=Aside0.mk (blk_grown B6.out hg_ (by simp));have HO:=Aside0.mk ho;clear HB B3 B6 hb ho hg_ hz3 hf3;have HB:=HB_;have B3:=B3_;have B6:=B6_;clear HB_ B3_ B6_;have ⟨hz3,hf3⟩:=Yc1 B3.out;obtain ⟨Ao,co,eo⟩:=Kd.R_slice HO.out;subst eo)
  | ((with_reducible refine gd 7 rfl ?_);refine bx 7 28 (#[.slice none 0 0,.bool false,.string (⟨#[]⟩:ByteArray)]) ?_;intro b7 hg w7 hbox hb;have G7:=Aside0.mk (bs hg (be HB.out));have N7:=Aside0.mk (show b3≠b7∧b6≠b7 from by have h1:=blk_lt B3.out;have h2:=blk_lt B6.out;exact ⟨by omega,by omega⟩);have HO_:=Aside0.mk (Kd.R_below (Kd.R_mono (ok':=fun k=>w.heap.size≤k∧k≠b3∧k≠b6∧k≠b7) (Kd.R_bound HO.out) (fun k hk=>⟨hk.1.1,hk.1.2.1,hk.1.2.2,by have:=hk.2.2.1;omega⟩)) hb);have HB_:=Aside0.mk (below_step (be HB.out) hb);have B3_:=Aside0.mk (bb B3 hb);have B6_:=Aside0.mk (bb B6 hb);clear HB B3 B6 HO hz3 hf3;have HB:=HB_;have B3:=B3_;have B6:=B6_;have HO:=HO_;clear HB_ B3_ B6_ HO_;have B7:=Aside0.mk hbox;clear hb hbox hg;have ⟨hz3,hf3⟩:=Yc1 B3.out;have ⟨hc0,hc1,hc2,he0,he1,he2⟩:=Yc3 B7.out)
  | (have g_:=B7;clear g_;(with_reducible refine gate_store (t:=28) rfl ?_);go_loud (refine store_event (w1:=((w7.setCell ⟨b7,0,none⟩ (.slice Ao [dirT a2 200 l0_0].length co)).setCell ⟨b7,1,none⟩ (.bool false)).setCell ⟨b7,2,none⟩ (.string (⟨#[]⟩:ByteArray))) ?hg rfl ?hd ?hr ?_;(case hg=>rfl);(case hd=>rfl);(case hr=>first|(go_simp;done)|(go_simp;rfl));intro w8 hw;have S7:=dset3 B7.out hw;clear hw hc0 hc1 hc2 he0 he1 he2 hz3 hf3;have B3_:=Aside0.mk (blk_grown B3.out S7.2.1 (ne_some N7.out.1));have B6_:=Aside0.mk (blk_grown B6.out S7.2.1 (ne_some N7.out.2));have HO_:=Aside0.mk (Kd.R_grown HO.out S7.2.1 (fun k hk=>ne_some hk.2.2.2));have HB_:=Aside0.mk (below_own HB.out S7.2.1 G7.out);have B7_:=Aside0.mk S7.1;clear S7 HB B3 B6 B7 HO;have HB:=HB_;have B3:=B3_;have B6:=B6_;have BN:=B7_;have HO:=HO_;clear HB_ B3_ B6_ B7_ HO_;have ⟨hz3,hf3⟩:=Yc1 B3.out))
  | (at_range;refine wpList_range_S _ rfl _ _ rfl Tryd.underlying9 a1 rfl ?_;intro bi w9 hi hit hb;have GI:=Aside0.mk (bs hi (be HB.out));have NI:=Aside0.mk (show b3≠bi∧b6≠bi∧b7≠bi from by have h1:=blk_lt B3.out;have h2:=blk_lt B6.out;have h3:=blk_lt BN.out;exact ⟨by omega,by omega,by omega⟩);have HO_:=Aside0.mk (Kd.R_below (Kd.R_mono (ok':=impl_Prove.ok w.heap.size b3 b6 b7 bi) (Kd.R_bound HO.out) (fun k hk=>⟨hk.1.1,hk.1.2.1,hk.1.2.2.1,hk.1.2.2.2,by have:=hk.2.2.1;omega⟩)) hb);have HB_:=Aside0.mk (below_step (be HB.out) hb);have B3_:=Aside0.mk (bb B3 hb);have B6_:=Aside0.mk (bb B6 hb);have BN_:=Aside0.mk (bb BN hb);clear HB B3 B6 BN HO hz3 hf3;have HB:=HB_;have B3:=B3_;have B6:=B6_;have BN:=BN_;have HO:=HO_;clear HB_ B3_ B6_ BN_ HO_;have BI:=Aside0.mk hit;clear hit hb hi;have ⟨hz3,hf3⟩:=Yc1 B3.out))
 have HO0:=Aside0.mk (show Kd.R Kd.string 9 w9 w.heap.size (impl_Prove.ok w.heap.size b3 b6 b7 bi) (.slice Ao [dirT a2 200 l0_0].length co) [dirT a2 200 l0_0] from HO.out)
 clear HO
 have HO:=HO0
 clear HO0
 (try simp only [Act.put,List.setIfInBounds_toArray,List.set_cons_zero,List.set_cons_succ])
 go_cut [] (fun wx => ∃ (u:Value),Aside0 (Kd.R Kd.string 9 wx w.heap.size (impl_Prove.ok w.heap.size b3 b6 b7 bi) u L)∧Aside0 (wx.heap[b3]? = some (.cells #[.slice A0_0 l0_0.length c0_0] 32 (0,0)))∧Aside0 (wx.heap[b6]? = some (.cells #[.slice none 0 0,.bool false,.string (⟨#[]⟩:ByteArray)] 28 (0,0)))∧Aside0 (wx.heap[b7]? = some (.cells #[u,.bool false,.string (⟨#[]⟩:ByteArray)] 28 (0,0)))∧Aside0 (Below w.heap.size w wx))
 case first =>
  go_wp2_with fail
  go_loopg [] (a1.size) (fun kq w' => ∃ (i:Nat) (acc:List ByteArray) (u:Value),Aside0 (kq+i=a1.size)∧Aside0 (acc++dirsG (impl_Prove.D l0_0 a1 a2) a1 kq i=L)∧Aside0 (acc.length≤i+1)∧Aside0 (Kd.R Kd.string 9 w' w.heap.size (impl_Prove.ok w.heap.size b3 b6 b7 bi) u acc)∧Aside0 (w'.heap[b3]? = some (.cells #[.slice A0_0 l0_0.length c0_0] 32 (0,0)))∧Aside0 (w'.heap[b6]? = some (.cells #[.slice none 0 0,.bool false,.string (⟨#[]⟩:ByteArray)] 28 (0,0)))∧Aside0 (w'.heap[b7]? = some (.cells #[u,.bool false,.string (⟨#[]⟩:ByteArray)] 28 (0,0)))∧Aside0 (w'.heap[bi]? = some (.stringIter a1 i))∧Aside0 (Below w.heap.size w w'))
  case atStart=>exact ⟨0,_,_,⟨rfl⟩,HL,⟨Nat.le_refl _⟩,HO,B3,B6,BN,BI,HB⟩
  case round =>
  clear HO B3 B6 BN BI HB HL hz3 hf3
  obtain ⟨i,acc,u,HK,HL,HAL,HO,B3,B6,B7,BI,HB⟩:=hrel
  have ⟨hz3,hf3⟩:=Yc1 B3.out
  go_wp2_with (at_next;refine wpList_next_S _ rfl _ rfl bi a1 i rfl BI.out ?_ ?_ HA.out)
  ·intro hp w' hit hgr hs
   have hik:=HK.out
   have B3_:=Aside0.mk (blk_grown B3.out hgr (ne_some NI.out.1))
   have B6_:=Aside0.mk (blk_grown B6.out hgr (ne_some NI.out.2.1))
   have B7_:=Aside0.mk (blk_grown B7.out hgr (ne_some NI.out.2.2))
   have HO_:=Aside0.mk (Kd.R_grown HO.out hgr (fun k hk=>ne_some hk.2.2.2.2))
   have HB_:=Aside0.mk (below_own HB.out hgr GI.out)
   clear HB B3 B6 B7 HO BI hgr hs hz3 hf3
   have HB:=HB_;have B3:=B3_;have B6:=B6_;have B7:=B7_;have HO:=HO_;clear HB_ B3_ B6_ B7_ HO_
   have BI:=Aside0.mk hit
   clear hit
   have ⟨hz3,hf3⟩:=Yc1 B3.out
   have k1:decide (0≤(i:Int))=true:=decide_eq_true (by omega)
   have k2:decide ((i:Int)<(a1.size:Int))=true:=decide_eq_true (by omega)
   have k3:decide (i<a1.size)=true:=decide_eq_true hp
   have k5:decide ((i:Int)≤(a1.size:Int))=true:=decide_eq_true (by omega)
   have k6:decide (i≤a1.size)=true:=decide_eq_true (by omega)
   have k7:(i:Int)≤(a1.size:Int):=by omega
   have e1:((a1[i]'hp).toNat:Int)=bt a1 (i:Int):=by
    have:=bt_at a1 (i:Int) (by simpa using hp)
    simpa using this
   obtain ⟨k9,hk9⟩:∃ k9,gk=k9+1:=⟨gk - 1,by omega⟩
   have HL1:=HL.out
   rw [hk9,dirsG] at HL1
   clear HL
   by_cases h47:bt a1 (i:Int)=47
   ·rw [if_pos h47] at HL1
    have k4:(((a1[i]'hp).toNat:Int)==47)=true:=beq_iff_eq.mpr (e1.trans h47)
    have HEX:=Aside0.mk (show (a1.extract 0 i).size≤126 from by rw [ByteArray.size_extract];have:=HPS.out;omega)
    obtain ⟨d,hd⟩:∃ d,impl_Prove.D l0_0 a1 a2 i=d:=⟨_,rfl⟩
    rw [hd] at HL1
    have HD:=Aside0.mk (show dirT a2 200 (subT l0_0 (a1.extract 0 i))=d from hd)
    obtain ⟨eb,hE⟩:∃ b,d.toList.isEmpty=b:=⟨_,rfl⟩
    have HE:=Aside0.mk (show eb=true ↔ d.size=0 from by rw [←hE,List.isEmpty_iff,Lib.toList_data,←size_toList];exact List.length_eq_zero_iff.symm)
    have HLA:=Aside0.mk HL1
    clear hd HL1 e1 h47
    go_upto_region 8 with fail
    (try simp only [Act.put,List.setIfInBounds_toArray,List.set_cons_zero,List.set_cons_succ])
    go_cut [9] (fun s9 wx=>s9 = .string d∧Aside0 (Below w'.heap.size w' wx))
    case first =>
     have HJB:=Aside0.mk (Below.refl w'.heap.size w')
     go_region_held3 (fun wq=>wq.cell? ⟨b3,0,none⟩=some (.slice A0_0 l0_0.length c0_0)) (first|exact hq3|exact hz3|(exact (by go_simp))) (first|(go_at_call 24;(with_reducible refine (dtc A0_0 c0_0 l0_0 (a1.extract 0 i) a2 d _ (GOK.below HG.out (be HB.out)) (Kd.C_below HR.out (be HB.out)) HC0.out H1.out HW.out HEX.out HD.out).mono ?_);rintro e wj ⟨rfl,hb⟩;have HB_:=Aside0.mk (below_step (be HB.out) hb);have HJB_:=Aside0.mk (below_step (be HJB.out) hb);clear HB HJB;have HB:=HB_;have HJB:=HJB_;clear HB_ HJB_;have ⟨hq3,hqf3⟩:=Yc1 (blk_below B3.out HJB.out)))
     all_goals (go_wp2_with fail;go_meet)
     all_goals (case rel=>exact ⟨rfl,⟨be HJB.out⟩⟩)
    case rest =>
     obtain ⟨rfl,HJ⟩:=hcut
     have HB_:=Aside0.mk (below_step HB.out HJ.out)
     have B3_:=Aside0.mk (blk_below B3.out HJ.out)
     have B6_:=Aside0.mk (blk_below B6.out HJ.out)
     have B7_:=Aside0.mk (blk_below B7.out HJ.out)
     have BI_:=Aside0.mk (blk_below BI.out HJ.out)
     have HO_:=Aside0.mk (Kd.R_below HO.out HJ.out)
     clear HB B3 B6 B7 BI HO HJ hz3 hf3
     have HB:=HB_;have B3:=B3_;have B6:=B6_;have B7:=B7_;have BI:=BI_;have HO:=HO_
     clear HB_ B3_ B6_ B7_ BI_ HO_
     have ⟨hz3,hf3⟩:=Yc1 B3.out
     have ⟨hc0,hc1,hc2,he0,he1,he2⟩:=Yc3 B7.out
     cases eb with
     | true =>
      have hd0:=HE.out.1 rfl
      have HL1:=HLA.out
      rw [if_pos hd0,List.append_nil] at HL1
      rw [HL1] at HO
      go_wp2_with fail
      go_meet
      case rel=>exact ⟨u,HO,B3,B6,B7,HB⟩
     | false =>
      have hd0:¬ d.size=0:=fun h=>by have:=HE.out.2 h;cases this
      have HL1:=HLA.out
      rw [if_neg hd0] at HL1
      obtain ⟨y,hy⟩:∃ y,y=acc ++ [d]:=⟨_,rfl⟩
      have HLB:=Aside0.mk (show y++dirsG (impl_Prove.D l0_0 a1 a2) a1 k9 (i+1)=L from by rw [←HL1,hy];simp)
      have HYL:=Aside0.mk (show y.length≤i+1+1 from by rw [hy,List.length_append,List.length_singleton];have:=HAL.out;omega)
      have HY:=Aside0.mk hy
      clear HL1 hd0 HLA hy
      obtain ⟨Au,cu,eu⟩:=Kd.R_slice HO.out
      subst eu
      go_wp2_with (first|((with_reducible refine gate_builtin (b:=.append) (xs:=#[.tmp 49,.tmp 51]) rfl ?_);at_builtin;refine Kd.R_append Kd.string (w0:=w) w.heap.size rfl (.tmp 49) (.tmp 51) 26 9 (.string ⟨#[]⟩) 16 rfl Tryd.underlying26 info9 rfl (by decide) (by omega) (.slice Au acc.length cu) acc d [.string d] (impl_Prove.ok w.heap.size b3 b6 b7 bi) (fun _=>False) rfl rfl ?aP (fun _ hk=>hk.elim) ?aF ?aO ?aB ?aS ?aL ?_;(case aP=>exact rfl);(case aB=>exact (be HB.out));(case aF=>exact (fun k hk=>by have h1:=blk_lt B3.out;have h2:=blk_lt B6.out;have h3:=blk_lt B7.out;have h4:=blk_lt BI.out;have h5:=below_size HB.out;exact ⟨by omega,by omega,by omega,by omega,by omega⟩));(case aO=>exact HO.out);(case aS=>exact (below_size (be HB.out)));(case aL=>have h1:=HAL.out;have h2:=HPS.out;omega);intro v1 w1 ho hb hgr hat;rw [←HY.out] at ho;obtain ⟨A1,c1,ev⟩:=Kd.R_slice ho;subst ev;have NU:=Aside0.mk (show ∀ k,k ∈ [b3,b6,b7,bi]→some k≠(Value.slice Au acc.length cu).ownBlock from fun k hk e=>by have h1:=HO.out.1 k e.symm;simp only [List.mem_cons,List.not_mem_nil,or_false] at hk;rcases hk with rfl|rfl|rfl|rfl;exact h1.2.1 rfl;exact h1.2.2.1 rfl;exact h1.2.2.2.1 rfl;exact h1.2.2.2.2 rfl);have B3_:=Aside0.mk (blk_grown B3.out hgr (NU.out _ (by simp)));have B6_:=Aside0.mk (blk_grown B6.out hgr (NU.out _ (by simp)));have B7_:=Aside0.mk (blk_grown B7.out hgr (NU.out _ (by simp)));have BI_:=Aside0.mk (blk_grown BI.out hgr (NU.out _ (by simp)));clear HB B3 B6 B7 BI HO hat hgr NU hz3 hf3 hc0 hc1 hc2 he0 he1 he2;have HB:=Aside0.mk hb;have HO:=Aside0.mk ho;clear hb ho;have B3:=B3_;have B6:=B6_;have B7:=B7_;have BI:=BI_;clear B3_ B6_ B7_ BI_;have ⟨hz3,hf3⟩:=Yc1 B3.out;have ⟨hc0,hc1,hc2,he0,he1,he2⟩:=Yc3 B7.out))
      go_roundg k9
      case measure=>omega
      case rel=>exact ⟨i+1,y,.slice A1 y.length c1,⟨by omega⟩,HLB,HYL,⟨Kd.R_far HO.out (fun _ hk=>hk.2.2.2.1) _⟩,⟨blk_grown B3.out (grown_set _ _ _ _) (ne_some N7.out.1)⟩,⟨blk_grown B6.out (grown_set _ _ _ _) (ne_some N7.out.2)⟩,⟨blk_put B7.out 0 _ rfl⟩,⟨blk_grown BI.out (grown_set _ _ _ _) (ne_some NI.out.2.2.symm)⟩,⟨below_own HB.out (grown_set _ _ _ _) G7.out⟩⟩
   ·rw [if_neg h47] at HL1
    have k4:(((a1[i]'hp).toNat:Int)==47)=false:=beq_eq_false_iff_ne.mpr (fun h=>h47 (e1.symm.trans h))
    have HLA:=Aside0.mk HL1
    clear HL1 h47 e1
    go_wp2_with fail
    go_roundg k9
    case measure=>omega
    case rel=>exact ⟨i+1,acc,u,⟨by omega⟩,HLA,⟨by have:=HAL.out;omega⟩,HO,B3,B6,B7,BI,HB⟩
  ·intro hp
   replace hp:¬ i<a1.size:=by omega
   have hik:=HK.out
   have h0:gk=0:=by omega
   have HL1:=HL.out
   rw [h0,dirsG,List.append_nil] at HL1
   rw [HL1] at HO
   go_wp2_with fail
   go_meet
   case rel=>exact ⟨u,HO,B3,B6,B7,HB⟩
 case rest =>
  clear HO B3 B6 BN BI HB HL hz3 hf3
  obtain ⟨u,HO,B3,B6,B7,HB⟩:=hcut
  obtain ⟨Au,cu,eu⟩:=Kd.R_slice HO.out
  subst eu
  have ⟨hz3,hf3⟩:=Yc1 B3.out
  have ⟨hc0,hc1,hc2,he0,he1,he2⟩:=Yc3 B7.out
  have ⟨hd0,hd1,hd2,hg0,hg1,hg2⟩:=Yc3 B6.out
  cases ok with
  | false =>
   obtain rfl:=HF2.out rfl
   go_wp2_with (go_at_call 25;(with_reducible refine (HFC.out _ (Kd.C_below HR.out (be HB.out))).mono ?_);rintro e wj ⟨rfl,hb⟩;have HB_:=Aside0.mk (below_step (be HB.out) hb);have B3_:=Aside0.mk (bb B3 hb);have B6_:=Aside0.mk (bb B6 hb);have B7_:=Aside0.mk (bb B7 hb);have HO_:=Aside0.mk (Kd.R_below HO.out hb);clear HB B3 B6 B7 HO hb hz3 hf3 hc0 hc1 hc2 he0 he1 he2 hd0 hd1 hd2 hg0 hg1 hg2;have HB:=HB_;have B3:=B3_;have B6:=B6_;have B7:=B7_;have HO:=HO_;clear HB_ B3_ B6_ B7_ HO_;have ⟨hz3,hf3⟩:=Yc1 B3.out;have ⟨hc0,hc1,hc2,he0,he1,he2⟩:=Yc3 B7.out;have ⟨hd0,hd1,hd2,hg0,hg1,hg2⟩:=Yc3 B6.out)
   refine bodyPost_ret (results_cell_row rfl _ _ b6 28 #[.slice Au L.length cu,.bool false,.string (⟨#[]⟩:ByteArray)] (0,0) _ rfl (bp B6.out) Tryd.underlying28 rfl (by kernel_rfl)) rfl ?_
   exact ⟨_,rfl,Kd.R_mono (Kd.R_far (p:=⟨b6,2,none⟩) (Kd.R_far (p:=⟨b6,1,none⟩) (Kd.R_far (p:=⟨b6,0,none⟩) HO.out (fun _ hk=>hk.2.2.1) _) (fun _ hk=>hk.2.2.1) _) (fun _ hk=>hk.2.2.1) _) (fun _ hk=>hk.1),(bf HB.out)⟩
  | true =>
   obtain ⟨hm,hr3⟩:=HF1.out rfl
   obtain ⟨ad,e1,hy0⟩:=at_T55 HR.out (m:Int) (by omega) (by omega)
   subst e1
   obtain ⟨hy1,hy2,hy3⟩:=hy0
   rw [rdE_eq hm,Int.toNat_natCast,hr3] at hy2
   have hlt0:=World.block_lt_of_cell? _ _ hy2
   have hlt:(ad.add (m*3)).block<w.heap.size:=hlt0
   clear hlt0
   have HY:=Aside0.mk hy2
   have hne7:¬ (ad.add (m*3)).block=b7:=fun e=>by
    have h2:=G7.out
    rw [←e] at h2
    exact absurd hlt (Nat.not_lt.2 h2)
   have hne7':¬ b7=(ad.add (m*3)).block:=fun e=>hne7 e.symm
   have NB67:=Aside0.mk N7.out.2
   have NB76:=Aside0.mk N7.out.2.symm
   have k1:decide (0≤(m:Int))=true:=decide_eq_true (by omega)
   have k2:decide ((m:Int)<(l0_0.length:Int))=true:=decide_eq_true (by omega)
   have k3:decide (m<l0_0.length)=true:=decide_eq_true hm
   clear hy1 hy2 hy3 hlt hr3
   go_upto_region 13 with (go_at_call 25;(with_reducible refine (HFC.out _ (Kd.C_below HR.out (be HB.out))).mono ?_);rintro e wj ⟨rfl,hb⟩;have HB_:=Aside0.mk (below_step (be HB.out) hb);have B3_:=Aside0.mk (bb B3 hb);have B6_:=Aside0.mk (bb B6 hb);have B7_:=Aside0.mk (bb B7 hb);have HO_:=Aside0.mk (Kd.R_below HO.out hb);clear HB B3 B6 B7 HO hb hz3 hf3 hc0 hc1 hc2 he0 he1 he2 hd0 hd1 hd2 hg0 hg1 hg2;have HB:=HB_;have B3:=B3_;have B6:=B6_;have B7:=B7_;have HO:=HO_;clear HB_ B3_ B6_ B7_ HO_;have ⟨hz3,hf3⟩:=Yc1 B3.out;have ⟨hc0,hc1,hc2,he0,he1,he2⟩:=Yc3 B7.out;have ⟨hd0,hd1,hd2,hg0,hg1,hg2⟩:=Yc3 B6.out)
   have hy2:=(HB.out.cell (World.block_lt_of_cell? _ _ HY.out)).trans HY.out
   go_region
   all_goals
    clear hne7 hne7'
    have h67:=NB67.out
    have h76:=NB76.out
    go_wp2
    refine bodyPost_ret (results_cell_row rfl _ _ b6 28 #[.slice Au L.length cu,.bool true,.string r3] (0,0) _ rfl (bp B6.out) Tryd.underlying28 rfl (by kernel_rfl)) rfl ?_
    exact ⟨_,rfl,Kd.R_drew (Kd.R_mono (Kd.R_far (p:=⟨b6,2,none⟩) (Kd.R_far (p:=⟨b6,1,none⟩) (Kd.R_far (p:=⟨b6,0,none⟩) (Kd.R_far (p:=⟨b7,2,none⟩) (Kd.R_far (p:=⟨b7,1,none⟩) HO.out (fun _ hk=>hk.2.2.2.1) _) (fun _ hk=>hk.2.2.2.1) _) (fun _ hk=>hk.2.2.1) _) (fun _ hk=>hk.2.2.1) _) (fun _ hk=>hk.2.2.1) _) (fun _ hk=>hk.1)),(bf HB.out)⟩
theorem impl_Prove.calls (A0_0:Option Addr) (c0_0:Nat) (l0_0:List S55) (a1:ByteArray) (a2:Int) (r1:List ByteArray) (r2:Bool) (r3:ByteArray) (w:World) (hg:GOK w) (hr0_0:Kd.C k55 w A0_0 l0_0.length l0_0) (hc0_0:l0_0.length≤c0_0) (h:impl_Prove.f l0_0 a1 a2=some (r1,r2,r3)) :
  Calls Tryd.prog 7 #[.agg #[.slice A0_0 l0_0.length c0_0],.string a1,.int .i64 a2] w fun e w' => ∃ v0_:Value,e = .returned (.agg #[v0_,.bool r2,.string r3])∧Kd.R Kd.string 9 w' w.heap.size (fun _=>True) v0_ r1∧Below w.heap.size w w':=by
 unfold impl_Prove.f at h
 split at h
 ·rename_i hc
  have h':=Option.some.inj h
  by_cases hgd:treeOk l0_0=true∧pathOk a1 false=true∧(1≤a2∧a2≤8)
  ·rw [if_pos hgd] at h'
   have e1:(impl_Prove.good l0_0 a1 a2).1=r1:=by rw [h']
   have e2:(atF l0_0 a1).isSome=r2:=congrArg (fun x=>x.2.1) h'
   have e3:impl_Prove.text (atF l0_0 a1)=r3:=congrArg (fun x=>x.2.2) h'
   rw [←e1,←e2,←e3]
   refine (impl_Prove.main A0_0 c0_0 l0_0 a1 a2 w hg hr0_0 hc0_0 hc.1 hc.2 hgd.1 hgd.2.1 hgd.2.2).mono ?_
   rintro e w' ⟨v,h1,h2,h3⟩
   exact ⟨v,h1,Kd.R_mono h2 (fun _ _=>trivial),h3⟩
  ·rw [if_neg hgd] at h'
   obtain ⟨rfl,h2⟩:=Prod.mk.inj h'
   obtain ⟨rfl,rfl⟩:=Prod.mk.inj h2
   refine (impl_Prove.bad A0_0 c0_0 l0_0 a1 a2 w hg hr0_0 hc0_0 hc.1 hc.2 hgd).mono ?_
   rintro e w' ⟨v,h1,h2,h3⟩
   exact ⟨v,h1,Kd.R_mono h2 (fun _ _=>trivial),h3⟩
 ·cases h


end Go.Proofs.YthfpoacindblgaaDoor.P


namespace Go.Proofs.YthfpoacindblgaaDoor.P
open Go.RowKit Go.Proofs.YthfpoacindblgaaDoorW.PrintWords Go.Proofs.YthfpoacindblgaaDoorW.PrintLast Go.Proofs.YthfpoacindblgaaDoorW.PrintMore
attribute [local go_sem] max2_int min2_int max_two min_two max_three min_three max_four min_four
set_option linter.unusedVariables false
set_option linter.unusedSimpArgs false

def laws_FnExactProve.j0:Nat→ByteArray→Int→Bool→List (S61)→List ByteArray→Bool→ByteArray→List ByteArray→Bool→ByteArray→Option (Bool)
 | 0,_,_,_,_,_,_,_,_,_,_=>none
 | k+1,x1,x2,x53,cm,cn,co,cp,cq,bj,bm=>if x53=true then (some false) else ((laws_markProof.f k cq bj bm 1).bind fun bt490=>((laws_heldProof.f k bt490.2 bj bm 1).bind fun ao=>(if ao<0 then (some false) else (if ao=bt490.1 then ((laws_toTree.f k cm).bind fun aL=>((impl_Prove.f aL x1 x2).bind fun bt496=>((laws_eqProof.f k bt496.1 bt496.2.1 bt496.2.2 cn co cp).bind fun aM=>(if aM=true then ((laws_heldProof.f k bt490.2 bj bm 1).bind fun am=>(if am<0 then (some false) else (if am=bt490.1 then (some true) else (some false)))) else (some false))))) else (some false)))))
def laws_FnExactProve.f (k:Nat) (a7:List (S61)) (a1:ByteArray) (a2:Int):Option (Bool):=if (a1.size:Int)>1048576 then (some true) else ((laws_szTree.f k a7 1048576).bind fun aH=>(if aH<0 then (some true) else ((laws_toTree.f k a7).bind fun aG=>((spec_Prove.f k aG a1 a2).bind fun bt466=>((laws_toTree.f k a7).bind fun ad=>((impl_Prove.f ad a1 a2).bind fun bt476=>((laws_eqProof.f k bt476.1 bt476.2.1 bt476.2.2 bt466.1 bt466.2.1 bt466.2.2).bind fun aI=>(if aI=true then ((laws_toTree.f k a7).bind fun ax=>((laws_eqTree.f k ad ax).bind fun aJ=>(if aJ=true then ((laws_markTree.f k ad 1).bind fun bt487=>(if bt487.1<0 then (laws_FnExactProve.j0 k a1 a2 true a7 bt466.1 bt466.2.1 bt466.2.2 bt476.1 bt476.2.1 bt476.2.2) else ((laws_eqProof.f k bt476.1 bt476.2.1 bt476.2.2 bt466.1 bt466.2.1 bt466.2.2).bind fun ay=>(laws_FnExactProve.j0 k a1 a2 (!ay) a7 bt466.1 bt466.2.1 bt466.2.2 bt476.1 bt476.2.1 bt476.2.2)))) else (some false)))) else (some false)))))))))
theorem laws_FnExactProve.mono_l:∀ k,(∀ y0 y1 y2 y3 y4 y5 y6 y7 y8 y9,LeO (laws_FnExactProve.j0 k y0 y1 y2 y3 y4 y5 y6 y7 y8 y9) (laws_FnExactProve.j0 (k+1) y0 y1 y2 y3 y4 y5 y6 y7 y8 y9))
 | 0=>fun _ _ _ _ _ _ _ _ _ _ r h=>by simp [laws_FnExactProve.j0] at h
 | k + 1 => by
  have ih0:=laws_FnExactProve.mono_l k
  ·intro y0 y1 y2 y3 y4 y5 y6 y7 y8 y9
   unfold laws_FnExactProve.j0
   exact mo9 ih0 @laws_eqProof.mono @laws_eqTree.mono @laws_heldProof.mono @laws_markProof.mono @laws_markTree.mono @laws_szTree.mono @laws_toTree.mono @spec_Prove.mono
theorem laws_FnExactProve.mono:∀ a0 a1 a2 k,LeO (laws_FnExactProve.f k a0 a1 a2) (laws_FnExactProve.f (k+1) a0 a1 a2):=by
 intro a0 a1 a2 k;have ih0:=laws_FnExactProve.mono_l k
 unfold laws_FnExactProve.f
 exact mo9 ih0 @laws_eqProof.mono @laws_eqTree.mono @laws_heldProof.mono @laws_markProof.mono @laws_markTree.mono @laws_szTree.mono @laws_toTree.mono @spec_Prove.mono
set_option maxHeartbeats 8000000 in
set_option maxRecDepth 100000 in
theorem laws_FnExactProve.calls (k : Nat) (av : Option Addr) (aw : Nat) (a7 : List (S61)) (a1 : ByteArray) (a2 : Int) (r : Bool) (w : World) (hg : GOK w) (bC : Kd.C k61 w av a7.length a7) (bD : a7.length ≤ aw) (h : laws_FnExactProve.f k a7 a1 a2 = some r) (hrt : r = true) :
  Calls Tryd.prog 3 #[.agg #[.slice av a7.length aw],.string a1,.int .i64 a2] w fun e w'=>e = .returned (.bool r)∧Below w.heap.size w w':=by
 have HG:=Aside0.mk hg;clear hg;have hu24:=Tryd.underlying24;have hu28:=Tryd.underlying28;have hu32:=Tryd.underlying32;have aR:=Aside0.mk bC;have aS:=Aside0.mk bD;clear bC bD;have HB:=Aside0.mk (Below.refl w.heap.size w);have H:(if (a1.size:Int)>1048576 then (some true) else ((laws_szTree.f k a7 1048576).bind fun aH=>(if aH<0 then (some true) else ((laws_toTree.f k a7).bind fun aG=>((spec_Prove.f k aG a1 a2).bind fun bt466=>((laws_toTree.f k a7).bind fun ad=>((impl_Prove.f ad a1 a2).bind fun bt476=>((laws_eqProof.f k bt476.1 bt476.2.1 bt476.2.2 bt466.1 bt466.2.1 bt466.2.2).bind fun aI=>(if aI=true then ((laws_toTree.f k a7).bind fun ax=>((laws_eqTree.f k ad ax).bind fun aJ=>(if aJ=true then ((laws_markTree.f k ad 1).bind fun bt487=>(if bt487.1<0 then (laws_FnExactProve.j0 k a1 a2 true a7 bt466.1 bt466.2.1 bt466.2.2 bt476.1 bt476.2.1 bt476.2.2) else ((laws_eqProof.f k bt476.1 bt476.2.1 bt476.2.2 bt466.1 bt466.2.1 bt466.2.2).bind fun ay=>(laws_FnExactProve.j0 k a1 a2 (!ay) a7 bt466.1 bt466.2.1 bt466.2.2 bt476.1 bt476.2.1 bt476.2.2)))) else (some false)))) else (some false))))))))))=some r:=h;clear h
 by_cases c4:(a1.size:Int)>1048576
 ·rw [if_pos c4] at H
  have bE:decide (1048576<(a1.size:Int))=true:=decide_eq_true c4;have bF:decide (1048576<a1.size)=true:=decide_eq_true (by omega);clear c4;obtain rfl:=Option.some.inj H
  go_enter Tryd.func3,Tryd.ntmps3
  go_wp2_with (first|((with_reducible refine gd 3 rfl ?_);refine bx 3 24 (#[.slice av a7.length aw]) ?_;intro b2 hg w5 hbox hb;refine Ya4 (below_step (be HB.out) hb) (hbox) (bs hg (be HB.out)) (bs hg (be HB.out)) ?_;clear HB;intro HB a3 bG b3;clear hb hbox hg))
  go_ret
  exact ⟨Ye2,(bf HB.out)⟩
 ·rw [if_neg c4] at H
  have bE:decide (1048576<(a1.size:Int))=false:=decide_eq_false c4;have bF:decide (1048576<a1.size)=false:=decide_eq_false (by omega);clear c4;replace H:=Option.bind_eq_some_iff.mp H;obtain ⟨aH,A60,H⟩:=H;(try dsimp only at H);have A6:=Aside0.mk A60;clear A60
  by_cases c7:aH<0
  ·rw [if_pos c7] at H
   have bH:decide (aH<0)=true:=decide_eq_true c7;clear c7;obtain rfl:=Option.some.inj H
   go_enter Tryd.func3,Tryd.ntmps3
   go_wp2_with (first|((with_reducible refine gd 3 rfl ?_);refine bx 3 24 (#[.slice av a7.length aw]) ?_;intro b2 hg w8 hbox hb;refine Ya4 (below_step (be HB.out) hb) (hbox) (bs hg (be HB.out)) (bs hg (be HB.out)) ?_;clear HB;intro HB a3 bG b3;clear hb hbox hg;have ⟨cr,cs⟩:=Yc1 a3.out)|((with_reducible refine gc 4 rfl ?_);refine gl (some 20) _ (#[.agg #[.slice av a7.length aw],.int .i64 1048576]) Tryd.func4 ?_;(with_reducible refine (laws_szTree.calls k _ _ a7 1048576 aH _ ?side1 ?side2 A6.out).mono ?_);(case side1=>exact cb (Kd.C_below aR.out HB.out));(case side2=>exact aS.out);rintro e w10 ⟨rfl,hb⟩;refine ⟨_,rfl,?_⟩;refine Ya2 (bb a3 hb) (below_step (bf HB.out) hb) ?_;clear a3 HB;intro a3 HB;(try clear hb);(try clear hb2);(try clear hk);(try clear hi)))
   go_ret
   exact ⟨Ye2,(bf HB.out)⟩
  ·rw [if_neg c7] at H
   have bH:decide (aH<0)=false:=decide_eq_false c7;clear c7;replace H:=Option.bind_eq_some_iff.mp H;obtain ⟨aG,bI,H⟩:=H;(try dsimp only at H);have A11:=Aside0.mk bI;clear bI;replace H:=Option.bind_eq_some_iff.mp H;obtain ⟨⟨ae,ak,al⟩,bJ,H⟩:=H;replace H:((laws_toTree.f k a7).bind fun ad=>((impl_Prove.f ad a1 a2).bind fun bt476=>((laws_eqProof.f k bt476.1 bt476.2.1 bt476.2.2 ae ak al).bind fun aI=>(if aI=true then ((laws_toTree.f k a7).bind fun ax=>((laws_eqTree.f k ad ax).bind fun aJ=>(if aJ=true then ((laws_markTree.f k ad 1).bind fun bt487=>(if bt487.1<0 then (laws_FnExactProve.j0 k a1 a2 true a7 ae ak al bt476.1 bt476.2.1 bt476.2.2) else ((laws_eqProof.f k bt476.1 bt476.2.1 bt476.2.2 ae ak al).bind fun ay=>(laws_FnExactProve.j0 k a1 a2 (!ay) a7 ae ak al bt476.1 bt476.2.1 bt476.2.2)))) else (some false)))) else (some false)))))=some r:=H;have A12:=Aside0.mk bJ;clear bJ;replace H:=Option.bind_eq_some_iff.mp H;obtain ⟨ad,bK,H⟩:=H;(try dsimp only at H);have A13:=Aside0.mk bK;clear bK;replace H:=Option.bind_eq_some_iff.mp H;obtain ⟨⟨ac,ai,aj⟩,bL,H⟩:=H;replace H:((laws_eqProof.f k ac ai aj ae ak al).bind fun aI=>(if aI=true then ((laws_toTree.f k a7).bind fun ax=>((laws_eqTree.f k ad ax).bind fun aJ=>(if aJ=true then ((laws_markTree.f k ad 1).bind fun bt487=>(if bt487.1<0 then (laws_FnExactProve.j0 k a1 a2 true a7 ae ak al ac ai aj) else ((laws_eqProof.f k ac ai aj ae ak al).bind fun ay=>(laws_FnExactProve.j0 k a1 a2 (!ay) a7 ae ak al ac ai aj)))) else (some false)))) else (some false)))=some r:=H;have A14:=Aside0.mk bL;clear bL;replace H:=Option.bind_eq_some_iff.mp H;obtain ⟨aI,bM,H⟩:=H;(try dsimp only at H);have A15:=Aside0.mk bM;clear bM
   by_cases aW:aI=true
   ·subst aW
    rw [if_pos rfl] at H
    replace H:=Option.bind_eq_some_iff.mp H;obtain ⟨ax,bN,H⟩:=H;(try dsimp only at H);have A17:=Aside0.mk bN;clear bN;replace H:=Option.bind_eq_some_iff.mp H;obtain ⟨aJ,bO,H⟩:=H;(try dsimp only at H);have A18:=Aside0.mk bO;clear bO
    by_cases aX:aJ=true
    ·subst aX
     rw [if_pos rfl] at H
     replace H:=Option.bind_eq_some_iff.mp H;obtain ⟨⟨aY,bP⟩,bQ,H⟩:=H;replace H:(if aY<0 then (laws_FnExactProve.j0 k a1 a2 true a7 ae ak al ac ai aj) else ((laws_eqProof.f k ac ai aj ae ak al).bind fun ay=>(laws_FnExactProve.j0 k a1 a2 (!ay) a7 ae ak al ac ai aj)))=some r:=H;have A20:=Aside0.mk bQ;clear bQ;have bn:=Aside0.mk H;clear H
     go_enter Tryd.func3,Tryd.ntmps3
     try go_wp2_with (first|((with_reducible refine gd 3 rfl ?_);refine bx 3 24 (#[.slice av a7.length aw]) ?_;intro b2 hg w22 hbox hb;refine Ya4 (below_step (be HB.out) hb) (hbox) (bs hg (be HB.out)) (bs hg (be HB.out)) ?_;clear HB;intro HB a3 bG b3;clear hb hbox hg;have ⟨ct,cu⟩:=Yc1 a3.out)|((with_reducible refine gc 4 rfl ?_);refine gl (some 20) _ (#[.agg #[.slice av a7.length aw],.int .i64 1048576]) Tryd.func4 ?_;(with_reducible refine (laws_szTree.calls k _ _ a7 1048576 aH _ ?side1 ?side2 A6.out).mono ?_);(case side1=>exact cb (Kd.C_below aR.out HB.out));(case side2=>exact aS.out);rintro e w24 ⟨rfl,hb⟩;refine ⟨_,rfl,?_⟩;refine Ya2 (bb a3 hb) (below_step (bf HB.out) hb) ?_;clear a3 HB;intro a3 HB;(try clear hb);(try clear hb2);(try clear hk);(try clear hi);have ⟨cv,cw⟩:=Yc1 a3.out)|((with_reducible refine gc 6 rfl ?_);refine gl (some 24) _ (#[.agg #[.slice av a7.length aw]]) Tryd.func6 ?_;(with_reducible refine (laws_toTree.calls k _ _ a7 aG _ ?side1 ?side2 A11.out).mono ?_);(case side1=>exact cb (Kd.C_below aR.out HB.out));(case side2=>exact aS.out);rintro e w26 ⟨v464,rfl,ho0,hb⟩;refine ⟨_,rfl,?_⟩;refine Ya3 (Kd.R_lower ho0 (below_size (bf HB.out))) (bb a3 hb) (below_step (bf HB.out) hb) ?_;clear a3 HB;intro aa a3 HB;(try clear hb);(try clear hb2);(try clear hk);(try clear hi);(try clear ho0);obtain ⟨b4,b5,cx⟩:=Kd.R_slice aa.out;subst cx)|((with_reducible refine gc 5 rfl ?_);refine gl (some 27) _ (#[.agg #[.slice b4 aG.length b5],.string a1,.int .i64 a2]) Tryd.func5 ?_;(with_reducible refine (spec_Prove.calls k (fun k_=>some k_=(.slice b4 aG.length b5:Value).ownBlock) _ _ aG a1 a2 ae ak al _ ?side1 A12.out).mono ?_);(case side1=>exact Kd.R_V (Kd.R_tight rfl (Kd.R_types (aa.out) a3.out (by decide))));rintro e w28 ⟨v467,rfl,ho0,hb⟩;refine ⟨_,rfl,?_⟩;refine Ya4 (Kd.R_below (kr aa.out) hb) (Kd.R_lower (Kd.R_mono (ok':=fun k_=>True) ho0 (fun _ hk_=>trivial)) (below_size (bf HB.out))) (bb a3 hb) (below_step (bf HB.out) hb) ?_;clear aa a3 HB;intro aa a9 a3 HB;(try clear hb);(try clear hb2);(try clear hk);(try clear hi);(try clear ho0))|((with_reducible refine gd 8 rfl ?_);refine bx 8 28 (#[.slice none 0 0,.bool false,.string (⟨#[]⟩:ByteArray)]) ?_;intro bR hg w29 hbox hb;refine Ya9 (Kd.R_below (kr aa.out) hb) (Kd.R_below (kr a9.out) hb) (bb a3 hb) (below_step (bf HB.out) hb) (hbox) (bs hg (bf HB.out)) (bs hg (bf HB.out)) (bl hg a3) (br hg a3) ?_;clear aa a9 a3 HB;intro aa a9 a3 HB a4 GW471 bS b6 bo;clear hb hbox hg;obtain ⟨aK,aD,cy⟩:=Kd.R_slice a9.out;subst cy;have hnb31:=bo.out;have hnc31:=b6.out;have ⟨cz,cA,cB,cC,cD,cE⟩:=Yc3 a4.out;have ⟨cF,cG⟩:=Yc1 a3.out)|((with_reducible refine gc 6 rfl ?_);refine gl (some 29) _ (#[.agg #[.slice av a7.length aw]]) Tryd.func6 ?_;(with_reducible refine (laws_toTree.calls k _ _ a7 ad _ ?side1 ?side2 A13.out).mono ?_);(case side1=>exact Kd.C_below aR.out (bf HB.out));(case side2=>exact aS.out);rintro e w34 ⟨v473,rfl,ho0,hb⟩;refine ⟨_,rfl,?_⟩;refine Ya6 (Kd.R_elder' (rf aa a4) (Kd.R_base ho0) hb) (Kd.R_below (rf a9 a4) hb) (Kd.R_lower (Kd.R_new' ho0 (Kd.R_lt (rf aa a4))) (below_size (bf HB.out))) (bbf a3 b6 hb) (blk_below (g:=bR) (o:=.cells #[.slice aK ae.length aD,.bool ak,.string al] 28 (0,0)) (bp a4.out) hb) (below_step (bf HB.out) hb) ?_;clear aa a9 a3 a4 HB;intro aa a9 a8 a3 a4 HB;(try clear hb);(try clear hb2);(try clear hk);(try clear hi);(try clear ho0))|((with_reducible refine gd 9 rfl ?_);refine bx 9 32 (#[.slice none 0 0]) ?_;intro bq hg w35 hbox hb;refine Ya13 (Kd.R_below (kr aa.out) hb) (Kd.R_below (kr a9.out) hb) (Kd.R_below (kr a8.out) hb) (bb a3 hb) (bb a4 hb) (below_step (bf HB.out) hb) (hbox) (bs hg (bf HB.out)) (bs hg (bf HB.out)) (bl hg a3) (br hg a3) (bl hg a4) (br hg a4) ?_;clear aa a9 a8 a3 a4 HB;intro aa a9 a8 a3 a4 HB a5 GW475 bT bu bU b7 bv;clear hb hbox hg;obtain ⟨aE,az,cH⟩:=Kd.R_slice a8.out;subst cH;have hnb37:=bU.out;have hnc37:=bu.out;have hnb38:=bv.out;have hnc38:=b7.out;have ⟨cI,cJ⟩:=Yc1 a5.out)|((with_reducible refine gc 7 rfl ?_);refine gl (some 33) _ (#[.agg #[.slice aE ad.length az],.string a1,.int .i64 a2]) Tryd.func7 ?_;(with_reducible refine (impl_Prove.calls _ _ ad a1 a2 ac ai aj _ ?sideG ?side1 ?side2 A14.out).mono ?_);(case sideG=>(first|exact HG.out|exact GOK.below HG.out (by repeat (first|(with_reducible first|exact HB.out|apply below_alloc|apply pw_below_drewN|apply below_drew1|refine below_set ?_ b3.out|refine below_set ?_ bS.out|refine below_set ?_ bT.out|refine below_set ?_ bV.out|refine below_set ?_ bW.out)|exact HB.out|exact Below.refl _ _))));(case side1=>refine (Kd.R_reads' (e:=55) (base:=w.heap.size) (ok:=fun k_=>(True∧some k_≠(.slice b4 aG.length b5:Value).ownBlock)) (n:=ad.length) (c:=az) ?_).2.2;exact (rf a8 a5));(case side2=>exact (Kd.R_reads' a8.out).2.1);rintro e w40 ⟨v477,rfl,ho0,hb⟩;refine ⟨_,rfl,?_⟩;refine Ya8 (Kd.R_below (rf aa a5) hb) (Kd.R_elder' (rf a9 a5) (Kd.R_base ho0) hb) (Kd.R_below (rf a8 a5) hb) (Kd.R_lower (Kd.R_new' ho0 (Kd.R_lt (rf a9 a5))) (below_size (bf HB.out))) (bbf a3 bu hb) (bbf a4 b7 hb) (blk_below (g:=bq) (o:=.cells #[.slice aE ad.length az] 32 (0,0)) (bp a5.out) hb) (below_step (bf HB.out) hb) ?_;clear aa a9 a8 a3 a4 a5 HB;intro aa a9 a8 af a3 a4 a5 HB;(try clear hb);(try clear hb2);(try clear hk);(try clear hi);(try clear ho0))|((with_reducible refine gd 10 rfl ?_);refine bx 10 28 (#[.slice none 0 0,.bool false,.string (⟨#[]⟩:ByteArray)]) ?_;intro bX hg w41 hbox hb;refine Ya17 (Kd.R_below (kr aa.out) hb) (Kd.R_below (kr a9.out) hb) (Kd.R_below (kr a8.out) hb) (Kd.R_below (kr af.out) hb) (bb a3 hb) (bb a4 hb) (bb a5 hb) (below_step (bf HB.out) hb) (hbox) (bs hg (bf HB.out)) (bs hg (bf HB.out)) (bl hg a3) (br hg a3) (bl hg a4) (br hg a4) (bl hg a5) (br hg a5) ?_;clear aa a9 a8 af a3 a4 a5 HB;intro aa a9 a8 af a3 a4 a5 HB a6 GW481 bV b8 bw b9 bz ba bA;clear hb hbox hg;obtain ⟨ap,an,cK⟩:=Kd.R_slice af.out;subst cK;have hnb43:=bw.out;have hnc43:=b8.out;have hnb44:=bz.out;have hnc44:=b9.out;have hnb45:=bA.out;have hnc45:=ba.out;have ⟨cL,cM,cN,cO,cP,cQ⟩:=Yc3 a6.out;have ⟨cR,cS,cT,cU,cV,cW⟩:=Yc3 a4.out)|((with_reducible refine gc 8 rfl ?_);refine gl (some 36) _ (#[.agg #[.slice ap ac.length an,.bool ai,.string aj],.agg #[.slice aK ae.length aD,.bool ak,.string al]]) Tryd.func8 ?_;(with_reducible refine (laws_eqProof.calls k _ _ ac ai aj _ _ ae ak al true _ ?side1 ?side2 ?side3 ?side4 A15.out).mono ?_);(case side1=>refine (Kd.R_reads' (e:=9) (base:=w.heap.size) (ok:=fun k_=>(True∧some k_≠(.slice aK ae.length aD:Value).ownBlock)) (n:=ac.length) (c:=an) ?_).2.2;exact (rf af a6));(case side2=>exact (Kd.R_reads' af.out).2.1);(case side3=>refine (Kd.R_reads' (e:=9) (base:=w.heap.size) (ok:=fun k_=>(True∧some k_≠(.slice ap ac.length an:Value).ownBlock)) (n:=ae.length) (c:=aD) ?_).2.2;exact (rf a9 a6));(case side4=>exact (Kd.R_reads' a9.out).2.1);rintro e w48 ⟨rfl,hb⟩;refine ⟨_,rfl,?_⟩;refine Ya9 (Kd.R_below (rf aa a6) hb) (Kd.R_below (rf a9 a6) hb) (Kd.R_below (rf a8 a6) hb) (Kd.R_below (rf af a6) hb) (bbf a3 b8 hb) (bbf a4 b9 hb) (bbf a5 ba hb) (blk_below (g:=bX) (o:=.cells #[.slice ap ac.length an,.bool ai,.string aj] 28 (0,0)) (bp a6.out) hb) (below_step (bf HB.out) hb) ?_;clear aa a9 a8 af a3 a4 a5 a6 HB;intro aa a9 a8 af a3 a4 a5 a6 HB;(try clear hb);(try clear hb2);(try clear hk);(try clear hi)))
     refine Ya9 (Kd.R_drew aa.out) (Kd.R_drew a9.out) (Kd.R_drew a8.out) (Kd.R_drew af.out) (blk_drew a3.out) (blk_drew a4.out) (blk_drew a5.out) (blk_drew a6.out) (below_drew1 HB.out) ?_;clear aa a9 a8 af a3 a4 a5 a6 HB;intro aa a9 a8 af a3 a4 a5 a6 HB;refine start_ (n:=5) (S:=fun w'=>w'.cell? ⟨bq,0,none⟩=some (.slice aE ad.length az)∧w'.cell? ⟨b2,0,none⟩=some (.slice av a7.length aw)) (ds:=[]) (fb 5 0) (by kernel_rfl) rfl rfl ⟨bc a5 0,bc a3 0⟩ (fun hHeld => ?_);generalize w48.drew=w49 at aa a9 a8 af a3 a4 a5 a6 HB hHeld ⊢; refine take_ (i:=0) (N:=some 38) (v:=?_) (a':=?_) (fb 5 1) rfl rfl (by kernel_rfl) (fun _ _ _ h=>h) (Or.inl ⟨by rfl,?_⟩) hHeld ?_ ?_;rotate_left
     ·rintro w' ⟨s0,s1⟩;go_simp;(with_reducible rfl)
     rotate_left
     ·simp only [Act.put,List.setIfInBounds_toArray,List.set_cons_zero,List.set_cons_succ,i64_w,i32_w];rfl
     refine take_ (i:=1) (N:=some 39) (v:=?_) (a':=?_) (fb 5 3) rfl rfl (by kernel_rfl) (fun _ _ _ h=>h) (Or.inl ⟨by rfl,?_⟩) hHeld ?_ ?_;rotate_left
     ·rintro w' ⟨s0,s1⟩;go_simp;(with_reducible rfl)
     rotate_left
     ·simp only [Act.put,List.setIfInBounds_toArray,List.set_cons_zero,List.set_cons_succ,i64_w,i32_w];rfl
     refine one_ (i:=2) (N:=some 40) (fb 5 7) rfl rfl (by kernel_rfl) (by decide) (fun K hK => ?_);refine gs _ (#[.agg #[.slice av a7.length aw]]) Tryd.func6 ?_;(with_reducible refine (laws_toTree.calls k _ _ a7 ax _ ?side1 ?side2 A17.out).mono ?_);(case side1=>exact cb (Kd.C_below aR.out HB.out));(case side2=>exact aS.out);rintro e w50 ⟨v484,rfl,ho0,hb⟩;refine ⟨_,rfl,?_⟩;refine Ya10 (Kd.R_elder' (kr aa.out) (Kd.R_base ho0) hb) (Kd.R_below (kr a9.out) hb) (Kd.R_elder' (kr a8.out) (Kd.R_base ho0) hb) (Kd.R_below (kr af.out) hb) (Kd.R_lower (Kd.R_new' (Kd.R_new' ho0 (Kd.R_lt (kr aa.out))) (Kd.R_lt (kr a8.out))) (below_size (bf HB.out))) (bb a3 hb) (bb a4 hb) (bb a5 hb) (bb a6 hb) (below_step (bf HB.out) hb) ?_;clear aa a9 a8 af a3 a4 a5 a6 HB;intro aa a9 a8 af aA a3 a4 a5 a6 HB;(try clear hb);(try clear hb2);(try clear hk);(try clear hi);(try clear ho0);obtain ⟨bY,bZ,c0⟩:=Kd.R_slice aA.out;(first|subst c0|(injection c0 with f1_ f2_ f3_;have f4_:=f1_.symm;have f5_:=f3_.symm;clear f1_ f2_ f3_;subst f4_;subst f5_));refine hK.out _ _ ⟨bc a5 0,bc a3 0⟩ (fun hHeld => ?_);clear hK K;refine nm 40 ?_;refine one_ (i:=3) (N:=some 41) (fb 5 15) rfl rfl (by kernel_rfl) (by decide) (fun K hK => ?_);refine gs _ (#[.agg #[.slice aE ad.length az],.agg #[.slice bY ax.length bZ]]) Tryd.func9 ?_;(with_reducible refine (laws_eqTree.calls k _ _ ad _ _ ax true _ ?side1 ?side2 ?side3 ?side4 A18.out).mono ?_);(case side1=>repeat (first|exact (Kd.R_reads' a8.out).2.2|(with_reducible refine Kd.C_alloc ?_ _)|(with_reducible refine Kd.C_drewN ?_ _)|(with_reducible refine Kd.C_drew ?_)));(case side2=>exact (Kd.R_reads' a8.out).2.1);(case side3=>repeat (first|exact (Kd.R_reads' aA.out).2.2|(with_reducible refine Kd.C_alloc ?_ _)|(with_reducible refine Kd.C_drewN ?_ _)|(with_reducible refine Kd.C_drew ?_)));(case side4=>exact (Kd.R_reads' aA.out).2.1);rintro e w52 ⟨rfl,hb⟩;refine ⟨_,rfl,?_⟩;refine Ya10 (Kd.R_below (kr aa.out) hb) (Kd.R_below (kr a9.out) hb) (Kd.R_below (kr a8.out) hb) (Kd.R_below (kr af.out) hb) (Kd.R_below (kr aA.out) hb) (bb a3 hb) (bb a4 hb) (bb a5 hb) (bb a6 hb) (below_step (bf HB.out) hb) ?_;clear aa a9 a8 af aA a3 a4 a5 a6 HB;intro aa a9 a8 af aA a3 a4 a5 a6 HB;(try clear hb);(try clear hb2);(try clear hk);(try clear hi);refine hK.out _ _ ⟨bc a5 0,bc a3 0⟩ (fun hHeld => ?_);clear hK K;refine nm 41 ?_;refine pure_ (i:=4) (N:=some 42) (v:=?_) (a':=?_) (fb 5 31) rfl rfl (by kernel_rfl) (fun _ _ _ h=>h) (Or.inl ⟨by rfl,?_⟩) ?_ ?_;rotate_left
     ·intro w';go_simp;(with_reducible rfl)
     rotate_left
     ·simp only [Act.put,List.setIfInBounds_toArray,List.set_cons_zero,List.set_cons_succ,i64_w,i32_w];rfl
     refine done_ (by kernel_rfl) ?_;have ⟨cX,cY⟩:=Yc1 a5.out
     go_upto_region 16 with (first|((with_reducible refine gc 10 rfl ?_);refine gl (some 45) _ (#[.agg #[.slice aE ad.length az],.int .i64 1]) Tryd.func10 ?_;(with_reducible refine (laws_markTree.calls k (fun k_=>some k_=(.slice aE ad.length az:Value).ownBlock) (.slice aE ad.length az) ad 1 aY bP w _ ?side1 ?side2 A20.out).mono ?_);(case side1=>exact bf HB.out);(case side2=>exact Kd.R_tight rfl a8.out);rintro e w54 ⟨rfl,aZ,hb,hkp⟩;refine ⟨_,rfl,?_⟩;refine Ya10 (blk_kept (bk a3.out) hkp (fun hs_=>(fun e_=>(Kd.R_ne a8.out a3.out (by decide)) e_) hs_)) (Kd.R_mono (ok':=fun k_=>some k_≠(.slice aE ad.length az:Value).ownBlock∧some k_≠(.slice bY ax.length bZ:Value).ownBlock) (Kd.R_keptB (aa.out) hkp (fun k_ hk_ hs_=>(hk_.1.2) hs_)) (fun k_ hk_=>⟨hk_.1.1.2,hk_.1.2⟩)) (Kd.R_mono (ok':=fun k_=>some k_≠(.slice ap ac.length an:Value).ownBlock) (Kd.R_keptB ((Kd.R_apart' a9.out (Kd.R_typed a8.out) (by decide))) hkp (fun k_ hk_ hs_=>(hk_.2) hs_)) (fun k_ hk_=>hk_.1.1.2)) (blk_kept (bk a4.out) hkp (fun hs_=>(fun e_=>(Kd.R_ne a8.out a4.out (by decide)) e_) hs_)) (Kd.R_reok rfl aZ (fun k_ e_=>a8.out.1 k_ e_)) (blk_kept (bk a5.out) hkp (fun hs_=>(fun e_=>(Kd.R_ne a8.out a5.out (by decide)) e_) hs_)) (Kd.R_mono (ok':=fun k_=>some k_≠(.slice aK ae.length aD:Value).ownBlock) (Kd.R_keptB ((Kd.R_apart' af.out (Kd.R_typed a8.out) (by decide))) hkp (fun k_ hk_ hs_=>(hk_.2) hs_)) (fun k_ hk_=>hk_.1.1.2)) (blk_kept (bk a6.out) hkp (fun hs_=>(fun e_=>(Kd.R_ne a8.out a6.out (by decide)) e_) hs_)) (Kd.R_mono (ok':=fun k_=>some k_≠(.slice b4 aG.length b5:Value).ownBlock∧some k_≠(.slice aE ad.length az:Value).ownBlock) (Kd.R_keptB (aA.out) hkp (fun k_ hk_ hs_=>(hk_.2) hs_)) (fun k_ hk_=>⟨hk_.1.1.2,hk_.1.2⟩)) (hb) ?_;clear a3 aa a9 a4 a8 a5 af a6 aA HB;intro a3 aa a9 a4 a8 a5 af a6 aA HB;(try clear hb);(try clear hkp);(try clear aZ)))
     (try simp only [Act.put,List.setIfInBounds_toArray,List.set_cons_zero,List.set_cons_succ])
     go_cut [53] (fun v53 wc => ∃ (kq:Nat) (bd:Bool),v53 = .bool bd∧Aside0 (laws_FnExactProve.j0 kq a1 a2 bd a7 ae ak al ac ai aj=some r)∧Aside0 (kq≤k)∧Aside0 (Kd.R Kd.string 9 wc w.heap.size (fun k_=>some k_≠((.slice ap ac.length an):Value).ownBlock) (.slice aK ae.length aD) ae)∧Aside0 (Kd.R k55 55 wc w.heap.size (fun _=>True) (.slice aE ad.length az) bP)∧Aside0 (Kd.R Kd.string 9 wc w.heap.size (fun k_=>some k_≠((.slice aK ae.length aD):Value).ownBlock) (.slice ap ac.length an) ac)∧Aside0 (wc.heap[b2]? = some (.cells #[(.slice av a7.length aw)] 24 (0,0)))∧Aside0 (wc.heap[bR]? = some (.cells #[(.slice aK ae.length aD),.bool ak,.string al] 28 (0,0)))∧Aside0 (wc.heap[bq]? = some (.cells #[(.slice aE ad.length az)] 32 (0,0)))∧Aside0 (wc.heap[bX]? = some (.cells #[(.slice ap ac.length an),.bool ai,.string aj] 28 (0,0)))∧Aside0 (Below w.heap.size w wc))
     case first =>
      have H:=bn.out;clear bn
      by_cases aN:aY<0
      ·rw [if_pos aN] at H
       have aT:decide (aY<0)=true:=decide_eq_true aN;clear aN;(first|rw [aT]|(simp only [i64_w,i32_w];rw [aT])|skip);have H':=Aside0.mk H;clear H
       go_wp2
       go_meet
       case rel=>exact ⟨_,(true),Ye1,H',⟨by first|omega|exact Nat.le_refl _⟩,⟨kr a9.out⟩,⟨by (with_reducible repeat (first|apply Kd.R_alloc|apply Kd.R_drewN|apply Kd.R_drew));exact Kd.R_mono a8.out (fun _ hk=>trivial)⟩,⟨kr af.out⟩,⟨bk a3.out⟩,⟨bk a4.out⟩,⟨bk a5.out⟩,⟨bk a6.out⟩,⟨bf HB.out⟩⟩
      ·rw [if_neg aN] at H
       have aT:decide (aY<0)=false:=decide_eq_false aN;clear aN;(first|rw [aT]|(simp only [i64_w,i32_w];rw [aT])|skip);replace H:=Option.bind_eq_some_iff.mp H;obtain ⟨ay,ca,H⟩:=H;(try dsimp only at H);have A56:=Aside0.mk ca;clear ca;have H':=Aside0.mk H;clear H;have hnb57:=bw.out;have hnc57:=b8.out;have hnb58:=bz.out;have hnc58:=b9.out;have hnb59:=bA.out;have hnc59:=ba.out;have ⟨cZ,d0,d1,d2,d3,d4⟩:=Yc3 a6.out;have hnb61:=bo.out;have hnc61:=b6.out;have hnb62:=b7.out;have hnc62:=bv.out;have ⟨d5,d6,d7,d8,d9,da⟩:=Yc3 a4.out
       go_wp2_with (first|(go_at_call 8;(with_reducible refine (laws_eqProof.calls k _ _ ac ai aj _ _ ae ak al ay _ ?side1 ?side2 ?side3 ?side4 A56.out).mono ?_);(case side1=>repeat (first|exact (Kd.R_reads' af.out).2.2|(with_reducible refine Kd.C_alloc ?_ _)|(with_reducible refine Kd.C_drewN ?_ _)|(with_reducible refine Kd.C_drew ?_)));(case side2=>exact (Kd.R_reads' af.out).2.1);(case side3=>repeat (first|exact (Kd.R_reads' a9.out).2.2|(with_reducible refine Kd.C_alloc ?_ _)|(with_reducible refine Kd.C_drewN ?_ _)|(with_reducible refine Kd.C_drew ?_)));(case side4=>exact (Kd.R_reads' a9.out).2.1);rintro e w64 ⟨rfl,hb⟩;refine Ya10 (Kd.R_below (kr aa.out) hb) (Kd.R_below (kr a9.out) hb) (Kd.R_below (kr a8.out) hb) (Kd.R_below (kr af.out) hb) (Kd.R_below (kr aA.out) hb) (bb a3 hb) (bb a4 hb) (bb a5 hb) (bb a6 hb) (below_step (bf HB.out) hb) ?_;clear aa a9 a8 af aA a3 a4 a5 a6 HB;intro aa a9 a8 af aA a3 a4 a5 a6 HB;(try clear hb);(try clear hb2);(try clear hk);(try clear hi)))
       go_meet
       case rel=>exact ⟨_,(!ay),Ye1,H',⟨by first|omega|exact Nat.le_refl _⟩,⟨kr a9.out⟩,⟨by (with_reducible repeat (first|apply Kd.R_alloc|apply Kd.R_drewN|apply Kd.R_drew));exact Kd.R_mono a8.out (fun _ hk=>trivial)⟩,⟨kr af.out⟩,⟨bk a3.out⟩,⟨bk a4.out⟩,⟨bk a5.out⟩,⟨bk a6.out⟩,⟨bf HB.out⟩⟩
     case rest =>
      clear bn;(try clear c1);(try clear p2);(try clear c3);(try clear c4);(try clear bE);(try clear bF);(try clear c5);(try clear c6);(try clear c7);(try clear bH);(try clear c8);(try clear c9);(try clear c10);(try clear aW);(try clear aX);(try clear c31);(try clear c37);(try clear c38);(try clear c43);(try clear c44);(try clear c45);(try clear aN);(try clear aT);(try clear c57);(try clear c58);(try clear c59);(try clear c61);(try clear c62);(try clear ct);(try clear cv);(try clear cz);(try clear cA);(try clear cB);(try clear cF);(try clear cI);(try clear cL);(try clear cM);(try clear cN);(try clear cR);(try clear cS);(try clear cT);(try clear cX);(try clear cZ);(try clear d0);(try clear d1);(try clear d5);(try clear d6);(try clear d7);(try clear cr);(try clear cu);(try clear cw);(try clear cC);(try clear cD);(try clear cE);(try clear cG);(try clear cJ);(try clear cO);(try clear cP);(try clear cQ);(try clear cU);(try clear cV);(try clear cW);(try clear cY);(try clear d2);(try clear d3);(try clear d4);(try clear d8);(try clear d9);(try clear da);(try clear cs);obtain ⟨kq,bd,rfl,HA,HJ20,ag,ah,ab,a3,a4,a5,a6,HB⟩:=hcut;have hl476000_20:=(Kd.R_reads' ah.out).1
      rw [hl476000_20] at ah
      (try simp only [hl476000_20]);(try simp only [hl476000_20] at a3);(try simp only [hl476000_20] at a4);(try simp only [hl476000_20] at a5);(try simp only [hl476000_20] at a6);(try simp only [hl476000_20] at ag);(try simp only [hl476000_20] at ab)
      cases kq with
      | zero=>exact absurd HA.out (by simp [laws_FnExactProve.j0])
      | succ aF =>
       have H:=HA.out;clear HA;simp only [laws_FnExactProve.j0] at H
       by_cases bg:bd=true
       ·subst bg
        rw [if_pos rfl] at H
        exact absurd ((Option.some.inj H).trans hrt) (by decide)
       ·replace bg:=Bool.eq_false_iff.mpr bg;subst bg
        rw [if_neg (show ¬(false=true) by decide)] at H
        replace H:=Option.bind_eq_some_iff.mp H;obtain ⟨⟨ar,aB⟩,cc,H⟩:=H;replace H:((laws_heldProof.f aF aB ai aj 1).bind fun ao=>(if ao<0 then (some false) else (if ao=ar then ((laws_toTree.f aF a7).bind fun aL=>((impl_Prove.f aL a1 a2).bind fun bt496=>((laws_eqProof.f aF bt496.1 bt496.2.1 bt496.2.2 ae ak al).bind fun aM=>(if aM=true then ((laws_heldProof.f aF aB ai aj 1).bind fun am=>(if am<0 then (some false) else (if am=ar then (some true) else (some false)))) else (some false))))) else (some false))))=some r:=H;have A66:=Aside0.mk cc;clear cc;replace H:=Option.bind_eq_some_iff.mp H;obtain ⟨ao,cd,H⟩:=H;(try dsimp only at H);have A67:=Aside0.mk cd;clear cd
        by_cases aU:ao<0
        ·rw [if_pos aU] at H
         have db:decide (ao<0)=true:=decide_eq_true aU;clear aU;exact absurd ((Option.some.inj H).trans hrt) (by decide)
        ·rw [if_neg aU] at H
         have db:decide (ao<0)=false:=decide_eq_false aU;clear aU
         by_cases aO:ao=ar
         ·rw [if_pos aO] at H
          have dc:(ao==ar)=true:=beq_iff_eq.mpr aO;have dd:(ao != ar)=false:=bne_eq_false_iff_eq.mpr aO;clear aO;replace H:=Option.bind_eq_some_iff.mp H;obtain ⟨aL,ce,H⟩:=H;(try dsimp only at H);have A77:=Aside0.mk ce;clear ce;replace H:=Option.bind_eq_some_iff.mp H;obtain ⟨⟨aP,b0,b1⟩,cf,H⟩:=H;replace H:((laws_eqProof.f aF aP b0 b1 ae ak al).bind fun aM=>(if aM=true then ((laws_heldProof.f aF aB ai aj 1).bind fun am=>(if am<0 then (some false) else (if am=ar then (some true) else (some false)))) else (some false)))=some r:=H;have A78:=Aside0.mk cf;clear cf;replace H:=Option.bind_eq_some_iff.mp H;obtain ⟨aM,cg,H⟩:=H;(try dsimp only at H);have A79:=Aside0.mk cg;clear cg
          by_cases bh:aM=true
          ·subst bh
           rw [if_pos rfl] at H
           replace H:=Option.bind_eq_some_iff.mp H;obtain ⟨am,ch,H⟩:=H;(try dsimp only at H);have A81:=Aside0.mk ch;clear ch
           by_cases aV:am<0
           ·rw [if_pos aV] at H
            have de:decide (am<0)=true:=decide_eq_true aV;clear aV;exact absurd ((Option.some.inj H).trans hrt) (by decide)
           ·rw [if_neg aV] at H
            have de:decide (am<0)=false:=decide_eq_false aV;clear aV
            by_cases aQ:am=ar
            ·rw [if_pos aQ] at H
             have df:(am==ar)=true:=beq_iff_eq.mpr aQ;have dg:(am != ar)=false:=bne_eq_false_iff_eq.mpr aQ;clear aQ;obtain rfl:=Option.some.inj H;have dr:=bw.out;have dt:=b8.out;have du:=bz.out;have dv:=b9.out;have dw:=bA.out;have dx:=ba.out;have ⟨dy,dA,dB,dC,dD,dE⟩:=Yc3 a6.out
             go_wp2_with (first|((with_reducible refine gc 11 rfl ?_);refine gl (some 56) _ (#[.agg #[.slice ap ac.length an,.bool ai,.string aj],.int .i64 1]) Tryd.func11 ?_;(with_reducible refine (laws_markProof.calls aF (fun k_=>some k_=(.slice ap ac.length an:Value).ownBlock) (.slice ap ac.length an) ac ai aj 1 ar aB w _ ?side1 ?side2 A66.out).mono ?_);(case side1=>exact bf HB.out);(case side2=>exact Kd.R_tight rfl ab.out);rintro e w113 ⟨rfl,aZ,hb,hkp⟩;refine ⟨_,rfl,?_⟩;refine Ya8 (Kd.R_mono (ok':=fun k_=>some k_≠(.slice ap ac.length an:Value).ownBlock) (Kd.R_keptB (ag.out) hkp (fun k_ hk_ hs_=>(hk_) hs_)) (fun k_ hk_=>hk_.1)) (Kd.R_mono (ok':=fun k_=>True) (Kd.R_keptB ((Kd.R_apart' ah.out (Kd.R_typed ab.out) (by decide))) hkp (fun k_ hk_ hs_=>(hk_.2) hs_)) (fun k_ hk_=>trivial)) (Kd.R_reok rfl aZ (fun k_ e_=>ab.out.1 k_ e_)) (blk_kept (bk a3.out) hkp (fun hs_=>(fun e_=>(Kd.R_ne ab.out a3.out (by decide)) e_) hs_)) (blk_kept (bk a4.out) hkp (fun hs_=>(fun e_=>(Kd.R_ne ab.out a4.out (by decide)) e_) hs_)) (blk_kept (bk a5.out) hkp (fun hs_=>(fun e_=>(Kd.R_ne ab.out a5.out (by decide)) e_) hs_)) (blk_kept (bk a6.out) hkp (fun hs_=>(fun e_=>(Kd.R_ne ab.out a6.out (by decide)) e_) hs_)) (hb) ?_;clear ag ah ab a3 a4 a5 a6 HB;intro ag ah ab a3 a4 a5 a6 HB;(try clear hb);(try clear hkp);(try clear aZ);have ⟨dF,dG,dH,dI,dJ,dK⟩:=Yc3 a6.out)|((with_reducible refine gc 12 rfl ?_);refine goesL_ (some 59) rfl rfl Tryd.func12 (by kernel_rfl) rfl #[.agg #[.slice ap aB.length an,.bool ai,.string aj],.int .i64 1] rfl (by (try simp only [List.map_toArray,List.map_cons,List.map_nil]);first|done|(rw [show aB.length=ac.length from (Kd.R_reads' ab.out).1.symm] <;> rfl)|rfl|(simp only [List.length_drop,List.length_take];rfl)) ?_;(with_reducible refine (laws_heldProof.calls aF _ _ aB ai aj 1 ao _ ?side1 ?side2 A67.out).mono ?_);(case side1=>repeat (first|exact (Kd.R_reads' ab.out).2.2|(with_reducible refine Kd.C_alloc ?_ _)|(with_reducible refine Kd.C_drewN ?_ _)|(with_reducible refine Kd.C_drew ?_)));(case side2=>rw [show aB.length=ac.length from (Kd.R_reads' ab.out).1.symm];exact (Kd.R_reads' ab.out).2.1);rintro e w115 ⟨rfl,hb⟩;refine ⟨_,rfl,?_⟩;refine Ya8 (Kd.R_below (kr ag.out) hb) (Kd.R_below (kr ah.out) hb) (Kd.R_below (kr ab.out) hb) (bb a3 hb) (bb a4 hb) (bb a5 hb) (bb a6 hb) (below_step (bf HB.out) hb) ?_;clear ag ah ab a3 a4 a5 a6 HB;intro ag ah ab a3 a4 a5 a6 HB;(try clear hb);(try clear hb2);(try clear hk);(try clear hi);have dL:=b6.out;have dM:=bo.out;have dN:=bu.out;have dO:=bU.out;have ⟨dP,dQ⟩:=Yc1 a3.out)|((with_reducible refine gc 6 rfl ?_);refine gl (some 66) _ (#[.agg #[.slice av a7.length aw]]) Tryd.func6 ?_;(with_reducible refine (laws_toTree.calls aF _ _ a7 aL _ ?side1 ?side2 A77.out).mono ?_);(case side1=>exact cb (Kd.C_below aR.out HB.out));(case side2=>exact aS.out);rintro e w119 ⟨v494,rfl,ho0,hb⟩;refine ⟨_,rfl,?_⟩;refine Ya9 (Kd.R_below (kr ag.out) hb) (Kd.R_elder' (kr ah.out) (Kd.R_base ho0) hb) (Kd.R_below (kr ab.out) hb) (Kd.R_lower (Kd.R_new' ho0 (Kd.R_lt (kr ah.out))) (below_size (bf HB.out))) (bb a3 hb) (bb a4 hb) (bb a5 hb) (bb a6 hb) (below_step (bf HB.out) hb) ?_;clear ag ah ab a3 a4 a5 a6 HB;intro ag ah ab aq a3 a4 a5 a6 HB;(try clear hb);(try clear hb2);(try clear hk);(try clear hi);(try clear ho0);obtain ⟨dh,di,dj⟩:=Kd.R_slice aq.out;subst dj)|((with_reducible refine gc 7 rfl ?_);refine gl (some 69) _ (#[.agg #[.slice dh aL.length di],.string a1,.int .i64 a2]) Tryd.func7 ?_;(with_reducible refine (impl_Prove.calls _ _ aL a1 a2 aP b0 b1 _ ?sideG ?side1 ?side2 A78.out).mono ?_);(case sideG=>(first|exact HG.out|exact GOK.below HG.out (by repeat (first|(with_reducible first|exact HB.out|apply below_alloc|apply pw_below_drewN|apply below_drew1|refine below_set ?_ b3.out|refine below_set ?_ bS.out|refine below_set ?_ bT.out|refine below_set ?_ bV.out|refine below_set ?_ bW.out)|exact HB.out|exact Below.refl _ _))));(case side1=>repeat (first|exact (Kd.R_reads' aq.out).2.2|(with_reducible refine Kd.C_alloc ?_ _)|(with_reducible refine Kd.C_drewN ?_ _)|(with_reducible refine Kd.C_drew ?_)));(case side2=>exact (Kd.R_reads' aq.out).2.1);rintro e w121 ⟨v497,rfl,ho0,hb⟩;refine ⟨_,rfl,?_⟩;refine Ya10 (Kd.R_elder' (kr ag.out) (Kd.R_base ho0) hb) (Kd.R_below (kr ah.out) hb) (Kd.R_elder' (kr ab.out) (Kd.R_base ho0) hb) (Kd.R_below (kr aq.out) hb) (Kd.R_lower (Kd.R_new' (Kd.R_new' ho0 (Kd.R_lt (kr ag.out))) (Kd.R_lt (kr ab.out))) (below_size (bf HB.out))) (bb a3 hb) (bb a4 hb) (bb a5 hb) (bb a6 hb) (below_step (bf HB.out) hb) ?_;clear ag ah ab aq a3 a4 a5 a6 HB;intro ag ah ab aq aC a3 a4 a5 a6 HB;(try clear hb);(try clear hb2);(try clear hk);(try clear hi);(try clear ho0))|((with_reducible refine gd 14 rfl ?_);refine bx 14 28 (#[.slice none 0 0,.bool false,.string (⟨#[]⟩:ByteArray)]) ?_;intro dk hg w122 hbox hb;refine Ya21 (Kd.R_below (kr ag.out) hb) (Kd.R_below (kr ah.out) hb) (Kd.R_below (kr ab.out) hb) (Kd.R_below (kr aq.out) hb) (Kd.R_below (kr aC.out) hb) (bb a3 hb) (bb a4 hb) (bb a5 hb) (bb a6 hb) (below_step (bf HB.out) hb) (hbox) (bs hg (bf HB.out)) (bs hg (bf HB.out)) (bl hg a3) (br hg a3) (bl hg a4) (br hg a4) (bl hg a5) (br hg a5) (bl hg a6) (br hg a6) ?_;clear ag ah ab aq aC a3 a4 a5 a6 HB;intro ag ah ab aq aC a3 a4 a5 a6 HB au GW501 bW ci dl cj dm ck dn cl dp;clear hb hbox hg;obtain ⟨bB,bi,dq⟩:=Kd.R_slice aC.out;subst dq;have dR:=dl.out;have dS:=ci.out;have dT:=dm.out;have dU:=cj.out;have dV:=dn.out;have dW:=ck.out;have dX:=dp.out;have dY:=cl.out;have ⟨dZ,e0,e1,e2,e3,e4⟩:=Yc3 au.out;have e5:=b7.out;have e6:=bv.out;have ⟨e7,e8,e9,ea,eb,ec⟩:=Yc3 a4.out)|((with_reducible refine gc 8 rfl ?_);refine gl (some 72) _ (#[.agg #[.slice bB aP.length bi,.bool b0,.string b1],.agg #[.slice aK ae.length aD,.bool ak,.string al]]) Tryd.func8 ?_;(with_reducible refine (laws_eqProof.calls aF _ _ aP b0 b1 _ _ ae ak al true _ ?side1 ?side2 ?side3 ?side4 A79.out).mono ?_);(case side1=>refine (Kd.R_reads' (e:=9) (base:=w.heap.size) (ok:=fun k_=>((True∧some k_≠(.slice aK ae.length aD:Value).ownBlock)∧some k_≠(.slice ap ac.length an:Value).ownBlock)) (n:=aP.length) (c:=bi) ?_).2.2;exact (rf aC au));(case side2=>exact (Kd.R_reads' aC.out).2.1);(case side3=>refine (Kd.R_reads' (e:=9) (base:=w.heap.size) (ok:=fun k_=>(some k_≠(.slice ap ac.length an:Value).ownBlock∧some k_≠(.slice bB aP.length bi:Value).ownBlock)) (n:=ae.length) (c:=aD) ?_).2.2;exact (rf ag au));(case side4=>exact (Kd.R_reads' ag.out).2.1);rintro e w131 ⟨rfl,hb⟩;refine ⟨_,rfl,?_⟩;refine Ya11 (Kd.R_below (rf ag au) hb) (Kd.R_below (rf ah au) hb) (Kd.R_below (rf ab au) hb) (Kd.R_below (rf aq au) hb) (Kd.R_below (rf aC au) hb) (bbf a3 ci hb) (bbf a4 cj hb) (bbf a5 ck hb) (bbf a6 cl hb) (blk_below (g:=dk) (o:=.cells #[.slice bB aP.length bi,.bool b0,.string b1] 28 (0,0)) (bp au.out) hb) (below_step (bf HB.out) hb) ?_;clear ag ah ab aq aC a3 a4 a5 a6 au HB;intro ag ah ab aq aC a3 a4 a5 a6 au HB;(try clear hb);(try clear hb2);(try clear hk);(try clear hi);have ⟨ed,ee,ef,eg,eh,ei⟩:=Yc3 a6.out)|((with_reducible refine gc 12 rfl ?_);refine goesL_ (some 76) rfl rfl Tryd.func12 (by kernel_rfl) rfl #[.agg #[.slice ap aB.length an,.bool ai,.string aj],.int .i64 1] rfl (by (try simp only [List.map_toArray,List.map_cons,List.map_nil]);first|done|(rw [show aB.length=ac.length from (Kd.R_reads' ab.out).1.symm] <;> rfl)|rfl|(simp only [List.length_drop,List.length_take];rfl)) ?_;(with_reducible refine (laws_heldProof.calls aF _ _ aB ai aj 1 am _ ?side1 ?side2 A81.out).mono ?_);(case side1=>repeat (first|exact (Kd.R_reads' ab.out).2.2|(with_reducible refine Kd.C_alloc ?_ _)|(with_reducible refine Kd.C_drewN ?_ _)|(with_reducible refine Kd.C_drew ?_)));(case side2=>rw [show aB.length=ac.length from (Kd.R_reads' ab.out).1.symm];exact (Kd.R_reads' ab.out).2.1);rintro e w133 ⟨rfl,hb⟩;refine ⟨_,rfl,?_⟩;refine Ya11 (Kd.R_below (kr ag.out) hb) (Kd.R_below (kr ah.out) hb) (Kd.R_below (kr ab.out) hb) (Kd.R_below (kr aq.out) hb) (Kd.R_below (kr aC.out) hb) (bb a3 hb) (bb a4 hb) (bb a5 hb) (bb a6 hb) (bb au hb) (below_step (bf HB.out) hb) ?_;clear ag ah ab aq aC a3 a4 a5 a6 au HB;intro ag ah ab aq aC a3 a4 a5 a6 au HB;(try clear hb);(try clear hb2);(try clear hk);(try clear hi)))
             go_ret
             exact ⟨Ye2,(bf HB.out)⟩
            ·rw [if_neg aQ] at H
             have df:(am==ar)=false:=beq_eq_false_iff_ne.mpr aQ;have dg:(am != ar)=true:=bne_iff_ne.mpr aQ;exact absurd ((Option.some.inj H).trans hrt) (by decide)
          ·replace bh:=Bool.eq_false_iff.mpr bh;subst bh
           rw [if_neg (show ¬(false=true) by decide)] at H
           exact absurd ((Option.some.inj H).trans hrt) (by decide)
         ·rw [if_neg aO] at H
          have dc:(ao==ar)=false:=beq_eq_false_iff_ne.mpr aO;have dd:(ao != ar)=true:=bne_iff_ne.mpr aO;exact absurd ((Option.some.inj H).trans hrt) (by decide)
    ·replace aX:=Bool.eq_false_iff.mpr aX;subst aX
     rw [if_neg (show ¬(false=true) by decide)] at H
     exact absurd ((Option.some.inj H).trans hrt) (by decide)
   ·replace aW:=Bool.eq_false_iff.mpr aW;subst aW
    rw [if_neg (show ¬(false=true) by decide)] at H
    exact absurd ((Option.some.inj H).trans hrt) (by decide)
end Go.Proofs.YthfpoacindblgaaDoor.P

