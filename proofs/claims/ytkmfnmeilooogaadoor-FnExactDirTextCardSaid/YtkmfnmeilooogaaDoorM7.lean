/- Several texts of this claim in one file: YtkmfnmeilooogaaDoorPImplDirText, YtkmfnmeilooogaaDoorPImplDirTextx, YtkmfnmeilooogaaDoorPLawsFnExactDirText, YtkmfnmeilooogaaDoorPImplTreeSum. -/
import Derived.Test.YtkmfnmeilooogaaDoorM2
import Derived.Test.YtkmfnmeilooogaaDoorM4
import Derived.Test.YtkmfnmeilooogaaDoorM6
import Derived.Test.YtkmfnmeilooogaaDoorM3
import Derived.Lib.ConvBytes
import Derived.Deep.DeepCutAuto
import Derived.Test.YtkmfnmeilooogaaDoorM5
namespace Go.Proofs.YtkmfnmeilooogaaDoor.P
open Go.RowKit Go.Proofs.YtkmfnmeilooogaaDoorW.PrintWords Go.Proofs.YtkmfnmeilooogaaDoorW.PrintLast Go.Proofs.YtkmfnmeilooogaaDoorW.PrintMore
attribute [local go_sem] max2_int min2_int max_two min_two max_three min_three max_four min_four
set_option linter.unusedVariables false
set_option linter.unusedSimpArgs false

/- Walked by hand. -/
open Go.Proofs.YtkmfnmeilooogaaDoor.Pure
theorem allK_1 {α:Type} (b:Nat) (M:List (ByteArray×α)):allK [(b,M)]=M.map (·.1):=by simp [allK]
theorem cell_1 {α:Type} (b t:Nat) (M:List (ByteArray×α)) (W:World):∀ i,(h:i < [(b,M)].length)→(W.alloc (.cells #[.map (some b)] t)).cell? (Addr.add ⟨W.heap.size,0,none⟩ i)=some (.map (some [(b,M)][i].1)):=by
 intro i h
 obtain rfl:i=0:=by simpa using h
 simp [Addr.add]
theorem str_zero (w:World):(zeroValue 9).run Tryd.prog w = .ok (.string ⟨#[]⟩) w:=by kernel_rfl
theorem dset3 {W w':World} {b:Nat} {t:TypeId} {c0 c1 c2 x0 x1 x2:Value} (h:W.heap[b]? = some (.cells #[c0,c1,c2] t (0,0))) (hw:w'=((W.setCell ⟨b,0,none⟩ x0).setCell ⟨b,1,none⟩ x1).setCell ⟨b,2,none⟩ x2) :
  w'.heap[b]? = some (.cells #[x0,x1,x2] t (0,0))∧W.grownBy w' (some b)∧w'.heap.size=W.heap.size:=set3 h hw
/-- A text turned to bytes. -/
theorem wpList_bytes {ops:Array Oper} {rest:List Oper} {o:Oper} {a:Act} {Q:Exit→Act→World→Prop} (w:World) (hg:o.guard=none) (x:Operand) (hop:o.op=Op.convert 9 25 x) (s:ByteArray) (hx:a.eval x = .string s)
  (hK:∀ b c w',(∀ i (h:i<s.data.toList.length),w'.cell? ⟨b,0+i,none⟩=some (.int .u8 ((s.data.toList[i]'h).toNat:Int)))→b<w'.heap.size→Below w.heap.size w w'→wpList Tryd.prog ops Q rest (a.put o.dst (.slice (some ⟨b,0,none⟩) s.size c)) w'):wpList Tryd.prog ops Q (o :: rest) a w:=by
 refine wpList_plain hg fun K' hK' => ?_
 have hrun:=Lib.run_convert_string_bytes w 9 25 5 s (u:=.string) Tryd.underlying9 Tryd.underlying25 Tryd.underlying5
 unfold Oper.wp
 simp [execOp,hop,hx,hrun,Result.andThen]
 refine hK' _ _ (hK _ _ _ (fun i h => ?_) (by rw [Lib.bytesWorld_size];omega) ⟨?_,?_,?_,?_,fun k hk=>Lib.bytesWorld_at_old w _ s k hk⟩)
 ·rw [Nat.zero_add,Lib.bytesWorld_cell w _ s i (by rw [←size_toList];exact h),List.getD_eq_getElem?_getD,List.getElem?_eq_getElem h]
  rfl
 ·simp [Lib.bytesWorld,World.freeze,World.alloc,World.drew,-World.alloc_eq,-World.drew_eq]
 ·simp [Lib.bytesWorld,World.freeze,World.alloc,World.drew,-World.alloc_eq,-World.drew_eq]
 ·simp [Lib.bytesWorld,World.freeze,World.alloc,World.drew,-World.alloc_eq,-World.drew_eq]
 ·rw [Lib.bytesWorld_size];omega
theorem hexc (b c:Nat) (s:ByteArray) (w:World) (hs:s.size≤1000000) (hc:∀ i (h:i<s.data.toList.length),w.cell? ⟨b,0+i,none⟩=some (.int .u8 ((s.data.toList[i]'h).toNat:Int))) (hb:b<w.heap.size) :
  Calls Tryd.prog 85 #[.slice (some ⟨b,0,none⟩) s.size c] w fun e w'=>e = .returned (.string (hexB s))∧Below w.heap.size w w' :=
 Tryd.hex_EncodeToString_bytes b 0 c s.data.toList w hc hb (by rw [size_toList];omega)
theorem cut_first (s:ByteArray):(⟨(Lib.cut s.data.toList [47]).1.toArray⟩:ByteArray)=firstB s∧(Lib.cut s.data.toList [47]).2.2=deep s:=by
 unfold Lib.cut
 rcases index_one 47 s.data.toList with ⟨h1,h2⟩|⟨a,r,h1,h2,h3⟩
 ·rw [h1,if_neg (by omega)]
  refine ⟨?_,(decide_eq_false h2).symm⟩
  rw [first_flat (s:=s) (decide_eq_false h2)]
 ·rw [h3,if_pos (by omega)]
  refine ⟨ba_ext ?_,?_⟩
  ·unfold firstB
   rw [mkB,mkB,h1,tw_hit h2,Int.toNat_natCast,List.take_left']
   rfl
  ·show true=deep s
   unfold deep
   rw [h1]
   simp
theorem cutc (s:ByteArray) (w:World) (hg:GOK w) (hs:s.size≤1000000) :
  Calls Tryd.prog 73 #[.string s,.string ⟨#[47]⟩] w fun e w' => ∃ x,e = .returned (.tuple #[.string (firstB s),.string x,.bool (deep s)]) ∧ ∃ n,w'=w.drewN n:=by
 obtain ⟨m,hm⟩:=hg
 refine (Tryd.strings_Cut s ⟨#[47]⟩ m w (by omega) hm).mono ?_
 rintro e w' ⟨rfl,hn⟩
 obtain ⟨h1,h2⟩:=cut_first s
 rw [←h1,←h2]
 exact ⟨_,rfl,hn⟩
theorem sumc (s:ByteArray) (wd:Int) (w:World) (hs:s.size≤1000000) :
  Calls Tryd.prog 49 #[.string s,.int .i64 wd] w fun e w'=>e = .returned (.string (sumOf s wd))∧Below w.heap.size w w' :=
 impl_Sum.calls (s.size+10) s wd (sumOf s wd) w (impl_Sum_eq s (by omega) wd (s.size+10) (by omega))
theorem overc (a b:ByteArray) (r:Bool) (w:World) (ha:a.size≤1048576) (h:begins a b=r) :
  Calls Tryd.prog 84 #[.string a,.string b] w fun e w'=>e = .returned (.bool r)∧Below w.heap.size w w':=by
 subst h
 refine (impl_over.calls a b _ w (impl_over_eq a b ha)).mono ?_
 rintro e w' ⟨he,hd⟩
 exact ⟨he,hd.below⟩
theorem gather_next (L:List ByteArray) (i:Nat) (h:i<L.length):gather (L.take (i+1))=gather (L.take i)++L[i]:=by
 unfold gather
 rw [List.take_succ_eq_append_getElem h,List.foldl_append]
 rfl
/-- The rows so far, as they lie under the directory. -/
theorem subT_next {l:List Entry} {dir:ByteArray} {i:Nat} (h:i<l.length) :
  subT (l.take (i+1)) dir=subT (l.take i) dir++(if dir.toList = [] then [l[i]] else if begins dir l[i].f0=true then [subE dir l[i]] else []):=by
 rw [List.take_succ_eq_append_getElem h]
 unfold subT
 by_cases hd:dir.toList = []
 ·rw [if_pos hd,if_pos hd,if_pos hd]
 ·rw [if_neg hd,if_neg hd,if_neg hd]
  unfold subL
  rw [List.filter_append,List.map_append]
  congr 1
  by_cases hb:begins dir l[i].f0=true
  ·rw [if_pos hb,List.filter_cons_of_pos (by exact hb),List.filter_nil]
   rfl
  ·rw [if_neg hb,List.filter_cons_of_neg (by exact hb),List.filter_nil]
   rfl
theorem subT_in {l:List Entry} {dir:ByteArray} {i:Nat} (h:i<l.length) {q:Entry} (hq:subT (l.take (i+1)) dir=subT (l.take i) dir ++ [q]):q ∈ subT l dir:=by
 have h1:q ∈ subT (l.take (i+1)) dir:=by rw [hq];simp
 unfold subT at h1 ⊢
 by_cases hd:dir.toList = []
 ·rw [if_pos hd] at h1 ⊢
  exact List.mem_of_mem_take h1
 ·rw [if_neg hd] at h1 ⊢
  obtain ⟨e,he,hb,rfl⟩:=sub_mem h1
  exact List.mem_map_of_mem (List.mem_filter.2 ⟨List.mem_of_mem_take he,hb⟩)
theorem subT_size {l:List Entry} {dir:ByteArray} {m:Nat} (h:∀ e ∈ l,e.f0.size≤m∧e.f1.size≤1500):∀ q ∈ subT l dir,q.f0.size≤m∧q.f1.size≤1500:=by
 intro q hq
 unfold subT at hq
 split at hq
 ·exact h q hq
 ·obtain ⟨e,he,_,rfl⟩:=sub_mem hq
  refine ⟨?_,(h e he).2⟩
  show (e.f0.extract (dir.size+1) e.f0.size).size≤m
  rw [ByteArray.size_extract]
  have:=(h e he).1
  omega
theorem onto_size {l:List Entry} {dir:ByteArray} {m:Nat} (h:∀ e ∈ l,e.f0.size≤m) {q:Entry} (hq:q ∈ subT l dir):(onto dir (firstB q.f0)).size≤m:=by
 unfold subT at hq
 unfold onto
 by_cases hd:dir.toList = []
 ·rw [if_pos hd] at hq ⊢
  exact Nat.le_trans (first_size _) (h q hq)
 ·rw [if_neg hd] at hq ⊢
  obtain ⟨e,he,hb,rfl⟩:=sub_mem hq
  have h1:=h e he
  have h2:=((begins_iff _ _).1 hb).1
  have h3:=first_size (subE dir e).f0
  have h4:(subE dir e).f0.size=e.f0.size - (dir.size+1):=by
   show (e.f0.extract (dir.size+1) e.f0.size).size=_
   rw [ByteArray.size_extract]
   omega
  have h5:(dir++(⟨#[47]⟩:ByteArray)++firstB (subE dir e).f0).size=dir.size+1+(firstB (subE dir e).f0).size:=by
   rw [ByteArray.size_append,ByteArray.size_append]
   rfl
  rw [h5]
  omega
def impl_dirText.f (l:List S34) (dir:ByteArray) (wd:Int):Option ByteArray:=if treeOk l=true∧(1≤wd∧wd≤8)∧dir.size≤126 then some (dirT wd 200 (subT l dir)) else none
set_option maxHeartbeats 8000000 in
set_option maxRecDepth 100000 in
theorem impl_dirText.at (wd:Int) (hwd:1≤wd∧wd≤8) (d:Nat):∀ (A0:Option Addr) (c0:Nat) (l:List S34) (dir:ByteArray) (w:World),GOK w→Kd.C k34 w A0 l.length l→l.length≤c0→treeOk l=true→dir.size≤126→(∀ e ∈ subT l dir,slashes e≤d) →
  Calls Tryd.prog 58 #[.agg #[.slice A0 l.length c0],.string dir,.int .i64 wd] w fun e w'=>e = .returned (.string (dirT wd (d+1) (subT l dir)))∧Below w.heap.size w w':=by
 induction d using Nat.strongRecOn with
 | ind d IH =>
 intro A0 c0 l dir w hg hr hc ht hdir hsl
 have HIH:=Aside0.mk IH
 have HG:=Aside0.mk hg
 have HR:=Aside0.mk hr
 have HC0:=Aside0.mk hc
 have HT:=Aside0.mk ht
 have HSL:=Aside0.mk hsl
 have HB:=Aside0.mk (Below.refl w.heap.size w)
 have HFIT:=Aside0.mk ((treeOk_fit ht).subT dir)
 have HLEN:=Aside0.mk (treeOk_len100 ht)
 have HSZ:=Aside0.mk (show ∀ e ∈ l,e.f0.size≤126∧e.f1.size≤1500 from fun e he=>⟨treeOk_size' ht e he,(entryOk_path (((treeOk_iff l).1 ht).2.1 e he)).2⟩)
 have HZR:=Aside0.mk (subT_size (dir:=dir) HSZ.out)
 have HDIR:=Aside0.mk hdir
 have HWD:=Aside0.mk hwd
 clear IH hg hr hc ht hsl hdir hwd
 obtain ⟨eb,hE⟩:∃ b,dir.toList.isEmpty=b:=⟨_,rfl⟩
 have HE:=Aside0.mk (show eb=true ↔ dir.toList = [] from by rw [←hE];exact List.isEmpty_iff)
 have hu50:=Tryd.underlying50
 have hu34:=Tryd.underlying34
 go_enter Tryd.func58,Tryd.ntmps58
 go_wp2_with (first
  | ((with_reducible refine gd 3 rfl ?_);refine bx 3 50 (#[.slice A0 l.length c0]) ?_;intro b3 hg w1 hbox hb;have G3:=Aside0.mk (bs hg (be HB.out));have HB_:=Aside0.mk (below_step (be HB.out) hb);clear HB;have HB:=HB_;clear HB_;have B3:=Aside0.mk hbox;clear hb hbox hg;have ⟨hz3,hf3⟩:=Yc1 B3.out)
  | ((with_reducible refine gd 19 rfl ?_);go_loud (refine wpList_make_M Value.string _ rfl _ rfl ?_);intro bm w2 hg hM hb;have GM:=Aside0.mk (bs hg (be HB.out));have N3M:=Aside0.mk (show b3≠bm from by have:=blk_lt B3.out;omega);have HB_:=Aside0.mk (below_step (be HB.out) hb);have B3_:=Aside0.mk (bb B3 hb);clear HB B3;have HB:=HB_;have B3:=B3_;clear HB_ B3_;have HM:=Aside0.mk hM;clear hM hb hg;(try clear hz3 hf3);have ⟨hz3,hf3⟩:=Yc1 B3.out))
 go_loopg [23] (l.length) (fun kq v_ w' => ∃ (i:Nat) (M:List (ByteArray×ByteArray)),v_ = .int .i64 (i:Int)∧Aside0 (kq+i=l.length)∧Aside0 (LineInv wd (dirT wd d) (subT l dir) (subT (l.take i) dir) M)∧Aside0 (M.length≤i)∧Aside0 (MapAt Value.string w' bm M)∧Aside0 (w'.heap[b3]? = some (.cells #[.slice A0 l.length c0] 50 (0,0)))∧Aside0 (Below w.heap.size w w'))
 case atStart=>exact ⟨0,[],rfl,⟨by omega⟩,⟨by have e:subT (l.take 0) dir = []:=(by unfold subT subL;split <;> rfl);rw [e];exact lineInv_start _ _ _⟩,⟨Nat.le_refl _⟩,HM,B3,HB⟩
 case round =>
 clear HM B3 HB hz3 hf3
 obtain ⟨i,M,rfl,HK,HI,HML,HM,B3,HB⟩:=hrel
 have hik:=HK.out
 have ⟨hz3,hf3⟩:=Yc1 B3.out
 by_cases hi:i<l.length
 ·have c1 : decide ((i : Int) < (l.length : Int)) = true := decide_eq_true (by omega)
  have c2:decide (0≤(i:Int))=true:=decide_eq_true (by omega)
  have c3:decide (i<l.length)=true:=decide_eq_true hi
  obtain ⟨ad,e1,hx0⟩:=at_T34 (Kd.C_below HR.out HB.out) (i:Int) (by omega) (by omega)
  subst e1
  obtain ⟨hx1,hx2,hx3⟩:=hx0
  rw [rdE_eq hi,Int.toNat_natCast] at hx1 hx2 hx3
  have HNX:=Aside0.mk (subT_next (dir:=dir) hi)
  have HEZ:=Aside0.mk (HSZ.out _ (List.getElem_mem hi))
  have HNXL:=Aside0.mk (show i+1≤1000 from by have:=HLEN.out;omega)
  have HW1:=Aside0.mk (show wrap64 ((i:Int)+1)=((i+1:Nat):Int) from by have:=HLEN.out;unfold wrap64;omega)
  generalize hen:l[i]=en at HNX HEZ hx1 hx2 hx3
  have HEN:=Aside0.mk hen
  clear hen
  obtain ⟨f0,f1,f2⟩:=en
  dsimp only at hx1 hx2 hx3
  go_upto_if 30 with (first
   | ((with_reducible refine gd 9 rfl ?_);refine bx 9 34 (#[.string ByteArray.empty,.string ByteArray.empty,.bool false]) ?_;intro b9 hg w7 hbox hb;have G9:=Aside0.mk (bs hg (be HB.out));have N9:=Aside0.mk (show b3≠b9∧bm≠b9 from by have h1:=blk_lt B3.out;have h2:=HM.out.lt;exact ⟨by omega,by omega⟩);have HB_:=Aside0.mk (below_step (be HB.out) hb);have B3_:=Aside0.mk (bb B3 hb);have HM_:=Aside0.mk (MapAt.over HM.out hb rfl);clear HB B3 HM;have HB:=HB_;have B3:=B3_;have HM:=HM_;clear HB_ B3_ HM_;have B9:=Aside0.mk hbox;clear hb hbox hg;(try clear hz3 hf3);have ⟨hz3,hf3⟩:=Yc1 B3.out;have ⟨hc0,hc1,hc2,he0,he1,he2⟩:=Yc3 B9.out)
   | (have g_:=B9;clear g_;(with_reducible refine gate_store (t:=34) rfl ?_);go_loud (refine store_event (w1:=((w7.setCell ⟨b9,0,none⟩ (.string f0)).setCell ⟨b9,1,none⟩ (.string f1)).setCell ⟨b9,2,none⟩ (.bool f2)) ?hg rfl ?hd ?hr ?_;(case hg=>rfl);(case hd=>rfl);(case hr=>first|(go_simp;done)|(go_simp;rfl));intro w8 hw;have S9:=dset3 B9.out hw;clear hw hc0 hc1 hc2 he0 he1 he2 hz3 hf3;have HM_:=Aside0.mk (HM.out.kept S9.2.1 (ne_some N9.out.2));have B3_:=Aside0.mk (blk_grown B3.out S9.2.1 (ne_some N9.out.1));have HB_:=Aside0.mk (below_own HB.out S9.2.1 G9.out);have B9_:=Aside0.mk S9.1;clear S9 HB B3 HM B9;have HB:=HB_;have B3:=B3_;have HM:=HM_;have BN:=B9_;clear HB_ B3_ HM_ B9_;have ⟨hz3,hf3⟩:=Yc1 B3.out;have ⟨hc0,hc1,hc2,he0,he1,he2⟩:=Yc3 BN.out)))
  go_cut [10] (fun s10 wx => ∃ (q:Entry),s10 = .string q.f0∧Aside0 (subT (l.take (i+1)) dir=subT (l.take i) dir ++ [q])∧Aside0 (q.f1=f1∧q.f2=f2)∧Aside0 (MapAt Value.string wx bm M)∧Aside0 (wx.heap[b3]? = some (.cells #[.slice (some ad) l.length c0] 50 (0,0)))∧Aside0 (wx.heap[b9]? = some (.cells #[.string f0,.string f1,.bool f2] 34 (0,0)))∧Aside0 (Below w.heap.size w wx))
  case first =>
   cases eb with
   | true =>
    have HD:=Aside0.mk (HE.out.1 rfl)
    have HN1:=HNX.out
    rw [if_pos HD.out] at HN1
    have HN2:=Aside0.mk HN1
    clear HN1
    go_wp2_with fail
    go_meet
    case rel=>exact ⟨⟨f0,f1,f2⟩,rfl,HN2,⟨⟨rfl,rfl⟩⟩,HM,B3,BN,HB⟩
   | false =>
    have hd:¬ dir.toList = []:=fun h=>by have:=HE.out.2 h;cases this
    have HN1:=HNX.out
    rw [if_neg hd] at HN1
    have HD:=Aside0.mk hd
    clear hd
    cases hb0:begins dir f0 with
    | false =>
     rw [if_neg (by rw [hb0];simp),List.append_nil] at HN1
     have HN2:=Aside0.mk HN1
     have HBG:=Aside0.mk hb0
     clear HN1 hb0
     have B9:=BN
     clear BN
     go_wp2_with (go_at_call 84;(with_reducible refine (overc dir f0 false _ (by have:=HDIR.out;omega) HBG.out).mono ?_);rintro e wo ⟨rfl,hb⟩;have HB_:=Aside0.mk (below_step (be HB.out) hb);have B3_:=Aside0.mk (bb B3 hb);have B9_:=Aside0.mk (bb B9 hb);have HM_:=Aside0.mk (MapAt.over HM.out hb rfl);clear HB B3 B9 HM hb;have HB:=HB_;have B3:=B3_;have B9:=B9_;have HM:=HM_;clear HB_ B3_ B9_ HM_;(try clear hz3 hf3 hc0 hc1 hc2 he0 he1 he2);have ⟨hz3,hf3⟩:=Yc1 B3.out;have ⟨hc0,hc1,hc2,he0,he1,he2⟩:=Yc3 B9.out)
     go_roundg (gk - 1)
     case measure=>omega
     case rel=>exact ⟨i+1,M,by first|rw [HW1.out]|exact congrArg (Value.int .i64) (by omega),⟨by omega⟩,⟨by rw [HN2.out];exact HI.out⟩,⟨by have:=HML.out;omega⟩,HM,B3,HB⟩
    | true =>
     rw [if_pos (by rw [hb0])] at HN1
     have HN2:=Aside0.mk HN1
     have HBG:=Aside0.mk hb0
     have hsz:=((begins_iff _ _).1 hb0).1
     have k1:decide ((dir.size:Int)+1≤(f0.size:Int))=true:=decide_eq_true (by omega)
     have k2:wrap64 ((dir.size:Int)+1)=(dir.size:Int)+1:=by have:=HDIR.out;unfold wrap64;omega
     have k3:decide (0≤(dir.size:Int)+1)=true:=decide_eq_true (by omega)
     have k4:dir.size+1≤f0.size:=by omega
     have K2:=Aside0.mk k2
     clear HN1 hb0 hsz k2
     have k5:dir.size≤126:=HDIR.out
     have B9:=BN
     clear BN
     go_wp2_with (go_at_call 84;(with_reducible refine (overc dir f0 true _ (by have:=HDIR.out;omega) HBG.out).mono ?_);rintro e wo ⟨rfl,hb⟩;have HB_:=Aside0.mk (below_step (be HB.out) hb);have B3_:=Aside0.mk (bb B3 hb);have B9_:=Aside0.mk (bb B9 hb);have HM_:=Aside0.mk (MapAt.over HM.out hb rfl);clear HB B3 B9 HM hb;have HB:=HB_;have B3:=B3_;have B9:=B9_;have HM:=HM_;clear HB_ B3_ B9_ HM_;(try clear hz3 hf3 hc0 hc1 hc2 he0 he1 he2);have ⟨hz3,hf3⟩:=Yc1 B3.out;have ⟨hc0,hc1,hc2,he0,he1,he2⟩:=Yc3 B9.out)
     go_meet
     case rel=>exact ⟨subE dir ⟨f0,f1,f2⟩,rfl,HN2,⟨⟨rfl,rfl⟩⟩,HM,B3,B9,HB⟩
  case rest =>
  clear HM B3 BN HB hz3 hf3 hc0 hc1 hc2 he0 he1 he2 hx1 hx2 hx3 HNX
  obtain ⟨q,rfl,HQ,HQF,HM,B3,B9,HB⟩:=hcut
  have ⟨hz3,hf3⟩:=Yc1 B3.out
  have ⟨hc0,hc1,hc2,he0,he1,he2⟩:=Yc3 B9.out
  have HQR:=Aside0.mk (subT_in hi HQ.out)
  have HQZ:=Aside0.mk (HZR.out q HQR.out)
  have hq0:=HQZ.out.1
  have hf1:f1.size≤1500:=by have:=HQZ.out.2;rw [HQF.out.1] at this;exact this
  have hn0:(firstB q.f0).size≤126:=Nat.le_trans (first_size _) hq0
  have z1_:5+f1.size≤9223372036854775807:=by omega
  have z1a:=eq_true z1_
  have z1b:decide (5+f1.size≤9223372036854775807)=true:=decide_eq_true z1_
  have z1c:(9223372036854775807<5+f1.size)=False:=eq_false (Nat.not_lt.2 z1_)
  have HF1:=Aside0.mk (show ((⟨#[102,105,108,101,32]⟩:ByteArray)++f1).size≤1000000 from by rw [ByteArray.size_append];show 5+f1.size≤1000000;omega)
  have HH:=Aside0.mk (hexB_size (sumOf ((⟨#[102,105,108,101,32]⟩:ByteArray)++f1) wd))
  have HS8:=Aside0.mk (sumOf_size ((⟨#[102,105,108,101,32]⟩:ByteArray)++f1) wd)
  clear z1_
  go_upto_if 64 with (first
   | (go_at_call 73;(with_reducible refine (cutc q.f0 _ (GOK.below HG.out (be HB.out)) (by have:=HQZ.out.1;omega)).mono ?_);rintro e wo ⟨xm,rfl,⟨nd,rfl⟩⟩)
   | (go_at_call 49;(with_reducible refine (sumc ((⟨#[102,105,108,101,32]⟩:ByteArray)++f1) wd _ HF1.out).mono ?_);rintro e ws ⟨rfl,hb⟩;have HB_:=Aside0.mk (below_step (be HB.out) hb);have B3_:=Aside0.mk (bb B3 hb);have B9_:=Aside0.mk (bb B9 hb);have HM_:=Aside0.mk (MapAt.over HM.out hb rfl);clear HB B3 B9 HM hb;have HB:=HB_;have B3:=B3_;have B9:=B9_;have HM:=HM_;clear HB_ B3_ B9_ HM_;(try clear hz3 hf3 hc0 hc1 hc2 he0 he1 he2);have ⟨hz3,hf3⟩:=Yc1 B3.out;have ⟨hc0,hc1,hc2,he0,he1,he2⟩:=Yc3 B9.out)
   | ((with_reducible refine gd 54 rfl ?_);refine wpList_bytes _ rfl _ rfl _ rfl ?_;intro bb_ cc_ wb hcell hlt hb;have HCELL:=Aside0.mk hcell;have HLT:=Aside0.mk hlt;clear hcell hlt;have HB_:=Aside0.mk (below_step (be HB.out) hb);have B3_:=Aside0.mk (bb B3 hb);have B9_:=Aside0.mk (bb B9 hb);have HM_:=Aside0.mk (MapAt.over HM.out hb rfl);clear HB B3 B9 HM hb;have HB:=HB_;have B3:=B3_;have B9:=B9_;have HM:=HM_;clear HB_ B3_ B9_ HM_;(try clear hz3 hf3 hc0 hc1 hc2 he0 he1 he2);have ⟨hz3,hf3⟩:=Yc1 B3.out;have ⟨hc0,hc1,hc2,he0,he1,he2⟩:=Yc3 B9.out)
   | (go_at_call 85;(with_reducible refine (hexc bb_ cc_ (sumOf ((⟨#[102,105,108,101,32]⟩:ByteArray)++f1) wd) _ (by have:=HS8.out;omega) HCELL.out HLT.out).mono ?_);rintro e wh ⟨rfl,hb⟩;clear HCELL HLT;have HB_:=Aside0.mk (below_step (be HB.out) hb);have B3_:=Aside0.mk (bb B3 hb);have B9_:=Aside0.mk (bb B9 hb);have HM_:=Aside0.mk (MapAt.over HM.out hb rfl);clear HB B3 B9 HM hb;have HB:=HB_;have B3:=B3_;have B9:=B9_;have HM:=HM_;clear HB_ B3_ B9_ HM_;(try clear hz3 hf3 hc0 hc1 hc2 he0 he1 he2);have ⟨hz3,hf3⟩:=Yc1 B3.out;have ⟨hc0,hc1,hc2,he0,he1,he2⟩:=Yc3 B9.out))
  have HI2:=Aside0.mk (lineInv_step (D':=fun n=>dirT wd d (subL n (subT l dir))) HFIT.out.tidy HQR.out rfl HI.out)
  rw [←HQ.out] at HI2
  have HNE:=Aside0.mk (first_ne (HFIT.out.whole q HQR.out))
  have HOS:=Aside0.mk (onto_size (m:=126) (fun e he=>(HSZ.out e he).1) HQR.out)
  have HSQ:=Aside0.mk (HSL.out q HQR.out)
  have HSUB:=Aside0.mk (show deep q.f0=true→1≤slashes q from fun h=>by
   unfold slashes
   exact List.count_pos_iff.2 (of_decide_eq_true h))
  unfold stepD at HI2
  have hn1:=hn0
  have hh0:(hexB (sumOf ((⟨#[102,105,108,101,32]⟩:ByteArray)++f1) wd)).size≤16:=by have h1:=HH.out;have h2:=HS8.out;omega
  generalize hnn:firstB q.f0=nn at HI2 HNE HOS hn1 ⊢
  have HNN:=Aside0.mk hnn
  clear hnn hn0
  cases hdp:deep q.f0 with
  | false =>
   rw [hdp,if_neg (by simp)] at HI2
   have HI3:=Aside0.mk (show LineInv wd (dirT wd d) (subT l dir) (subT (l.take (i+1)) dir) (mput nn (fileLine wd nn f1 f2) M) from by have:=HI2.out;rw [HQF.out.1,HQF.out.2] at this;exact this)
   have HLN:=Aside0.mk (mput_len nn (fileLine wd nn f1 f2) M)
   clear HI2 hdp
   unfold fileLine at HI3 HLN
   generalize hexB (sumOf ((⟨#[102,105,108,101,32]⟩:ByteArray)++f1) wd)=hh at HI3 HLN hh0 ⊢
   have y_:2+nn.size≤9223372036854775807:=by omega
   have ya0:=eq_true y_
   have yb0:decide (2+nn.size≤9223372036854775807)=true:=decide_eq_true y_
   have yc0:(9223372036854775807<2+nn.size)=False:=eq_false (Nat.not_lt.2 y_)
   clear y_
   have y_:2+nn.size+1≤9223372036854775807:=by omega
   have ya1:=eq_true y_
   have yb1:decide (2+nn.size+1≤9223372036854775807)=true:=decide_eq_true y_
   have yc1:(9223372036854775807<2+nn.size+1)=False:=eq_false (Nat.not_lt.2 y_)
   clear y_
   have y_:2+nn.size+1+hh.size≤9223372036854775807:=by omega
   have ya2:=eq_true y_
   have yb2:decide (2+nn.size+1+hh.size≤9223372036854775807)=true:=decide_eq_true y_
   have yc2:(9223372036854775807<2+nn.size+1+hh.size)=False:=eq_false (Nat.not_lt.2 y_)
   clear y_
   have y_:2+nn.size+1+hh.size+1≤9223372036854775807:=by omega
   have ya3:=eq_true y_
   have yb3:decide (2+nn.size+1+hh.size+1≤9223372036854775807)=true:=decide_eq_true y_
   have yc3:(9223372036854775807<2+nn.size+1+hh.size+1)=False:=eq_false (Nat.not_lt.2 y_)
   clear y_
   cases f2 with
   | true =>
    rw [if_pos rfl] at HI3 HLN
    go_wp2_with (at_mapUpdate;go_loud (refine wpList_store_M (enc:=Value.string) _ rfl _ _ _ 137 rfl 9 9 Tryd.underlying137 Tryd.underlying9 bm M rfl HM.out nn rfl _ rfl ?_;intro wm hM hg hs;have HM2:=Aside0.mk hM;have HB_:=Aside0.mk (below_own HB.out hg GM.out);have B3_:=Aside0.mk (blk_grown B3.out hg (ne_some N3M.out));clear HB B3 HM hM hg hs;have HB:=HB_;have B3:=B3_;clear HB_ B3_))
    go_roundg (gk - 1)
    case measure=>omega
    case rel=>exact ⟨i+1,_,by first|rw [HW1.out]|exact congrArg (Value.int .i64) (by omega),⟨by omega⟩,⟨HI3.out⟩,⟨by have h1:=HML.out;have h2:=HLN.out;omega⟩,HM2,B3,HB⟩
   | false =>
    rw [if_neg (by simp)] at HI3 HLN
    go_wp2_with (at_mapUpdate;go_loud (refine wpList_store_M (enc:=Value.string) _ rfl _ _ _ 137 rfl 9 9 Tryd.underlying137 Tryd.underlying9 bm M rfl HM.out nn rfl _ rfl ?_;intro wm hM hg hs;have HM2:=Aside0.mk hM;have HB_:=Aside0.mk (below_own HB.out hg GM.out);have B3_:=Aside0.mk (blk_grown B3.out hg (ne_some N3M.out));clear HB B3 HM hM hg hs;have HB:=HB_;have B3:=B3_;clear HB_ B3_))
    go_roundg (gk - 1)
    case measure=>omega
    case rel=>exact ⟨i+1,_,by first|rw [HW1.out]|exact congrArg (Value.int .i64) (by omega),⟨by omega⟩,⟨HI3.out⟩,⟨by have h1:=HML.out;have h2:=HLN.out;omega⟩,HM2,B3,HB⟩
  | true =>
   rw [hdp,if_pos rfl] at HI2
   have HS1:=Aside0.mk (HSUB.out hdp)
   obtain ⟨mv,hmv⟩:∃ v,mget (⟨#[]⟩:ByteArray) nn M=v:=⟨_,rfl⟩
   obtain ⟨em,hem⟩:∃ b,mv.toList.isEmpty=b:=⟨_,rfl⟩
   have HU:=Aside0.mk (show Value.string (mget (⟨#[]⟩:ByteArray) nn M) = .string mv from by rw [hmv])
   have HMV:=Aside0.mk hmv
   clear hmv hdp
   cases em with
   | false =>
    have HI3:=Aside0.mk (show LineInv wd (dirT wd d) (subT l dir) (subT (l.take (i+1)) dir) M from by have:=HI2.out;rw [HMV.out,if_neg (fun h=>by rw [h] at hem;cases hem)] at this;exact this)
    clear HI2
    go_wp2_with (at_lookup;refine wpList_look_M (enc:=Value.string) _ rfl _ _ 137 rfl 9 9 Tryd.underlying137 Tryd.underlying9 (⟨#[]⟩:ByteArray) (str_zero _) bm M rfl HM.out nn rfl _ HU.out ?_)
    go_roundg (gk - 1)
    case measure=>omega
    case rel=>exact ⟨i+1,_,by first|rw [HW1.out]|exact congrArg (Value.int .i64) (by omega),⟨by omega⟩,⟨HI3.out⟩,⟨by have h1:=HML.out;omega⟩,HM,B3,HB⟩
   | true =>
    have HI3:=Aside0.mk (show LineInv wd (dirT wd d) (subT l dir) (subT (l.take (i+1)) dir) (mput nn (dirLine wd nn (dirT wd d (subL nn (subT l dir)))) M) from by have:=HI2.out;rw [HMV.out,if_pos (List.isEmpty_iff.1 hem)] at this;exact this)
    have HLN:=Aside0.mk (mput_len nn (dirLine wd nn (dirT wd d (subL nn (subT l dir)))) M)
    clear HI2
    obtain ⟨d1,rfl⟩:∃ d1,d=d1+1:=⟨d - 1,by have h1:=HS1.out;have h2:=HSQ.out;omega⟩
    have eT:subT l (onto dir nn)=subL nn (subT l dir):=subT_onto l dir nn (by rw [Lib.toList_data];exact HNE.out)
    have HRC:=Aside0.mk (fun (W:World) (hg:GOK W) (hC:Kd.C k34 W (some ad) l.length l)=>HIH.out d1 (Nat.lt_succ_self _) (some ad) c0 l (onto dir nn) W hg hC HC0.out HT.out HOS.out (by
     rw [eT]
     intro e he
     have:=sub_shallow (n:=nn) (l:=subT l dir) (d:=d1+1) (fun e he=>Nat.lt_succ_of_le (HSL.out e he)) e he
     omega))
    rw [eT] at HRC
    have HTZ:=Aside0.mk (dirT_size wd 126 (d1+1) (subL nn (subT l dir)) (by
     have h1:=HLEN.out
     have h2:(subT l dir).length≤l.length:=by
      unfold subT subL
      split
      ·exact Nat.le_refl _
      ·rw [List.length_map]
       exact List.length_filter_le _ _
     have h3:(subL nn (subT l dir)).length≤(subT l dir).length:=by
      unfold subL
      rw [List.length_map]
      exact List.length_filter_le _ _
     omega) (fun x hx=>by
     obtain ⟨e,he,_,rfl⟩:=sub_mem hx
     have h1:=(HZR.out e he).1
     show (e.f0.extract (nn.size+1) e.f0.size).size≤126
     rw [ByteArray.size_extract]
     omega))
    clear eT
    generalize dirT wd (d1+1) (subL nn (subT l dir))=TT at HI3 HLN HRC HTZ
    have HH2:=Aside0.mk (hexB_size (sumOf TT wd))
    have HS82:=Aside0.mk (sumOf_size TT wd)
    have ht0:(hexB (sumOf TT wd)).size≤16:=by have h1:=HH2.out;have h2:=HS82.out;omega
    unfold dirLine at HI3 HLN
    have HHT:=Aside0.mk (hexc (s:=sumOf TT wd))
    generalize htt:hexB (sumOf TT wd)=th at HI3 HLN ht0 HHT
    clear htt HH2
    have y_:2+nn.size≤9223372036854775807:=by have hdz:=HDIR.out;omega
    have ya0:=eq_true y_
    have yb0:decide (2+nn.size≤9223372036854775807)=true:=decide_eq_true y_
    have yc0:(9223372036854775807<2+nn.size)=False:=eq_false (Nat.not_lt.2 y_)
    clear y_
    have y_:2+nn.size+1≤9223372036854775807:=by have hdz:=HDIR.out;omega
    have ya1:=eq_true y_
    have yb1:decide (2+nn.size+1≤9223372036854775807)=true:=decide_eq_true y_
    have yc1:(9223372036854775807<2+nn.size+1)=False:=eq_false (Nat.not_lt.2 y_)
    clear y_
    have y_:2+nn.size+1+th.size≤9223372036854775807:=by have hdz:=HDIR.out;omega
    have ya2:=eq_true y_
    have yb2:decide (2+nn.size+1+th.size≤9223372036854775807)=true:=decide_eq_true y_
    have yc2:(9223372036854775807<2+nn.size+1+th.size)=False:=eq_false (Nat.not_lt.2 y_)
    clear y_
    have y_:2+nn.size+1+th.size+1≤9223372036854775807:=by have hdz:=HDIR.out;omega
    have ya3:=eq_true y_
    have yb3:decide (2+nn.size+1+th.size+1≤9223372036854775807)=true:=decide_eq_true y_
    have yc3:(9223372036854775807<2+nn.size+1+th.size+1)=False:=eq_false (Nat.not_lt.2 y_)
    clear y_
    have y_:dir.size+1≤9223372036854775807:=by have hdz:=HDIR.out;omega
    have ya4:=eq_true y_
    have yb4:decide (dir.size+1≤9223372036854775807)=true:=decide_eq_true y_
    have yc4:(9223372036854775807<dir.size+1)=False:=eq_false (Nat.not_lt.2 y_)
    clear y_
    have y_:dir.size+1+nn.size≤9223372036854775807:=by have hdz:=HDIR.out;omega
    have ya5:=eq_true y_
    have yb5:decide (dir.size+1+nn.size≤9223372036854775807)=true:=decide_eq_true y_
    have yc5:(9223372036854775807<dir.size+1+nn.size)=False:=eq_false (Nat.not_lt.2 y_)
    clear y_
    cases eb with
    | true =>
     have HRC2:=HRC
     rw [show onto dir nn=nn from by unfold onto;rw [if_pos (HE.out.1 rfl)]] at HRC2
     clear HRC
     go_wp2_with (first
     | (at_lookup;refine wpList_look_M (enc:=Value.string) _ rfl _ _ 137 rfl 9 9 Tryd.underlying137 Tryd.underlying9 (⟨#[]⟩:ByteArray) (str_zero _) bm M rfl HM.out nn rfl _ HU.out ?_)
     | (go_at_call 58;go_loud ((with_reducible refine (HRC2.out _ (GOK.below HG.out (be HB.out)) (Kd.C_below HR.out (be HB.out))).mono ?_);rintro e wr2 ⟨rfl,hb⟩;have HB_:=Aside0.mk (below_step (be HB.out) hb);have B3_:=Aside0.mk (bb B3 hb);have B9_:=Aside0.mk (bb B9 hb);have HM_:=Aside0.mk (MapAt.over HM.out hb rfl);clear HB B3 B9 HM hb;have HB:=HB_;have B3:=B3_;have B9:=B9_;have HM:=HM_;clear HB_ B3_ B9_ HM_;(try clear hz3 hf3 hc0 hc1 hc2 he0 he1 he2);have ⟨hz3,hf3⟩:=Yc1 B3.out;have ⟨hc0,hc1,hc2,he0,he1,he2⟩:=Yc3 B9.out))
     | (go_at_call 49;(with_reducible refine (sumc TT wd _ (by have:=HTZ.out;omega)).mono ?_);rintro e ws ⟨rfl,hb⟩;have HB_:=Aside0.mk (below_step (be HB.out) hb);have B3_:=Aside0.mk (bb B3 hb);have B9_:=Aside0.mk (bb B9 hb);have HM_:=Aside0.mk (MapAt.over HM.out hb rfl);clear HB B3 B9 HM hb;have HB:=HB_;have B3:=B3_;have B9:=B9_;have HM:=HM_;clear HB_ B3_ B9_ HM_;(try clear hz3 hf3 hc0 hc1 hc2 he0 he1 he2);have ⟨hz3,hf3⟩:=Yc1 B3.out;have ⟨hc0,hc1,hc2,he0,he1,he2⟩:=Yc3 B9.out)
     | ((with_reducible refine gd 88 rfl ?_);refine wpList_bytes _ rfl _ rfl _ rfl ?_;intro bb_ cc_ wb hcell hlt hb;have HCELL:=Aside0.mk hcell;have HLT:=Aside0.mk hlt;clear hcell hlt;have HB_:=Aside0.mk (below_step (be HB.out) hb);have B3_:=Aside0.mk (bb B3 hb);have B9_:=Aside0.mk (bb B9 hb);have HM_:=Aside0.mk (MapAt.over HM.out hb rfl);clear HB B3 B9 HM hb;have HB:=HB_;have B3:=B3_;have B9:=B9_;have HM:=HM_;clear HB_ B3_ B9_ HM_;(try clear hz3 hf3 hc0 hc1 hc2 he0 he1 he2);have ⟨hz3,hf3⟩:=Yc1 B3.out;have ⟨hc0,hc1,hc2,he0,he1,he2⟩:=Yc3 B9.out)
     | (go_at_call 85;(with_reducible refine (HHT.out bb_ cc_ _ (by have:=HS82.out;omega) HCELL.out HLT.out).mono ?_);rintro e wh ⟨rfl,hb⟩;clear HCELL HLT;have HB_:=Aside0.mk (below_step (be HB.out) hb);have B3_:=Aside0.mk (bb B3 hb);have B9_:=Aside0.mk (bb B9 hb);have HM_:=Aside0.mk (MapAt.over HM.out hb rfl);clear HB B3 B9 HM hb;have HB:=HB_;have B3:=B3_;have B9:=B9_;have HM:=HM_;clear HB_ B3_ B9_ HM_;(try clear hz3 hf3 hc0 hc1 hc2 he0 he1 he2);have ⟨hz3,hf3⟩:=Yc1 B3.out;have ⟨hc0,hc1,hc2,he0,he1,he2⟩:=Yc3 B9.out)
     | (at_mapUpdate;go_loud (refine wpList_store_M (enc:=Value.string) _ rfl _ _ _ 137 rfl 9 9 Tryd.underlying137 Tryd.underlying9 bm M rfl HM.out nn rfl _ rfl ?_;intro wm hM hg hs;have HM2:=Aside0.mk hM;have HB_:=Aside0.mk (below_own HB.out hg GM.out);have B3_:=Aside0.mk (blk_grown B3.out hg (ne_some N3M.out));clear HB B3 HM hM hg hs;have HB:=HB_;have B3:=B3_;clear HB_ B3_)))
     go_roundg (gk - 1)
     case measure=>omega
     case rel=>exact ⟨i+1,_,by first|rw [HW1.out]|exact congrArg (Value.int .i64) (by omega),⟨by omega⟩,⟨HI3.out⟩,⟨by have h1:=HML.out;have h2:=HLN.out;omega⟩,HM2,B3,HB⟩
    | false =>
     have HRC2:=HRC
     rw [show onto dir nn=dir++(⟨#[47]⟩:ByteArray)++nn from by unfold onto;rw [if_neg (fun h=>by have:=HE.out.2 h;cases this)]] at HRC2
     clear HRC
     go_wp2_with (first
     | (at_lookup;refine wpList_look_M (enc:=Value.string) _ rfl _ _ 137 rfl 9 9 Tryd.underlying137 Tryd.underlying9 (⟨#[]⟩:ByteArray) (str_zero _) bm M rfl HM.out nn rfl _ HU.out ?_)
     | (go_at_call 58;go_loud ((with_reducible refine (HRC2.out _ (GOK.below HG.out (be HB.out)) (Kd.C_below HR.out (be HB.out))).mono ?_);rintro e wr2 ⟨rfl,hb⟩;have HB_:=Aside0.mk (below_step (be HB.out) hb);have B3_:=Aside0.mk (bb B3 hb);have B9_:=Aside0.mk (bb B9 hb);have HM_:=Aside0.mk (MapAt.over HM.out hb rfl);clear HB B3 B9 HM hb;have HB:=HB_;have B3:=B3_;have B9:=B9_;have HM:=HM_;clear HB_ B3_ B9_ HM_;(try clear hz3 hf3 hc0 hc1 hc2 he0 he1 he2);have ⟨hz3,hf3⟩:=Yc1 B3.out;have ⟨hc0,hc1,hc2,he0,he1,he2⟩:=Yc3 B9.out))
     | (go_at_call 49;(with_reducible refine (sumc TT wd _ (by have:=HTZ.out;omega)).mono ?_);rintro e ws ⟨rfl,hb⟩;have HB_:=Aside0.mk (below_step (be HB.out) hb);have B3_:=Aside0.mk (bb B3 hb);have B9_:=Aside0.mk (bb B9 hb);have HM_:=Aside0.mk (MapAt.over HM.out hb rfl);clear HB B3 B9 HM hb;have HB:=HB_;have B3:=B3_;have B9:=B9_;have HM:=HM_;clear HB_ B3_ B9_ HM_;(try clear hz3 hf3 hc0 hc1 hc2 he0 he1 he2);have ⟨hz3,hf3⟩:=Yc1 B3.out;have ⟨hc0,hc1,hc2,he0,he1,he2⟩:=Yc3 B9.out)
     | ((with_reducible refine gd 88 rfl ?_);refine wpList_bytes _ rfl _ rfl _ rfl ?_;intro bb_ cc_ wb hcell hlt hb;have HCELL:=Aside0.mk hcell;have HLT:=Aside0.mk hlt;clear hcell hlt;have HB_:=Aside0.mk (below_step (be HB.out) hb);have B3_:=Aside0.mk (bb B3 hb);have B9_:=Aside0.mk (bb B9 hb);have HM_:=Aside0.mk (MapAt.over HM.out hb rfl);clear HB B3 B9 HM hb;have HB:=HB_;have B3:=B3_;have B9:=B9_;have HM:=HM_;clear HB_ B3_ B9_ HM_;(try clear hz3 hf3 hc0 hc1 hc2 he0 he1 he2);have ⟨hz3,hf3⟩:=Yc1 B3.out;have ⟨hc0,hc1,hc2,he0,he1,he2⟩:=Yc3 B9.out)
     | (go_at_call 85;(with_reducible refine (HHT.out bb_ cc_ _ (by have:=HS82.out;omega) HCELL.out HLT.out).mono ?_);rintro e wh ⟨rfl,hb⟩;clear HCELL HLT;have HB_:=Aside0.mk (below_step (be HB.out) hb);have B3_:=Aside0.mk (bb B3 hb);have B9_:=Aside0.mk (bb B9 hb);have HM_:=Aside0.mk (MapAt.over HM.out hb rfl);clear HB B3 B9 HM hb;have HB:=HB_;have B3:=B3_;have B9:=B9_;have HM:=HM_;clear HB_ B3_ B9_ HM_;(try clear hz3 hf3 hc0 hc1 hc2 he0 he1 he2);have ⟨hz3,hf3⟩:=Yc1 B3.out;have ⟨hc0,hc1,hc2,he0,he1,he2⟩:=Yc3 B9.out)
     | (at_mapUpdate;go_loud (refine wpList_store_M (enc:=Value.string) _ rfl _ _ _ 137 rfl 9 9 Tryd.underlying137 Tryd.underlying9 bm M rfl HM.out nn rfl _ rfl ?_;intro wm hM hg hs;have HM2:=Aside0.mk hM;have HB_:=Aside0.mk (below_own HB.out hg GM.out);have B3_:=Aside0.mk (blk_grown B3.out hg (ne_some N3M.out));clear HB B3 HM hM hg hs;have HB:=HB_;have B3:=B3_;clear HB_ B3_)))
     go_roundg (gk - 1)
     case measure=>omega
     case rel=>exact ⟨i+1,_,by first|rw [HW1.out]|exact congrArg (Value.int .i64) (by omega),⟨by omega⟩,⟨HI3.out⟩,⟨by have h1:=HML.out;have h2:=HLN.out;omega⟩,HM2,B3,HB⟩
 have c1:decide ((i:Int)<(l.length:Int))=false:=decide_eq_false (by omega)
 have c3:decide (i<l.length)=false:=decide_eq_false hi
 have HI2:=HI.out
 rw [List.take_of_length_le (by omega)] at HI2
 have HTX:=Aside0.mk (lineInv_text HI2)
 have HVS:=Aside0.mk (show ∀ n,n ∈ keysS (M.map (·.1))→(mget (⟨#[]⟩:ByteArray) n M).size≤146 from fun n hn=>by
  rw [keysS_mem,HI2.1] at hn
  rw [HI2.2.1 n hn]
  obtain ⟨e,he,rfl⟩:=List.mem_map.1 hn
  have h1:=(lineOf_size wd (dirT wd d) (subT l dir) (firstB e.f0)).1
  have h2:=first_size e.f0
  have h3:=(HZR.out e he).1
  omega)
 have HKL:=Aside0.mk (show (keysS (M.map (·.1))).length≤100 from by
  have h1:=keysS_len (M.map (·.1))
  have h2:=HML.out
  have h3:=HLEN.out
  rw [List.length_map] at h1
  omega)
 have HMB:=Aside0.mk (show M.length≤100 from by have h2:=HML.out;have h3:=HLEN.out;omega)
 clear HI HI2 HK hik hi
 go_wp2_with (go_at_call 86;go_loud (refine (keysString_calls Value.string [(bm,M)] ⟨wr.heap.size,0,none⟩ 1 _ (cell_1 bm 137 M wr) (fun i h=>by obtain rfl:i=0:=(by simpa using h);exact HM.out.alloc _) (by simp) (by simp [sizeK];have:=HMB.out;omega)).mono ?_;rintro e w4 ⟨v,rfl,hR,hb⟩;rw [allK_1] at hR;obtain ⟨A,cp,rfl⟩:=Kd.R_slice hR;have HR4:=Aside0.mk hR;have HB2:=Aside0.mk (below_step (below_alloc HB.out _) hb);have HM4:=Aside0.mk ((HM.out.alloc _).below hb (HM.out.alloc _).lt);clear hR hb HB HM B3 hz3 hf3))
 generalize hks:keysS (M.map (·.1))=ks at HTX HVS HKL HR4 ⊢
 clear hks
 go_loopg [16,108] (ks.length) (fun kq s16 s108 w' => ∃ (i:Nat) (out:ByteArray),s16 = .string out∧s108 = .int .i64 (i:Int)∧Aside0 (kq+i=ks.length)∧Aside0 (out=gather ((ks.map fun n=>mget (⟨#[]⟩:ByteArray) n M).take i))∧Aside0 (out.size≤i*146)∧Aside0 (Below w4.heap.size w4 w'))
 case atStart=>exact ⟨0,⟨#[]⟩,rfl,rfl,⟨by omega⟩,⟨by rw [List.take_zero];rfl⟩,⟨Nat.zero_le _⟩,⟨Below.refl _ _⟩⟩
 case round =>
 clear c1 c3
 obtain ⟨i,out,rfl,rfl,HK,HO,HOZ,HB5⟩:=hrel
 have hik:=HK.out
 by_cases hi:i<ks.length
 ·have c1:decide ((i:Int)<(ks.length:Int))=true:=decide_eq_true (by omega)
  have c2:decide (0≤(i:Int))=true:=decide_eq_true (by omega)
  have c3:decide (i<ks.length)=true:=decide_eq_true hi
  obtain ⟨ad,e1,hx1⟩:=Kd.at_string (Kd.C_below (Kd.R_reads' HR4.out).2.2 HB5.out) (i:Int) (by omega) (by omega)
  cases e1
  rw [rd_eq _ hi,Int.toNat_natCast] at hx1
  have HV:=Aside0.mk (HVS.out ks[i] (List.getElem_mem hi))
  have HM5:=Aside0.mk (MapAt.over HM4.out HB5.out rfl)
  have HO2:=Aside0.mk (show out++mget (⟨#[]⟩:ByteArray) ks[i] M=gather ((ks.map fun n=>mget (⟨#[]⟩:ByteArray) n M).take (i+1)) from by
   rw [gather_next _ i (by rw [List.length_map];exact hi),←HO.out,List.getElem_map])
  generalize ks[i]=kk at hx1 HV HO2
  generalize hmv:mget (⟨#[]⟩:ByteArray) kk M=mv at HV HO2
  have HU:=Aside0.mk (show Value.string (mget (⟨#[]⟩:ByteArray) kk M) = .string mv from by rw [hmv])
  clear hmv
  have y_:out.size+mv.size≤9223372036854775807:=by have h1:=HOZ.out;have h2:=HV.out;have h3:=HKL.out;omega
  have ya:=eq_true y_
  have yb:decide (out.size+mv.size≤9223372036854775807)=true:=decide_eq_true y_
  have yc:(9223372036854775807<out.size+mv.size)=False:=eq_false (Nat.not_lt.2 y_)
  clear y_
  go_wp2_with (at_lookup;refine wpList_look_M (enc:=Value.string) _ rfl _ _ 137 rfl 9 9 Tryd.underlying137 Tryd.underlying9 (⟨#[]⟩:ByteArray) (str_zero _) bm M rfl HM5.out kk rfl _ HU.out ?_)
  go_roundg (gk - 1)
  case measure=>omega
  case rel=>exact ⟨i+1,_,rfl,by first|(rw [show wrap64 ((i:Int)+1)=((i+1:Nat):Int) from by have:=HKL.out;unfold wrap64;omega])|exact congrArg (Value.int .i64) (by omega),⟨by omega⟩,HO2,⟨by rw [ByteArray.size_append];have h1:=HOZ.out;have h2:=HV.out;omega⟩,HB5⟩
 ·have c1:decide ((i:Int)<(ks.length:Int))=false:=decide_eq_false (by omega)
  have c3:decide (i<ks.length)=false:=decide_eq_false hi
  have HO2:=HO.out
  rw [List.take_of_length_le (by rw [List.length_map];omega),HTX.out] at HO2
  have HO3:=Aside0.mk HO2
  clear HO HO2
  go_wp2
  go_ret
  exact ⟨by rw [HO3.out];rfl,below_step HB2.out HB5.out⟩
theorem impl_dirText.calls (A0_0:Option Addr) (c0_0:Nat) (l0_0:List S34) (a1:ByteArray) (a2:Int) (r:ByteArray) (w:World) (hg:GOK w) (hr0_0:Kd.C k34 w A0_0 l0_0.length l0_0) (hc0_0:l0_0.length≤c0_0) (h:impl_dirText.f l0_0 a1 a2=some r) :
  Calls Tryd.prog 58 #[.agg #[.slice A0_0 l0_0.length c0_0],.string a1,.int .i64 a2] w fun e w'=>e = .returned (.string r)∧Below w.heap.size w w':=by
 unfold impl_dirText.f at h
 split at h
 ·rename_i hc
  obtain rfl:=Option.some.inj h
  refine impl_dirText.at a2 hc.2.1 199 A0_0 c0_0 l0_0 a1 w hg hr0_0 hc0_0 hc.1 hc.2.2 (fun e he => ?_)
  have h1:=(subT_size (dir:=a1) (m:=126) (fun e he=>⟨treeOk_size' hc.1 e he,(entryOk_path (((treeOk_iff l0_0).1 hc.1).2.1 e he)).2⟩) e he).1
  have h2:=slashes_le e
  omega
 ·cases h


end Go.Proofs.YtkmfnmeilooogaaDoor.P


namespace Go.Proofs.YtkmfnmeilooogaaDoor.P
open Go.RowKit Go.Proofs.YtkmfnmeilooogaaDoorW.PrintWords Go.Proofs.YtkmfnmeilooogaaDoorW.PrintLast Go.Proofs.YtkmfnmeilooogaaDoorW.PrintMore
attribute [local go_sem] max2_int min2_int max_two min_two max_three min_three max_four min_four
set_option linter.unusedVariables false
set_option linter.unusedSimpArgs false

def impl_DirText.f (k:Nat) (a4:List (S34)) (a1:ByteArray) (a2:Int):Option (ByteArray):=(impl_ValidTree.f k a4).bind fun ae=>(if ae=true then (if a1.toList=([]:List UInt8) then ((impl_in.f a2 1 8).bind fun aa=>(if aa=true then ((impl_dirText.f a4 a1 a2).bind fun a8=>(some a8)) else (some (⟨#[]⟩:ByteArray)))) else ((impl_ValidPath.f k a1).bind fun ab=>(if ab=true then ((impl_in.f a2 1 8).bind fun a9=>(if a9=true then ((impl_dirText.f a4 a1 a2).bind fun a5=>(some a5)) else (some (⟨#[]⟩:ByteArray)))) else (some (⟨#[]⟩:ByteArray))))) else (some (⟨#[]⟩:ByteArray)))
theorem impl_DirText.mono:∀ a0 a1 a2 k,LeO (impl_DirText.f k a0 a1 a2) (impl_DirText.f (k+1) a0 a1 a2):=by
 intro a0 a1 a2 k
 unfold impl_DirText.f
 repeat' first
   | (with_reducible exact impl_ValidPath.mono _ _)
   | (with_reducible exact impl_ValidTree.mono _ _)
   | (with_reducible exact LeO.refl _)
   | (with_reducible exact LeO.none _)
   | (with_reducible refine LeO.ite ?_ ?_)
   | (with_reducible refine LeO.bind ?_ (fun _ => ?_))
   | exact impl_ValidPath.mono _ _
   | exact impl_ValidTree.mono _ _
   | exact LeO.none _
   | refine LeO.ite ?_ ?_
   | refine LeO.bind ?_ (fun _ => ?_)
set_option maxHeartbeats 8000000 in
set_option maxRecDepth 100000 in
theorem impl_DirText.calls (k:Nat) (a6:Option Addr) (a7:Nat) (a4:List (S34)) (a1:ByteArray) (a2:Int) (r:ByteArray) (w:World) (hg:GOK w) (al:Kd.C k34 w a6 a4.length a4) (am:a4.length≤a7) (h:impl_DirText.f k a4 a1 a2=some r) :
  Calls Tryd.prog 23 #[.agg #[.slice a6 a4.length a7],.string a1,.int .i64 a2] w fun e w'=>e = .returned (.string r)∧Below w.heap.size w w':=by
 have HG:=Aside0.mk hg;clear hg;have hu50:=Tryd.underlying50;have ac:=Aside0.mk al;have ad:=Aside0.mk am;clear al am;have HB:=Aside0.mk (Below.refl w.heap.size w);have H:((impl_ValidTree.f k a4).bind fun ae=>(if ae=true then (if a1.toList=([]:List UInt8) then ((impl_in.f a2 1 8).bind fun aa=>(if aa=true then ((impl_dirText.f a4 a1 a2).bind fun a8=>(some a8)) else (some (⟨#[]⟩:ByteArray)))) else ((impl_ValidPath.f k a1).bind fun ab=>(if ab=true then ((impl_in.f a2 1 8).bind fun a9=>(if a9=true then ((impl_dirText.f a4 a1 a2).bind fun a5=>(some a5)) else (some (⟨#[]⟩:ByteArray)))) else (some (⟨#[]⟩:ByteArray))))) else (some (⟨#[]⟩:ByteArray))))=some r:=h;clear h;replace H:=Option.bind_eq_some_iff.mp H;obtain ⟨ae,A40,H⟩:=H;replace H:(if ae=true then (if a1.toList=([]:List UInt8) then ((impl_in.f a2 1 8).bind fun aa=>(if aa=true then ((impl_dirText.f a4 a1 a2).bind fun a8=>(some a8)) else (some (⟨#[]⟩:ByteArray)))) else ((impl_ValidPath.f k a1).bind fun ab=>(if ab=true then ((impl_in.f a2 1 8).bind fun a9=>(if a9=true then ((impl_dirText.f a4 a1 a2).bind fun a5=>(some a5)) else (some (⟨#[]⟩:ByteArray)))) else (some (⟨#[]⟩:ByteArray))))) else (some (⟨#[]⟩:ByteArray)))=some r:=H;have A4:=Aside0.mk A40;clear A40
 by_cases c5:ae=true
 ·subst c5
  have H1:(if a1.toList=([]:List UInt8) then ((impl_in.f a2 1 8).bind fun aa=>(if aa=true then ((impl_dirText.f a4 a1 a2).bind fun a8=>(some a8)) else (some (⟨#[]⟩:ByteArray)))) else ((impl_ValidPath.f k a1).bind fun ab=>(if ab=true then ((impl_in.f a2 1 8).bind fun a9=>(if a9=true then ((impl_dirText.f a4 a1 a2).bind fun a5=>(some a5)) else (some (⟨#[]⟩:ByteArray)))) else (some (⟨#[]⟩:ByteArray)))))=some r:=by rw [if_pos rfl] at H;exact H
  clear H;have H:=H1;clear H1
  by_cases c6:a1.toList=([]:List UInt8)
  ·rw [if_pos c6] at H
   have aq:(a1.toList==([]:List UInt8))=true:=beq_iff_eq.mpr c6;have ar:(a1.toList != ([]:List UInt8))=false:=bne_eq_false_iff_eq.mpr c6;clear c6;replace H:=Option.bind_eq_some_iff.mp H;obtain ⟨aa,A70,H⟩:=H;replace H:(if aa=true then ((impl_dirText.f a4 a1 a2).bind fun a8=>(some a8)) else (some (⟨#[]⟩:ByteArray)))=some r:=H;have A7:=Aside0.mk A70;clear A70
   by_cases c8:aa=true
   ·subst c8
    have H1:((impl_dirText.f a4 a1 a2).bind fun a8=>(some a8))=some r:=by rw [if_pos rfl] at H;exact H
    clear H;have H:=H1;clear H1;replace H:=Option.bind_eq_some_iff.mp H;obtain ⟨a8,A90,H⟩:=H;replace H:(some a8)=some r:=H;have A9:=Aside0.mk A90;clear A90;obtain rfl:=Option.some.inj H
    go_enter Tryd.func23,Tryd.ntmps23
    go_wp2_with (first|((with_reducible refine gd 3 rfl ?_);refine bx 3 50 (#[.slice a6 a4.length a7]) ?_;intro af hg w10 hbox hb;refine Ya4 (below_step (be HB.out) hb) (hbox) (bs hg (be HB.out)) (bs hg (be HB.out)) ?_;clear HB;intro HB a3 ag ah;clear hb hbox hg;have ⟨au,av⟩:=Yc1 a3.out)|((with_reducible refine gc 57 rfl ?_);refine gl (some 8) _ (#[.agg #[.slice a6 a4.length a7]]) Tryd.func57 ?_;(with_reducible refine (impl_ValidTree.calls k _ _ a4 true _ ?sideG ?side1 ?side2 A4.out).mono ?_);(case sideG=>exact gf HG.out HB.out);(case side1=>exact cb (Kd.C_below ac.out HB.out));(case side2=>exact ad.out);rintro e w12 ⟨rfl,hb⟩;refine ⟨_,rfl,?_⟩;refine Ya2 (bb a3 hb) (below_step (bf HB.out) hb) ?_;clear a3 HB;intro a3 HB;(try clear hb);(try clear hb2);(try clear hk);(try clear hi))|(go_at_call 47;(with_reducible refine (impl_in.calls a2 1 8 true _ A7.out).mono ?_);rintro e w' ⟨rfl,⟨nd,rfl⟩⟩;have ⟨aw,ax⟩:=Yc1 a3.out)|((with_reducible refine gc 58 rfl ?_);refine gl (some 27) _ (#[.agg #[.slice a6 a4.length a7],.string a1,.int .i64 a2]) Tryd.func58 ?_;(with_reducible refine (impl_dirText.calls _ _ a4 a1 a2 a8 _ ?sideG ?side1 ?side2 A9.out).mono ?_);(case sideG=>exact gf HG.out HB.out);(case side1=>repeat (first|exact (Kd.C_below ac.out (bf HB.out))|(with_reducible refine Kd.C_alloc ?_ _)|(with_reducible refine Kd.C_drewN ?_ _)|(with_reducible refine Kd.C_drew ?_)));(case side2=>exact ad.out);rintro e w14 ⟨rfl,hb⟩;refine ⟨_,rfl,?_⟩;refine Ya2 (bb a3 hb) (below_step (bf HB.out) hb) ?_;clear a3 HB;intro a3 HB;(try clear hb);(try clear hb2);(try clear hk);(try clear hi)))
    go_ret
    exact ⟨Ye2,(bf HB.out)⟩
   ·replace c8:=Bool.eq_false_iff.mpr c8;subst c8
    have H1:(some (⟨#[]⟩:ByteArray))=some r:=by rw [if_neg (show ¬(false=true) by decide)] at H;exact H
    clear H;have H:=H1;clear H1;obtain rfl:=Option.some.inj H
    go_enter Tryd.func23,Tryd.ntmps23
    go_wp2_with (first|((with_reducible refine gd 3 rfl ?_);refine bx 3 50 (#[.slice a6 a4.length a7]) ?_;intro af hg w15 hbox hb;refine Ya4 (below_step (be HB.out) hb) (hbox) (bs hg (be HB.out)) (bs hg (be HB.out)) ?_;clear HB;intro HB a3 ag ah;clear hb hbox hg;have ⟨ay,az⟩:=Yc1 a3.out)|((with_reducible refine gc 57 rfl ?_);refine gl (some 8) _ (#[.agg #[.slice a6 a4.length a7]]) Tryd.func57 ?_;(with_reducible refine (impl_ValidTree.calls k _ _ a4 true _ ?sideG ?side1 ?side2 A4.out).mono ?_);(case sideG=>exact gf HG.out HB.out);(case side1=>exact cb (Kd.C_below ac.out HB.out));(case side2=>exact ad.out);rintro e w17 ⟨rfl,hb⟩;refine ⟨_,rfl,?_⟩;refine Ya2 (bb a3 hb) (below_step (bf HB.out) hb) ?_;clear a3 HB;intro a3 HB;(try clear hb);(try clear hb2);(try clear hk);(try clear hi))|(go_at_call 47;(with_reducible refine (impl_in.calls a2 1 8 false _ A7.out).mono ?_);rintro e w' ⟨rfl,⟨nd,rfl⟩⟩))
    go_ret
    exact ⟨Ye2,(bf HB.out)⟩
  ·rw [if_neg c6] at H
   have aq:(a1.toList==([]:List UInt8))=false:=beq_eq_false_iff_ne.mpr c6;have ar:(a1.toList != ([]:List UInt8))=true:=bne_iff_ne.mpr c6;replace H:=Option.bind_eq_some_iff.mp H;obtain ⟨ab,an,H⟩:=H;replace H:(if ab=true then ((impl_in.f a2 1 8).bind fun a9=>(if a9=true then ((impl_dirText.f a4 a1 a2).bind fun a5=>(some a5)) else (some (⟨#[]⟩:ByteArray)))) else (some (⟨#[]⟩:ByteArray)))=some r:=H;have ak:=Aside0.mk an;clear an
   by_cases ai:ab=true
   ·subst ai
    have H1:((impl_in.f a2 1 8).bind fun a9=>(if a9=true then ((impl_dirText.f a4 a1 a2).bind fun a5=>(some a5)) else (some (⟨#[]⟩:ByteArray))))=some r:=by rw [if_pos rfl] at H;exact H
    clear H;have H:=H1;clear H1;replace H:=Option.bind_eq_some_iff.mp H;obtain ⟨a9,ao,H⟩:=H;replace H:(if a9=true then ((impl_dirText.f a4 a1 a2).bind fun a5=>(some a5)) else (some (⟨#[]⟩:ByteArray)))=some r:=H;have A20:=Aside0.mk ao;clear ao
    by_cases aj:a9=true
    ·subst aj
     have H1:((impl_dirText.f a4 a1 a2).bind fun a5=>(some a5))=some r:=by rw [if_pos rfl] at H;exact H
     clear H;have H:=H1;clear H1;replace H:=Option.bind_eq_some_iff.mp H;obtain ⟨a5,ap,H⟩:=H;replace H:(some a5)=some r:=H;have A22:=Aside0.mk ap;clear ap;obtain rfl:=Option.some.inj H
     go_enter Tryd.func23,Tryd.ntmps23
     go_wp2_with (first|((with_reducible refine gd 3 rfl ?_);refine bx 3 50 (#[.slice a6 a4.length a7]) ?_;intro af hg w23 hbox hb;refine Ya4 (below_step (be HB.out) hb) (hbox) (bs hg (be HB.out)) (bs hg (be HB.out)) ?_;clear HB;intro HB a3 ag ah;clear hb hbox hg;have ⟨aA,aB⟩:=Yc1 a3.out)|((with_reducible refine gc 57 rfl ?_);refine gl (some 8) _ (#[.agg #[.slice a6 a4.length a7]]) Tryd.func57 ?_;(with_reducible refine (impl_ValidTree.calls k _ _ a4 true _ ?sideG ?side1 ?side2 A4.out).mono ?_);(case sideG=>exact gf HG.out HB.out);(case side1=>exact cb (Kd.C_below ac.out HB.out));(case side2=>exact ad.out);rintro e w25 ⟨rfl,hb⟩;refine ⟨_,rfl,?_⟩;refine Ya2 (bb a3 hb) (below_step (bf HB.out) hb) ?_;clear a3 HB;intro a3 HB;(try clear hb);(try clear hb2);(try clear hk);(try clear hi))|(go_at_call 46;(with_reducible refine (impl_ValidPath.calls k a1 true _ ?sideG ak.out).mono ?_);(case sideG=>exact gf HG.out HB.out);rintro e w26 ⟨rfl,hb⟩;refine Ya2 (bb a3 hb) (below_step (bf HB.out) hb) ?_;clear a3 HB;intro a3 HB;(try clear hb);(try clear hb2);(try clear hk);(try clear hi))|(go_at_call 47;(with_reducible refine (impl_in.calls a2 1 8 true _ A20.out).mono ?_);rintro e w' ⟨rfl,⟨nd,rfl⟩⟩;have ⟨aC,aD⟩:=Yc1 a3.out)|((with_reducible refine gc 58 rfl ?_);refine gl (some 27) _ (#[.agg #[.slice a6 a4.length a7],.string a1,.int .i64 a2]) Tryd.func58 ?_;(with_reducible refine (impl_dirText.calls _ _ a4 a1 a2 a5 _ ?sideG ?side1 ?side2 A22.out).mono ?_);(case sideG=>exact gf HG.out HB.out);(case side1=>repeat (first|exact (Kd.C_below ac.out (bf HB.out))|(with_reducible refine Kd.C_alloc ?_ _)|(with_reducible refine Kd.C_drewN ?_ _)|(with_reducible refine Kd.C_drew ?_)));(case side2=>exact ad.out);rintro e w28 ⟨rfl,hb⟩;refine ⟨_,rfl,?_⟩;refine Ya2 (bb a3 hb) (below_step (bf HB.out) hb) ?_;clear a3 HB;intro a3 HB;(try clear hb);(try clear hb2);(try clear hk);(try clear hi)))
     go_ret
     exact ⟨Ye2,(bf HB.out)⟩
    ·replace aj:=Bool.eq_false_iff.mpr aj;subst aj
     have H1:(some (⟨#[]⟩:ByteArray))=some r:=by rw [if_neg (show ¬(false=true) by decide)] at H;exact H
     clear H;have H:=H1;clear H1;obtain rfl:=Option.some.inj H
     go_enter Tryd.func23,Tryd.ntmps23
     go_wp2_with (first|((with_reducible refine gd 3 rfl ?_);refine bx 3 50 (#[.slice a6 a4.length a7]) ?_;intro af hg w29 hbox hb;refine Ya4 (below_step (be HB.out) hb) (hbox) (bs hg (be HB.out)) (bs hg (be HB.out)) ?_;clear HB;intro HB a3 ag ah;clear hb hbox hg;have ⟨aE,aF⟩:=Yc1 a3.out)|((with_reducible refine gc 57 rfl ?_);refine gl (some 8) _ (#[.agg #[.slice a6 a4.length a7]]) Tryd.func57 ?_;(with_reducible refine (impl_ValidTree.calls k _ _ a4 true _ ?sideG ?side1 ?side2 A4.out).mono ?_);(case sideG=>exact gf HG.out HB.out);(case side1=>exact cb (Kd.C_below ac.out HB.out));(case side2=>exact ad.out);rintro e w31 ⟨rfl,hb⟩;refine ⟨_,rfl,?_⟩;refine Ya2 (bb a3 hb) (below_step (bf HB.out) hb) ?_;clear a3 HB;intro a3 HB;(try clear hb);(try clear hb2);(try clear hk);(try clear hi))|(go_at_call 46;(with_reducible refine (impl_ValidPath.calls k a1 true _ ?sideG ak.out).mono ?_);(case sideG=>exact gf HG.out HB.out);rintro e w32 ⟨rfl,hb⟩;refine Ya2 (bb a3 hb) (below_step (bf HB.out) hb) ?_;clear a3 HB;intro a3 HB;(try clear hb);(try clear hb2);(try clear hk);(try clear hi))|(go_at_call 47;(with_reducible refine (impl_in.calls a2 1 8 false _ A20.out).mono ?_);rintro e w' ⟨rfl,⟨nd,rfl⟩⟩))
     go_ret
     exact ⟨Ye2,(bf HB.out)⟩
   ·replace ai:=Bool.eq_false_iff.mpr ai;subst ai
    have H1:(some (⟨#[]⟩:ByteArray))=some r:=by rw [if_neg (show ¬(false=true) by decide)] at H;exact H
    clear H;have H:=H1;clear H1;obtain rfl:=Option.some.inj H
    go_enter Tryd.func23,Tryd.ntmps23
    go_wp2_with (first|((with_reducible refine gd 3 rfl ?_);refine bx 3 50 (#[.slice a6 a4.length a7]) ?_;intro af hg w33 hbox hb;refine Ya4 (below_step (be HB.out) hb) (hbox) (bs hg (be HB.out)) (bs hg (be HB.out)) ?_;clear HB;intro HB a3 ag ah;clear hb hbox hg;have ⟨aG,aH⟩:=Yc1 a3.out)|((with_reducible refine gc 57 rfl ?_);refine gl (some 8) _ (#[.agg #[.slice a6 a4.length a7]]) Tryd.func57 ?_;(with_reducible refine (impl_ValidTree.calls k _ _ a4 true _ ?sideG ?side1 ?side2 A4.out).mono ?_);(case sideG=>exact gf HG.out HB.out);(case side1=>exact cb (Kd.C_below ac.out HB.out));(case side2=>exact ad.out);rintro e w35 ⟨rfl,hb⟩;refine ⟨_,rfl,?_⟩;refine Ya2 (bb a3 hb) (below_step (bf HB.out) hb) ?_;clear a3 HB;intro a3 HB;(try clear hb);(try clear hb2);(try clear hk);(try clear hi))|(go_at_call 46;(with_reducible refine (impl_ValidPath.calls k a1 false _ ?sideG ak.out).mono ?_);(case sideG=>exact gf HG.out HB.out);rintro e w36 ⟨rfl,hb⟩;refine Ya2 (bb a3 hb) (below_step (bf HB.out) hb) ?_;clear a3 HB;intro a3 HB;(try clear hb);(try clear hb2);(try clear hk);(try clear hi)))
    go_ret
    exact ⟨Ye2,(bf HB.out)⟩
 ·replace c5:=Bool.eq_false_iff.mpr c5;subst c5
  have H1:(some (⟨#[]⟩:ByteArray))=some r:=by rw [if_neg (show ¬(false=true) by decide)] at H;exact H
  clear H;have H:=H1;clear H1;obtain rfl:=Option.some.inj H
  go_enter Tryd.func23,Tryd.ntmps23
  go_wp2_with (first|((with_reducible refine gd 3 rfl ?_);refine bx 3 50 (#[.slice a6 a4.length a7]) ?_;intro af hg w37 hbox hb;refine Ya4 (below_step (be HB.out) hb) (hbox) (bs hg (be HB.out)) (bs hg (be HB.out)) ?_;clear HB;intro HB a3 ag ah;clear hb hbox hg;have ⟨aI,aJ⟩:=Yc1 a3.out)|((with_reducible refine gc 57 rfl ?_);refine gl (some 8) _ (#[.agg #[.slice a6 a4.length a7]]) Tryd.func57 ?_;(with_reducible refine (impl_ValidTree.calls k _ _ a4 false _ ?sideG ?side1 ?side2 A4.out).mono ?_);(case sideG=>exact gf HG.out HB.out);(case side1=>exact cb (Kd.C_below ac.out HB.out));(case side2=>exact ad.out);rintro e w39 ⟨rfl,hb⟩;refine ⟨_,rfl,?_⟩;refine Ya2 (bb a3 hb) (below_step (bf HB.out) hb) ?_;clear a3 HB;intro a3 HB;(try clear hb);(try clear hb2);(try clear hk);(try clear hi)))
  go_ret
  exact ⟨Ye2,(bf HB.out)⟩

end Go.Proofs.YtkmfnmeilooogaaDoor.P


namespace Go.Proofs.YtkmfnmeilooogaaDoor.P
open Go.RowKit Go.Proofs.YtkmfnmeilooogaaDoorW.PrintWords Go.Proofs.YtkmfnmeilooogaaDoorW.PrintLast Go.Proofs.YtkmfnmeilooogaaDoorW.PrintMore
attribute [local go_sem] max2_int min2_int max_two min_two max_three min_three max_four min_four
set_option linter.unusedVariables false
set_option linter.unusedSimpArgs false

def laws_FnExactDirText.f (k:Nat) (a4:List (S130)) (a1:ByteArray) (a2:Int):Option (Bool):=if (a1.size:Int)>1048576 then (some true) else ((laws_szTree.f k a4 1048576).bind fun ag=>(if ag<0 then (some true) else ((laws_toTree.f k a4).bind fun ad=>((spec_DirText.f k ad a1 a2).bind fun ac=>((laws_toTree.f k a4).bind fun a5=>((impl_DirText.f k a5 a1 a2).bind fun a9=>(if a9.toList=ac.toList then ((laws_toTree.f k a4).bind fun aa=>((laws_eqTree.f k a5 aa).bind fun ab=>(if ab=true then (some true) else (some false)))) else (some false))))))))
theorem laws_FnExactDirText.mono:∀ a0 a1 a2 k,LeO (laws_FnExactDirText.f k a0 a1 a2) (laws_FnExactDirText.f (k+1) a0 a1 a2):=by
 intro a0 a1 a2 k
 unfold laws_FnExactDirText.f
 repeat' first
   | (with_reducible exact impl_DirText.mono _ _ _ _)
   | (with_reducible exact laws_eqTree.mono _ _ _)
   | (with_reducible exact laws_szTree.mono _ _ _)
   | (with_reducible exact laws_toTree.mono _ _)
   | (with_reducible exact spec_DirText.mono _ _ _ _)
   | (with_reducible exact LeO.refl _)
   | (with_reducible exact LeO.none _)
   | (with_reducible refine LeO.ite ?_ ?_)
   | (with_reducible refine LeO.bind ?_ (fun _ => ?_))
   | exact impl_DirText.mono _ _ _ _
   | exact laws_eqTree.mono _ _ _
   | exact laws_szTree.mono _ _ _
   | exact laws_toTree.mono _ _
   | exact spec_DirText.mono _ _ _ _
   | exact LeO.none _
   | refine LeO.ite ?_ ?_
   | refine LeO.bind ?_ (fun _ => ?_)
set_option maxHeartbeats 8000000 in
set_option maxRecDepth 100000 in
theorem laws_FnExactDirText.calls (k:Nat) (ae:Option Addr) (af:Nat) (a4:List (S130)) (a1:ByteArray) (a2:Int) (r:Bool) (w:World) (hg:GOK w) (ap:Kd.C k130 w ae a4.length a4) (aq:a4.length≤af) (h:laws_FnExactDirText.f k a4 a1 a2=some r) (hrt:r=true) :
  Calls Tryd.prog 7 #[.agg #[.slice ae a4.length af],.string a1,.int .i64 a2] w fun e w'=>e = .returned (.bool r)∧Below w.heap.size w w':=by
 have HG:=Aside0.mk hg;clear hg;have hu45:=Tryd.underlying45;have hu50:=Tryd.underlying50;have aj:=Aside0.mk ap;have ak:=Aside0.mk aq;clear ap aq;have HB:=Aside0.mk (Below.refl w.heap.size w);have H:(if (a1.size:Int)>1048576 then (some true) else ((laws_szTree.f k a4 1048576).bind fun ag=>(if ag<0 then (some true) else ((laws_toTree.f k a4).bind fun ad=>((spec_DirText.f k ad a1 a2).bind fun ac=>((laws_toTree.f k a4).bind fun a5=>((impl_DirText.f k a5 a1 a2).bind fun a9=>(if a9.toList=ac.toList then ((laws_toTree.f k a4).bind fun aa=>((laws_eqTree.f k a5 aa).bind fun ab=>(if ab=true then (some true) else (some false)))) else (some false)))))))))=some r:=h;clear h
 by_cases c4:(a1.size:Int)>1048576
 ·rw [if_pos c4] at H
  have aG:decide (1048576<(a1.size:Int))=true:=decide_eq_true c4;have aH:decide (1048576<a1.size)=true:=decide_eq_true (by omega);clear c4;obtain rfl:=Option.some.inj H
  go_enter Tryd.func7,Tryd.ntmps7
  go_wp2_with (first|((with_reducible refine gd 3 rfl ?_);refine bx 3 45 (#[.slice ae a4.length af]) ?_;intro ao hg w5 hbox hb;refine Ya4 (below_step (be HB.out) hb) (hbox) (bs hg (be HB.out)) (bs hg (be HB.out)) ?_;clear HB;intro HB a3 ar au;clear hb hbox hg))
  go_ret
  exact ⟨Ye2,(bf HB.out)⟩
 ·rw [if_neg c4] at H
  have aG:decide (1048576<(a1.size:Int))=false:=decide_eq_false c4;have aH:decide (1048576<a1.size)=false:=decide_eq_false (by omega);clear c4;replace H:=Option.bind_eq_some_iff.mp H;obtain ⟨ag,A60,H⟩:=H;replace H:(if ag<0 then (some true) else ((laws_toTree.f k a4).bind fun ad=>((spec_DirText.f k ad a1 a2).bind fun ac=>((laws_toTree.f k a4).bind fun a5=>((impl_DirText.f k a5 a1 a2).bind fun a9=>(if a9.toList=ac.toList then ((laws_toTree.f k a4).bind fun aa=>((laws_eqTree.f k a5 aa).bind fun ab=>(if ab=true then (some true) else (some false)))) else (some false)))))))=some r:=H;have A6:=Aside0.mk A60;clear A60
  by_cases c7:ag<0
  ·rw [if_pos c7] at H
   have aI:decide (ag<0)=true:=decide_eq_true c7;clear c7;obtain rfl:=Option.some.inj H
   go_enter Tryd.func7,Tryd.ntmps7
   go_wp2_with (first|((with_reducible refine gd 3 rfl ?_);refine bx 3 45 (#[.slice ae a4.length af]) ?_;intro ao hg w8 hbox hb;refine Ya4 (below_step (be HB.out) hb) (hbox) (bs hg (be HB.out)) (bs hg (be HB.out)) ?_;clear HB;intro HB a3 ar au;clear hb hbox hg;have ⟨aQ,aR⟩:=Yc1 a3.out)|((with_reducible refine gc 17 rfl ?_);refine gl (some 16) _ (#[.agg #[.slice ae a4.length af],.int .i64 1048576]) Tryd.func17 ?_;(with_reducible refine (laws_szTree.calls k _ _ a4 1048576 ag _ ?side1 ?side2 A6.out).mono ?_);(case side1=>exact cb (Kd.C_below aj.out HB.out));(case side2=>exact ak.out);rintro e w10 ⟨rfl,hb⟩;refine ⟨_,rfl,?_⟩;refine Ya2 (bb a3 hb) (below_step (bf HB.out) hb) ?_;clear a3 HB;intro a3 HB;(try clear hb);(try clear hb2);(try clear hk);(try clear hi)))
   go_ret
   exact ⟨Ye2,(bf HB.out)⟩
  ·rw [if_neg c7] at H
   have aI:decide (ag<0)=false:=decide_eq_false c7;clear c7;replace H:=Option.bind_eq_some_iff.mp H;obtain ⟨ad,av,H⟩:=H;replace H:((spec_DirText.f k ad a1 a2).bind fun ac=>((laws_toTree.f k a4).bind fun a5=>((impl_DirText.f k a5 a1 a2).bind fun a9=>(if a9.toList=ac.toList then ((laws_toTree.f k a4).bind fun aa=>((laws_eqTree.f k a5 aa).bind fun ab=>(if ab=true then (some true) else (some false)))) else (some false)))))=some r:=H;have A11:=Aside0.mk av;clear av;replace H:=Option.bind_eq_some_iff.mp H;obtain ⟨ac,aw,H⟩:=H;replace H:((laws_toTree.f k a4).bind fun a5=>((impl_DirText.f k a5 a1 a2).bind fun a9=>(if a9.toList=ac.toList then ((laws_toTree.f k a4).bind fun aa=>((laws_eqTree.f k a5 aa).bind fun ab=>(if ab=true then (some true) else (some false)))) else (some false))))=some r:=H;have A12:=Aside0.mk aw;clear aw;replace H:=Option.bind_eq_some_iff.mp H;obtain ⟨a5,ax,H⟩:=H;replace H:((impl_DirText.f k a5 a1 a2).bind fun a9=>(if a9.toList=ac.toList then ((laws_toTree.f k a4).bind fun aa=>((laws_eqTree.f k a5 aa).bind fun ab=>(if ab=true then (some true) else (some false)))) else (some false)))=some r:=H;have A13:=Aside0.mk ax;clear ax;replace H:=Option.bind_eq_some_iff.mp H;obtain ⟨a9,ay,H⟩:=H;replace H:(if a9.toList=ac.toList then ((laws_toTree.f k a4).bind fun aa=>((laws_eqTree.f k a5 aa).bind fun ab=>(if ab=true then (some true) else (some false)))) else (some false))=some r:=H;have A14:=Aside0.mk ay;clear ay
   by_cases ah:a9.toList=ac.toList
   ·rw [if_pos ah] at H
    have aJ:(a9.toList==ac.toList)=true:=beq_iff_eq.mpr ah;have aK:(a9.toList != ac.toList)=false:=bne_eq_false_iff_eq.mpr ah;clear ah;replace H:=Option.bind_eq_some_iff.mp H;obtain ⟨aa,az,H⟩:=H;replace H:((laws_eqTree.f k a5 aa).bind fun ab=>(if ab=true then (some true) else (some false)))=some r:=H;have A16:=Aside0.mk az;clear az;replace H:=Option.bind_eq_some_iff.mp H;obtain ⟨ab,aA,H⟩:=H;replace H:(if ab=true then (some true) else (some false))=some r:=H;have A17:=Aside0.mk aA;clear aA
    by_cases am:ab=true
    ·subst am
     have H1:(some true)=some r:=by rw [if_pos rfl] at H;exact H
     clear H;have H:=H1;clear H1;obtain rfl:=Option.some.inj H
     go_enter Tryd.func7,Tryd.ntmps7
     try go_wp2_with (first|((with_reducible refine gd 3 rfl ?_);refine bx 3 45 (#[.slice ae a4.length af]) ?_;intro ao hg w19 hbox hb;refine Ya4 (below_step (be HB.out) hb) (hbox) (bs hg (be HB.out)) (bs hg (be HB.out)) ?_;clear HB;intro HB a3 ar au;clear hb hbox hg;have ⟨aS,aT⟩:=Yc1 a3.out)|((with_reducible refine gc 17 rfl ?_);refine gl (some 16) _ (#[.agg #[.slice ae a4.length af],.int .i64 1048576]) Tryd.func17 ?_;(with_reducible refine (laws_szTree.calls k _ _ a4 1048576 ag _ ?side1 ?side2 A6.out).mono ?_);(case side1=>exact cb (Kd.C_below aj.out HB.out));(case side2=>exact ak.out);rintro e w21 ⟨rfl,hb⟩;refine ⟨_,rfl,?_⟩;refine Ya2 (bb a3 hb) (below_step (bf HB.out) hb) ?_;clear a3 HB;intro a3 HB;(try clear hb);(try clear hb2);(try clear hk);(try clear hi);have ⟨aU,aV⟩:=Yc1 a3.out)|((with_reducible refine gc 19 rfl ?_);refine gl (some 20) _ (#[.agg #[.slice ae a4.length af]]) Tryd.func19 ?_;(with_reducible refine (laws_toTree.calls k _ _ a4 ad _ ?side1 ?side2 A11.out).mono ?_);(case side1=>exact cb (Kd.C_below aj.out HB.out));(case side2=>exact ak.out);rintro e w23 ⟨v766,rfl,ho0,hb⟩;refine ⟨_,rfl,?_⟩;refine Ya3 (Kd.R_lower ho0 (below_size (bf HB.out))) (bb a3 hb) (below_step (bf HB.out) hb) ?_;clear a3 HB;intro a6 a3 HB;(try clear hb);(try clear hb2);(try clear hk);(try clear hi);(try clear ho0);obtain ⟨aB,aC,aL⟩:=Kd.R_slice a6.out;subst aL)|((with_reducible refine gc 22 rfl ?_);refine gl (some 23) _ (#[.agg #[.slice aB ad.length aC],.string a1,.int .i64 a2]) Tryd.func22 ?_;(with_reducible refine (spec_DirText.calls k _ _ ad a1 a2 ac _ ?side1 ?side2 A12.out).mono ?_);(case side1=>repeat (first|exact (Kd.R_reads' a6.out).2.2|(with_reducible refine Kd.C_alloc ?_ _)|(with_reducible refine Kd.C_drewN ?_ _)|(with_reducible refine Kd.C_drew ?_)));(case side2=>exact (Kd.R_reads' a6.out).2.1);rintro e w25 ⟨rfl,hb⟩;refine ⟨_,rfl,?_⟩;refine Ya3 (Kd.R_below (kr a6.out) hb) (bb a3 hb) (below_step (bf HB.out) hb) ?_;clear a6 a3 HB;intro a6 a3 HB;(try clear hb);(try clear hb2);(try clear hk);(try clear hi);have ⟨aW,aX⟩:=Yc1 a3.out)|((with_reducible refine gc 19 rfl ?_);refine gl (some 25) _ (#[.agg #[.slice ae a4.length af]]) Tryd.func19 ?_;(with_reducible refine (laws_toTree.calls k _ _ a4 a5 _ ?side1 ?side2 A13.out).mono ?_);(case side1=>exact cb (Kd.C_below aj.out HB.out));(case side2=>exact ak.out);rintro e w27 ⟨v770,rfl,ho0,hb⟩;refine ⟨_,rfl,?_⟩;refine Ya4 (Kd.R_elder' (kr a6.out) (Kd.R_base ho0) hb) (Kd.R_lower (Kd.R_new' ho0 (Kd.R_lt (kr a6.out))) (below_size (bf HB.out))) (bb a3 hb) (below_step (bf HB.out) hb) ?_;clear a6 a3 HB;intro a6 a7 a3 HB;(try clear hb);(try clear hb2);(try clear hk);(try clear hi);(try clear ho0))|((with_reducible refine gd 9 rfl ?_);refine bx 9 50 (#[.slice none 0 0]) ?_;intro aD hg w28 hbox hb;refine Ya9 (Kd.R_below (kr a6.out) hb) (Kd.R_below (kr a7.out) hb) (bb a3 hb) (below_step (bf HB.out) hb) (hbox) (bs hg (bf HB.out)) (bs hg (bf HB.out)) (bl hg a3) (br hg a3) ?_;clear a6 a7 a3 HB;intro a6 a7 a3 HB a8 GW772 GE772 aE aM;clear hb hbox hg;obtain ⟨an,al,aN⟩:=Kd.R_slice a7.out;subst aN;have hnb30:=aM.out;have hnc30:=aE.out;have ⟨aY,aZ⟩:=Yc1 a8.out)|((with_reducible refine gc 23 rfl ?_);refine gl (some 29) _ (#[.agg #[.slice an a5.length al],.string a1,.int .i64 a2]) Tryd.func23 ?_;(with_reducible refine (impl_DirText.calls k _ _ a5 a1 a2 a9 _ ?sideG ?side1 ?side2 A14.out).mono ?_);(case sideG=>exact gf HG.out HB.out);(case side1=>refine (Kd.R_reads' (e:=34) (base:=w.heap.size) (ok:=fun k_=>(True∧some k_≠(.slice aB ad.length aC:Value).ownBlock)) (n:=a5.length) (c:=al) ?_).2.2;exact (rf a7 a8));(case side2=>exact (Kd.R_reads' a7.out).2.1);rintro e w32 ⟨rfl,hb⟩;refine ⟨_,rfl,?_⟩;refine Ya5 (Kd.R_below (rf a6 a8) hb) (Kd.R_below (rf a7 a8) hb) (bbf a3 aE hb) (blk_below (g:=aD) (o:=.cells #[.slice an a5.length al] 50 (0,0)) (bp a8.out) hb) (below_step (bf HB.out) hb) ?_;clear a6 a7 a3 a8 HB;intro a6 a7 a3 a8 HB;(try clear hb);(try clear hb2);(try clear hk);(try clear hi)))
     refine Ya5 (Kd.R_drew a6.out) (Kd.R_drew a7.out) (blk_drew a3.out) (blk_drew a8.out) (below_drew1 HB.out) ?_;clear a6 a7 a3 a8 HB;intro a6 a7 a3 a8 HB;refine start_ (n:=5) (S:=fun w'=>w'.cell? ⟨aD,0,none⟩=some (.slice an a5.length al)∧w'.cell? ⟨ao,0,none⟩=some (.slice ae a4.length af)) (ds:=[]) (fb 5 0) (by kernel_rfl) rfl rfl ⟨bc a8 0,bc a3 0⟩ (fun hHeld => ?_);generalize w32.drew=w33 at a6 a7 a3 a8 HB hHeld ⊢; refine take_ (i:=0) (N:=some 33) (v:=?_) (a':=?_) (fb 5 1) rfl rfl (by kernel_rfl) (fun _ _ _ h=>h) (Or.inl ⟨by rfl,?_⟩) hHeld ?_ ?_;rotate_left
     ·rintro w' ⟨s0,s1⟩;go_simp;(with_reducible rfl)
     rotate_left
     ·simp only [Act.put,List.setIfInBounds_toArray,List.set_cons_zero,List.set_cons_succ,i64_w,i32_w];rfl
     refine take_ (i:=1) (N:=some 34) (v:=?_) (a':=?_) (fb 5 3) rfl rfl (by kernel_rfl) (fun _ _ _ h=>h) (Or.inl ⟨by rfl,?_⟩) hHeld ?_ ?_;rotate_left
     ·rintro w' ⟨s0,s1⟩;go_simp;(with_reducible rfl)
     rotate_left
     ·simp only [Act.put,List.setIfInBounds_toArray,List.set_cons_zero,List.set_cons_succ,i64_w,i32_w];rfl
     refine one_ (i:=2) (N:=some 35) (fb 5 7) rfl rfl (by kernel_rfl) (by decide) (fun K hK => ?_);refine gs _ (#[.agg #[.slice ae a4.length af]]) Tryd.func19 ?_;(with_reducible refine (laws_toTree.calls k _ _ a4 aa _ ?side1 ?side2 A16.out).mono ?_);(case side1=>exact cb (Kd.C_below aj.out HB.out));(case side2=>exact ak.out);rintro e w34 ⟨v775,rfl,ho0,hb⟩;refine ⟨_,rfl,?_⟩;refine Ya6 (Kd.R_elder' (kr a6.out) (Kd.R_base ho0) hb) (Kd.R_elder' (kr a7.out) (Kd.R_base ho0) hb) (Kd.R_lower (Kd.R_new' (Kd.R_new' ho0 (Kd.R_lt (kr a6.out))) (Kd.R_lt (kr a7.out))) (below_size (bf HB.out))) (bb a3 hb) (bb a8 hb) (below_step (bf HB.out) hb) ?_;clear a6 a7 a3 a8 HB;intro a6 a7 ai a3 a8 HB;(try clear hb);(try clear hb2);(try clear hk);(try clear hi);(try clear ho0);obtain ⟨aO,aP,aF⟩:=Kd.R_slice ai.out;(first|subst aF|(injection aF with f1_ f2_ f3_;have f4_:=f1_.symm;have f5_:=f3_.symm;clear f1_ f2_ f3_;subst f4_;subst f5_));refine hK.out _ _ ⟨bc a8 0,bc a3 0⟩ (fun hHeld => ?_);clear hK K;refine nm 35 ?_;refine one_ (i:=3) (N:=some 36) (fb 5 15) rfl rfl (by kernel_rfl) (by decide) (fun K hK => ?_);refine gs _ (#[.agg #[.slice an a5.length al],.agg #[.slice aO aa.length aP]]) Tryd.func21 ?_;(with_reducible refine (laws_eqTree.calls k _ _ a5 _ _ aa true _ ?side1 ?side2 ?side3 ?side4 A17.out).mono ?_);(case side1=>repeat (first|exact (Kd.R_reads' a7.out).2.2|(with_reducible refine Kd.C_alloc ?_ _)|(with_reducible refine Kd.C_drewN ?_ _)|(with_reducible refine Kd.C_drew ?_)));(case side2=>exact (Kd.R_reads' a7.out).2.1);(case side3=>repeat (first|exact (Kd.R_reads' ai.out).2.2|(with_reducible refine Kd.C_alloc ?_ _)|(with_reducible refine Kd.C_drewN ?_ _)|(with_reducible refine Kd.C_drew ?_)));(case side4=>exact (Kd.R_reads' ai.out).2.1);rintro e w36 ⟨rfl,hb⟩;refine ⟨_,rfl,?_⟩;refine Ya6 (Kd.R_below (kr a6.out) hb) (Kd.R_below (kr a7.out) hb) (Kd.R_below (kr ai.out) hb) (bb a3 hb) (bb a8 hb) (below_step (bf HB.out) hb) ?_;clear a6 a7 ai a3 a8 HB;intro a6 a7 ai a3 a8 HB;(try clear hb);(try clear hb2);(try clear hk);(try clear hi);refine hK.out _ _ ⟨bc a8 0,bc a3 0⟩ (fun hHeld => ?_);clear hK K;refine nm 36 ?_;refine pure_ (i:=4) (N:=some 37) (v:=?_) (a':=?_) (fb 5 31) rfl rfl (by kernel_rfl) (fun _ _ _ h=>h) (Or.inl ⟨by rfl,?_⟩) ?_ ?_;rotate_left
     ·intro w';go_simp;(with_reducible rfl)
     rotate_left
     ·simp only [Act.put,List.setIfInBounds_toArray,List.set_cons_zero,List.set_cons_succ,i64_w,i32_w];rfl
     refine done_ (by kernel_rfl) ?_
     try go_wp2
     go_ret
     exact ⟨Ye2,(bf HB.out)⟩
    ·replace am:=Bool.eq_false_iff.mpr am;subst am
     have H1:(some false)=some r:=by rw [if_neg (show ¬(false=true) by decide)] at H;exact H
     clear H;have H:=H1;clear H1;exact absurd ((Option.some.inj H).trans hrt) (by decide)
   ·rw [if_neg ah] at H
    have aJ:(a9.toList==ac.toList)=false:=beq_eq_false_iff_ne.mpr ah;have aK:(a9.toList != ac.toList)=true:=bne_iff_ne.mpr ah;exact absurd ((Option.some.inj H).trans hrt) (by decide)
end Go.Proofs.YtkmfnmeilooogaaDoor.P


namespace Go.Proofs.YtkmfnmeilooogaaDoor.P
open Go.RowKit Go.Proofs.YtkmfnmeilooogaaDoorW.PrintWords Go.Proofs.YtkmfnmeilooogaaDoorW.PrintLast Go.Proofs.YtkmfnmeilooogaaDoorW.PrintMore
attribute [local go_sem] max2_int min2_int max_two min_two max_three min_three max_four min_four
set_option linter.unusedVariables false
set_option linter.unusedSimpArgs false

def impl_TreeSum.j0:Nat→Int→Bool→List (S34)→Option (ByteArray)
 | 0,_,_,_=>none
 | k+1,x1,x12,ak=>if x12=true then (some (⟨#[]⟩:ByteArray)) else ((impl_dirText.f ak (⟨#[]⟩:ByteArray) x1).bind fun a5=>((impl_Sum.f k a5 x1).bind fun a6=>(some a6)))
def impl_TreeSum.f (k:Nat) (a2:List (S34)) (a1:Int):Option (ByteArray):=(impl_ValidTree.f k a2).bind fun a9=>(if a9=true then ((impl_in.f a1 1 8).bind fun a4=>(impl_TreeSum.j0 k a1 (!a4) a2)) else (impl_TreeSum.j0 k a1 true a2))
theorem impl_TreeSum.mono_l:∀ k,(∀ y0 y1 y2,LeO (impl_TreeSum.j0 k y0 y1 y2) (impl_TreeSum.j0 (k+1) y0 y1 y2))
 | 0=>fun _ _ _ r h=>by simp [impl_TreeSum.j0] at h
 | k + 1 => by
  have ih0:=impl_TreeSum.mono_l k
  ·intro y0 y1 y2
   unfold impl_TreeSum.j0
   repeat' first
   | (with_reducible exact ih0 _ _ _)
   | (with_reducible exact impl_Sum.mono _ _ _)
   | (with_reducible exact impl_ValidTree.mono _ _)
   | (with_reducible exact LeO.refl _)
   | (with_reducible exact LeO.none _)
   | (with_reducible refine LeO.ite ?_ ?_)
   | (with_reducible refine LeO.bind ?_ (fun _ => ?_))
   | exact ih0 _ _ _
   | exact impl_Sum.mono _ _ _
   | exact impl_ValidTree.mono _ _
   | exact LeO.none _
   | refine LeO.ite ?_ ?_
   | refine LeO.bind ?_ (fun _ => ?_)
theorem impl_TreeSum.mono:∀ a0 a1 k,LeO (impl_TreeSum.f k a0 a1) (impl_TreeSum.f (k+1) a0 a1):=by
 intro a0 a1 k;have ih0:=impl_TreeSum.mono_l k
 unfold impl_TreeSum.f
 repeat' first
   | (with_reducible exact ih0 _ _ _)
   | (with_reducible exact impl_Sum.mono _ _ _)
   | (with_reducible exact impl_ValidTree.mono _ _)
   | (with_reducible exact LeO.refl _)
   | (with_reducible exact LeO.none _)
   | (with_reducible refine LeO.ite ?_ ?_)
   | (with_reducible refine LeO.bind ?_ (fun _ => ?_))
   | exact ih0 _ _ _
   | exact impl_Sum.mono _ _ _
   | exact impl_ValidTree.mono _ _
   | exact LeO.none _
   | refine LeO.ite ?_ ?_
   | refine LeO.bind ?_ (fun _ => ?_)
set_option maxHeartbeats 8000000 in
set_option maxRecDepth 100000 in
theorem impl_TreeSum.calls (k:Nat) (a7:Option Addr) (a8:Nat) (a2:List (S34)) (a1:Int) (r:ByteArray) (w:World) (hg:GOK w) (ag:Kd.C k34 w a7 a2.length a2) (ah:a2.length≤a8) (h:impl_TreeSum.f k a2 a1=some r) :
  Calls Tryd.prog 20 #[.agg #[.slice a7 a2.length a8],.int .i64 a1] w fun e w'=>e = .returned (.string r)∧Below w.heap.size w w':=by
 have HG:=Aside0.mk hg;clear hg;have hu50:=Tryd.underlying50;have ac:=Aside0.mk ag;have ad:=Aside0.mk ah;clear ag ah;have HB:=Aside0.mk (Below.refl w.heap.size w);have H:((impl_ValidTree.f k a2).bind fun a9=>(if a9=true then ((impl_in.f a1 1 8).bind fun a4=>(impl_TreeSum.j0 k a1 (!a4) a2)) else (impl_TreeSum.j0 k a1 true a2)))=some r:=h;clear h;have ae:=Aside0.mk H;clear H
 go_enter Tryd.func20,Tryd.ntmps20
 go_upto_region 1 with (first|((with_reducible refine gd 2 rfl ?_);refine bx 2 50 (#[.slice a7 a2.length a8]) ?_;intro al hg w4 hbox hb;refine Ya4 (below_step (be HB.out) hb) (hbox) (bs hg (be HB.out)) (bs hg (be HB.out)) ?_;clear HB;intro HB a3 GW722 GE722;clear hb hbox hg))
 (try simp only [Act.put,List.setIfInBounds_toArray,List.set_cons_zero,List.set_cons_succ])
 go_cut [12] (fun v12 wc => ∃ (kq:Nat) (aa:Bool),v12 = .bool aa∧Aside0 (impl_TreeSum.j0 kq a1 aa a2=some r)∧Aside0 (kq≤k)∧Aside0 (wc.heap[al]? = some (.cells #[(.slice a7 a2.length a8)] 50 (0,0)))∧Aside0 (Below w.heap.size w wc))
 case first =>
  have H:=ae.out;clear ae;replace H:=Option.bind_eq_some_iff.mp H;obtain ⟨a9,A50,H⟩:=H;replace H:(if a9=true then ((impl_in.f a1 1 8).bind fun a4=>(impl_TreeSum.j0 k a1 (!a4) a2)) else (impl_TreeSum.j0 k a1 true a2))=some r:=H;have A5:=Aside0.mk A50;clear A50
  by_cases c6:a9=true
  ·subst c6
   have H1:((impl_in.f a1 1 8).bind fun a4=>(impl_TreeSum.j0 k a1 (!a4) a2))=some r:=by rw [if_pos rfl] at H;exact H
   clear H;have H:=H1;clear H1;replace H:=Option.bind_eq_some_iff.mp H;obtain ⟨a4,A70,H⟩:=H;replace H:(impl_TreeSum.j0 k a1 (!a4) a2)=some r:=H;have A7:=Aside0.mk A70;clear A70;have H':=Aside0.mk H;clear H;have ⟨am,an⟩:=Yc1 a3.out
   go_wp2_with (first|((with_reducible refine gc 57 rfl ?_);refine gl (some 6) _ (#[.agg #[.slice a7 a2.length a8]]) Tryd.func57 ?_;(with_reducible refine (impl_ValidTree.calls k _ _ a2 true _ ?sideG ?side1 ?side2 A5.out).mono ?_);(case sideG=>exact gf HG.out HB.out);(case side1=>exact cb (Kd.C_below ac.out HB.out));(case side2=>exact ad.out);rintro e w9 ⟨rfl,hb⟩;refine ⟨_,rfl,?_⟩;refine Ya2 (bb a3 hb) (below_step (bf HB.out) hb) ?_;clear a3 HB;intro a3 HB;(try clear hb);(try clear hb2);(try clear hk);(try clear hi))|(go_at_call 47;(with_reducible refine (impl_in.calls a1 1 8 a4 _ A7.out).mono ?_);rintro e w' ⟨rfl,⟨nd,rfl⟩⟩))
   go_meet
   case rel=>exact ⟨_,(!a4),Ye1,H',⟨by first|omega|exact Nat.le_refl _⟩,⟨bk a3.out⟩,⟨bf HB.out⟩⟩
  ·replace c6:=Bool.eq_false_iff.mpr c6;subst c6
   have H1:(impl_TreeSum.j0 k a1 true a2)=some r:=by rw [if_neg (show ¬(false=true) by decide)] at H;exact H
   clear H;have H:=H1;clear H1;have H':=Aside0.mk H;clear H;have ⟨ao,ap⟩:=Yc1 a3.out
   go_wp2_with (first|((with_reducible refine gc 57 rfl ?_);refine gl (some 6) _ (#[.agg #[.slice a7 a2.length a8]]) Tryd.func57 ?_;(with_reducible refine (impl_ValidTree.calls k _ _ a2 false _ ?sideG ?side1 ?side2 A5.out).mono ?_);(case sideG=>exact gf HG.out HB.out);(case side1=>exact cb (Kd.C_below ac.out HB.out));(case side2=>exact ad.out);rintro e w11 ⟨rfl,hb⟩;refine ⟨_,rfl,?_⟩;refine Ya2 (bb a3 hb) (below_step (bf HB.out) hb) ?_;clear a3 HB;intro a3 HB;(try clear hb);(try clear hb2);(try clear hk);(try clear hi)))
   go_meet
   case rel=>exact ⟨_,(true),Ye1,H',⟨by first|omega|exact Nat.le_refl _⟩,⟨bk a3.out⟩,⟨bf HB.out⟩⟩
 case rest =>
  clear ae;(try clear c2);(try clear p2);(try clear c5);(try clear c6);(try clear ao);(try clear am);(try clear ap);(try clear an);obtain ⟨kq,aa,rfl,HA,HJ2,a3,HB⟩:=hcut
  cases kq with
  | zero=>exact absurd HA.out (by simp [impl_TreeSum.j0])
  | succ af =>
   have H:=HA.out;clear HA;simp only [impl_TreeSum.j0] at H
   by_cases ab:aa=true
   ·subst ab
    have H1:(some (⟨#[]⟩:ByteArray))=some r:=by rw [if_pos rfl] at H;exact H
    clear H;have H:=H1;clear H1;obtain rfl:=Option.some.inj H
    go_wp2
    go_ret
    exact ⟨Ye2,(bf HB.out)⟩
   ·replace ab:=Bool.eq_false_iff.mpr ab;subst ab
    have H1:((impl_dirText.f a2 (⟨#[]⟩:ByteArray) a1).bind fun a5=>((impl_Sum.f af a5 a1).bind fun a6=>(some a6)))=some r:=by rw [if_neg (show ¬(false=true) by decide)] at H;exact H
    clear H;have H:=H1;clear H1;replace H:=Option.bind_eq_some_iff.mp H;obtain ⟨a5,ai,H⟩:=H;replace H:((impl_Sum.f af a5 a1).bind fun a6=>(some a6))=some r:=H;have A13:=Aside0.mk ai;clear ai;replace H:=Option.bind_eq_some_iff.mp H;obtain ⟨a6,aj,H⟩:=H;replace H:(some a6)=some r:=H;have A14:=Aside0.mk aj;clear aj;obtain rfl:=Option.some.inj H;have ⟨aq,ar⟩:=Yc1 a3.out
    go_wp2_with (first|((with_reducible refine gc 58 rfl ?_);refine gl (some 15) _ (#[.agg #[.slice a7 a2.length a8],.string (⟨#[]⟩:ByteArray),.int .i64 a1]) Tryd.func58 ?_;(with_reducible refine (impl_dirText.calls _ _ a2 (⟨#[]⟩:ByteArray) a1 a5 _ ?sideG ?side1 ?side2 A13.out).mono ?_);(case sideG=>exact gf HG.out HB.out);(case side1=>exact cb (Kd.C_below ac.out HB.out));(case side2=>exact ad.out);rintro e w16 ⟨rfl,hb⟩;refine ⟨_,rfl,?_⟩;refine Ya2 (bb a3 hb) (below_step (bf HB.out) hb) ?_;clear a3 HB;intro a3 HB;(try clear hb);(try clear hb2);(try clear hk);(try clear hi))|((with_reducible refine gc 49 rfl ?_);refine gl (some 17) _ (#[.string a5,.int .i64 a1]) Tryd.func49 ?_;(with_reducible refine (impl_Sum.calls af a5 a1 a6 _ A14.out).mono ?_);rintro e w17 ⟨rfl,hb⟩;refine ⟨_,rfl,?_⟩;refine Ya2 (bb a3 hb) (below_step (bf HB.out) hb) ?_;clear a3 HB;intro a3 HB;(try clear hb);(try clear hb2);(try clear hk);(try clear hi)))
    go_ret
    exact ⟨Ye2,(bf HB.out)⟩

end Go.Proofs.YtkmfnmeilooogaaDoor.P

