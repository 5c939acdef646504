/- Several texts of this claim in one file: YtkmfnmeilooogaaDoorPImplMergeText, YtkmfnmeilooogaaDoorPSpecL1RdPick, YtkmfnmeilooogaaDoorPSpecL1Text, YtkmfnmeilooogaaDoorPSpecL7Edit, YtkmfnmeilooogaaDoorPSpecDrawMergeText, YtkmfnmeilooogaaDoorPLawsFnMergeText. -/
import Derived.Test.YtkmfnmeilooogaaDoorM2
import Derived.Test.YtkmfnmeilooogaaDoorM4
import Derived.Test.YtkmfnmeilooogaaDoorM6
import Derived.Test.YtkmfnmeilooogaaDoorM3
import Derived.Deep.QuietTactic
import Derived.Deep.RegionHeld3
import Derived.Deep.DeepCutAuto
import Derived.Test.YtkmfnmeilooogaaDoorM5
namespace Go.Proofs.YtkmfnmeilooogaaDoor.P
open Go.RowKit Go.Proofs.YtkmfnmeilooogaaDoorW.PrintWords Go.Proofs.YtkmfnmeilooogaaDoorW.PrintLast Go.Proofs.YtkmfnmeilooogaaDoorW.PrintMore
attribute [local go_sem] max2_int min2_int max_two min_two max_three min_three max_four min_four
set_option linter.unusedVariables false
set_option linter.unusedSimpArgs false

/- Walked by hand. -/
open Go.Proofs.YtkmfnmeilooogaaDoor.Pure
theorem set2 {W w':World} {b:Nat} {t:TypeId} {c0 c1 x0 x1:Value} (h:W.heap[b]? = some (.cells #[c0,c1] t (0,0))) (hw:w'=(W.setCell ⟨b,0,none⟩ x0).setCell ⟨b,1,none⟩ x1) :
  w'.heap[b]? = some (.cells #[x0,x1] t (0,0))∧W.grownBy w' (some b)∧w'.heap.size=W.heap.size:=by
 subst hw
 exact ⟨blk_put (blk_put h 0 x0 rfl) 1 x1 rfl,grown_then (grown_set _ _ _ _) (grown_set _ _ _ _),by simp only [size_set]⟩
theorem IMapAt.frame {w0 w:World} {b bx:Nat} {M:List (Int×Int)} (h:IMapAt w0 b M) (hf:FrameBut w0 bx w) (hn:b≠bx):IMapAt w b M:=by
 obtain ⟨es,clock,hb,rest⟩:=h
 exact ⟨es,clock,hf.blk hb hn,rest⟩
theorem int_zero (w:World):(zeroValue 3).run Tryd.prog w = .ok (.int .i64 0) w:=by kernel_rfl
/-- The pairs as a map. -/
def impl_MergeText.ip (l:List (Nat×Nat)):List (Int×Int):=l.map fun p=>((p.1:Int),(p.2:Int))
theorem impl_MergeText.ip_has (l:List (Nat×Nat)) (n:Nat):imhas (n:Int) (impl_MergeText.ip l)=(withP l n).isSome∧imget (n:Int) (impl_MergeText.ip l)=((withP l n).getD 0:Nat):=by
 induction l with
 | nil=>exact ⟨rfl,rfl⟩
 | cons p r ih =>
  unfold impl_MergeText.ip at ih ⊢
  rw [List.map_cons,imhas,imget,withP]
  by_cases h:p.1=n
  ·subst h
   simp
  ·have q:¬ ((p.1:Int)=(n:Int)):=by omega
   simp only [if_neg h,if_neg q]
   exact ih
theorem imput_new (k v:Int):∀ M:List (Int×Int),(∀ p ∈ M,p.1≠k)→imput k v M=M ++ [(k,v)]
 | [],_=>rfl
 | p :: r,h=>by
  rw [imput,if_neg (h p List.mem_cons_self),imput_new k v r (fun q hq=>h q (List.mem_cons_of_mem _ hq))]
  rfl
theorem impl_MergeText.ip_put {l:List (Nat×Nat)} (h:l.Pairwise upP) (i:Nat) (hi:i<l.length):imput (l[i].1:Int) (l[i].2:Int) (impl_MergeText.ip (l.take i))=impl_MergeText.ip (l.take (i+1)):=by
 rw [imput_new]
 ·unfold impl_MergeText.ip
  rw [List.take_succ_eq_append_getElem hi,List.map_append]
  rfl
 ·intro p hp
  unfold impl_MergeText.ip at hp
  obtain ⟨q,hq,rfl⟩:=List.mem_map.1 hp
  obtain ⟨j,hj,rfl⟩:=List.getElem_of_mem hq
  rw [List.length_take] at hj
  rw [List.getElem_take]
  have:=(List.pairwise_iff_getElem.1 h j i (by omega) hi (by omega)).1
  show ((_:Nat):Int)≠_
  omega
def impl_MergeText.pr (l:List (Nat×Nat)):List S63:=l.map fun p=>⟨(p.1:Int),(p.2:Int)⟩
theorem impl_MergeText.common (O X:List ByteArray):impl_Common.f O X=some (impl_MergeText.pr (pairsN O X)):=by
 unfold impl_Common.f pairsN impl_MergeText.pr
 split <;> rfl
theorem impl_MergeText.up (O X:List ByteArray):(pairsN O X).Pairwise upP:=by
 unfold pairsN
 split
 ·exact List.Pairwise.nil
 ·exact (pairs_ok O X (lc O X 0 0) 0 0 (Nat.zero_le _) (Nat.zero_le _) rfl).2.2
theorem impl_MergeText.plen (O X:List ByteArray) (h:O.length≤1500):(pairsN O X).length≤1500:=by
 unfold pairsN
 split
 ·exact Nat.zero_le _
 ·rw [(pairs_ok O X (lc O X 0 0) 0 0 (Nat.zero_le _) (Nat.zero_le _) rfl).1]
  have:=(lc_le O X _ 0 0 (Nat.le_refl _)).1
  omega
theorem impl_MergeText.rowAt {w6 wr:World} {bm base n c:Nat} {A:Option Addr} {l:List S63} (h:Kd.R k63 63 w6 base (fun k=>k≠bm) (.slice A n c) l) (hf:FrameBut w6 bm wr):Kd.C k63 wr A l.length l :=
 (Kd.R_reads' (Kd.R_step h fun k hk hlt=>hf.2 k hlt hk)).2.2
theorem impl_MergeText.sl_len (l:List ByteArray) {i j:Nat} (h:i≤j) (hj:j≤l.length):(sl l i j).length=j - i:=by
 unfold sl
 rw [List.length_drop,List.length_take]
 omega
theorem impl_MergeText.sl_C {w:World} {A:Option Addr} {l:List ByteArray} {c:Nat} (h:Kd.C Kd.string w A l.length l) {i j:Nat} (hij:i≤j) (hj:j≤l.length) (hc:l.length≤c):Kd.C Kd.string w (if c=i then A else A.map (·.add i)) (sl l i j).length (sl l i j):=by
 have:=Kd.C_mid h hij hj hc
 rw [show i*Kd.string.sz=i from Nat.mul_one i] at this
 exact this
theorem impl_MergeText.cat_sl (l:List ByteArray) (i j:Nat):(cat (sl l i j)).size≤(cat l).size:=by
 unfold sl
 have h1:=cat_take_le (l.take j) i
 have h2:=cat_take_le l j
 omega
theorem impl_MergeText.join_cat (l:List ByteArray):(⟨(Lib.join (l.map (·.data.toList)) (⟨#[]⟩:ByteArray).data.toList).toArray⟩:ByteArray)=cat l:=by
 unfold cat ofBytes
 congr 2
 cases l with
 | nil=>rfl
 | cons x r =>
  rw [List.map_cons,Lib.join_cons,List.flatten_cons]
  congr 1
  unfold Lib.joinTail
  congr 1
  exact List.map_id'' (fun _=>rfl) _
theorem impl_MergeText.join_now (l:List ByteArray) (h1:l.length≤1500) (h2:(cat l).size≤1500):strings_Join.f l ⟨#[]⟩=some (cat l):=by
 unfold strings_Join.f
 have e:=impl_MergeText.join_cat l
 have h3:(Lib.join (l.map (·.data.toList)) (⟨#[]⟩:ByteArray).data.toList).length=(cat l).size:=by
  rw [←e]
  show _=(Lib.join (l.map (·.data.toList)) (⟨#[]⟩:ByteArray).data.toList).toArray.size
  rw [List.size_toArray]
 rw [if_pos ⟨by omega,by rw [h3];omega⟩,e]
theorem impl_MergeText.step {O X Y:List ByteArray} {f g:Nat→Option Nat} (hO:wellB O) (hX:wellB X) (hY:wellB Y) {d n i j k x y:Nat} {out:ByteArray} (hn:n≤O.length) (h1:n<O.length→f n=some x∧g n=some y) (h2:n=O.length→x=X.length∧y=Y.length) :
  mgo O X Y f g (d+1) n i j k out=(threeL (sl O i n) (sl X j x) (sl Y k y)).bind fun s=>mgo O X Y f g d (n+1) (n+1) (x+1) (y+1) (if h:n<O.length then out++s++O[n] else out++s):=by
 rw [mgo,←three_lines (wellB_sl hO _ _) (wellB_sl hX _ _) (wellB_sl hY _ _)]
 by_cases h:n<O.length
 ·obtain ⟨e1,e2⟩:=h1 h
  rw [dif_pos h,e1,e2]
  simp only [dif_pos h]
 ·obtain ⟨rfl,rfl⟩:=h2 (by omega)
  rw [dif_neg h]
  simp only [dif_neg h]
theorem impl_MergeText.skip {O X Y:List ByteArray} {f g:Nat→Option Nat} {d n i j k:Nat} {out:ByteArray} (h:n<O.length) (h1:f n=none∨g n=none):mgo O X Y f g (d+1) n i j k out=mgo O X Y f g d (n+1) i j k out:=by
 rw [mgo,dif_pos h]
 rcases h1 with e|e
 ·rw [e]
 ·rw [e]
  cases f n <;> rfl
theorem impl_MergeText.elem (l:List ByteArray) (n:Nat) (h:n<l.length):(l[n]).size≤(cat l).size:=by
 have h1:=impl_MergeText.cat_sl l n (n+1)
 have e:sl l n (n+1) = [l[n]]:=by
  unfold sl
  rw [List.take_succ_eq_append_getElem h,List.drop_append_of_le_length (by rw [List.length_take];omega),List.drop_of_length_le (by rw [List.length_take];omega)]
  rfl
 rwa [e,cat_one] at h1
def impl_MergeText.out (o:Option ByteArray):ByteArray×Bool:=match o with
 | some s=>(s,true)
 | none=>(⟨#[]⟩,false)
/-- A stretch, as the walk cuts it. -/
theorem impl_MergeText.cut {W:World} {A:Option Addr} {l:List ByteArray} {c:Nat} (h:Kd.C Kd.string W A l.length l) {i j:Nat} (hij:i≤j) (hj:j≤l.length) (hc:l.length≤c):∃ A' c',(sl l i j).length≤c'∧Kd.C Kd.string W A' (sl l i j).length (sl l i j) ∧ ∀ W:World,(Instr.slice 29 (.slice A l.length c) (some (.int .i64 (i:Int))) (some (.int .i64 (j:Int))) none).run Tryd.prog W = .ok (.slice A' (sl l i j).length c') W:=by
 obtain ⟨i0,hi0,_,hsz,_⟩:=info_parts info9
 have h1:=cut_mid (P:=Tryd.prog) 29 9 .i64 .i64 Tryd.underlying29 hi0 1 hsz A l.length c (i:Int) (j:Int) (by omega) (by omega) (by omega) hc
 have h2:=impl_MergeText.sl_C h hij hj hc
 refine ⟨_,c - i,?_,h2,fun W => ?_⟩
 ·rw [impl_MergeText.sl_len l hij hj]
  omega
 ·rw [h1 W,impl_MergeText.sl_len l hij hj,Int.toNat_natCast,Int.toNat_natCast,Nat.mul_one]
theorem impl_MergeText.eqv {W:World} {A A':Option Addr} {c c':Nat} {l l':List ByteArray} {b:Bool} (h:Kd.C Kd.string W A l.length l) (h':Kd.C Kd.string W A' l'.length l') (e:decide (l=l')=b) (nd:Nat) :
  Calls Tryd.prog 31 #[.slice A l.length c,.slice A' l'.length c'] (W.drewN nd) fun e w'=>e = .returned (.bool b) ∧ ∃ m,w'=W.drewN m:=by
 subst e
 exact Calls.quiet_of (slices_Equal_string_string.calls A c l A' c' l' _ (Kd.C_drewN h _) (Kd.C_drewN h' _))
def impl_MergeText.f (a0 a1 a2:ByteArray):Option (ByteArray×Bool):=some (mergeT a0 a1 a2)
set_option maxHeartbeats 4000000 in
set_option maxRecDepth 100000 in
theorem impl_MergeText.big (a0 a1 a2:ByteArray) (w:World) (h:a0.size>1500∨a1.size>1500∨a2.size>1500) :
  Calls Tryd.prog 9 #[.string a0,.string a1,.string a2] w fun e w'=>e = .returned (.tuple #[.string ⟨#[]⟩,.bool false])∧Below w.heap.size w w':=by
 have HB:=Aside0.mk (Below.refl w.heap.size w)
 by_cases h0:1500<a0.size
 ·have d0:decide ((1500:Int)<(a0.size:Int))=true:=decide_eq_true (by omega)
  have d1:decide (1500<a0.size)=true:=decide_eq_true h0
  clear h h0
  go_enter Tryd.func9,Tryd.ntmps9
  go_wp2
  go_ret2
  exact ⟨rfl,HB.out⟩
 ·have d0:decide ((1500:Int)<(a0.size:Int))=false:=decide_eq_false (by omega)
  have d1:decide (1500<a0.size)=false:=decide_eq_false h0
  by_cases h1:1500<a1.size
  ·have d2:decide ((1500:Int)<(a1.size:Int))=true:=decide_eq_true (by omega)
   have d3:decide (1500<a1.size)=true:=decide_eq_true h1
   clear h h0 h1
   go_enter Tryd.func9,Tryd.ntmps9
   go_wp2
   go_ret2
   exact ⟨rfl,HB.out⟩
  ·have d2:decide ((1500:Int)<(a1.size:Int))=false:=decide_eq_false (by omega)
   have d3:decide (1500<a1.size)=false:=decide_eq_false h1
   have d4:decide ((1500:Int)<(a2.size:Int))=true:=decide_eq_true (by omega)
   have d5:decide (1500<a2.size)=true:=decide_eq_true (by omega)
   clear h h0 h1
   go_enter Tryd.func9,Tryd.ntmps9
   go_wp2
   go_ret2
   exact ⟨rfl,HB.out⟩
/-- What the loops keep: the three rows of lines. -/
structure impl_MergeText.At (w3:World) (A0 A1 A2:Option Addr) (O X Y:List ByteArray) (W:World):Prop where
 b:Below w3.heap.size w3 W
 r0:Kd.C Kd.string w3 A0 O.length O
 r1:Kd.C Kd.string w3 A1 X.length X
 r2:Kd.C Kd.string w3 A2 Y.length Y
theorem impl_MergeText.At.go {w3 W W':World} {A0 A1 A2:Option Addr} {O X Y:List ByteArray} (h:impl_MergeText.At w3 A0 A1 A2 O X Y W) (hb:Below W.heap.size W W'):impl_MergeText.At w3 A0 A1 A2 O X Y W':=⟨below_step h.b hb,h.r0,h.r1,h.r2⟩
theorem impl_MergeText.At.own {w3 W W':World} {A0 A1 A2:Option Addr} {O X Y:List ByteArray} {g:Nat} (h:impl_MergeText.At w3 A0 A1 A2 O X Y W) (hg:W.grownBy W' (some g)) (hb:w3.heap.size≤g):impl_MergeText.At w3 A0 A1 A2 O X Y W':=⟨below_own h.b hg hb,h.r0,h.r1,h.r2⟩
theorem impl_MergeText.At.c0 {w3 W:World} {A0 A1 A2:Option Addr} {O X Y:List ByteArray} (h:impl_MergeText.At w3 A0 A1 A2 O X Y W):Kd.C Kd.string W A0 O.length O:=Kd.C_below h.r0 h.b
theorem impl_MergeText.At.c1 {w3 W:World} {A0 A1 A2:Option Addr} {O X Y:List ByteArray} (h:impl_MergeText.At w3 A0 A1 A2 O X Y W):Kd.C Kd.string W A1 X.length X:=Kd.C_below h.r1 h.b
theorem impl_MergeText.At.c2 {w3 W:World} {A0 A1 A2:Option Addr} {O X Y:List ByteArray} (h:impl_MergeText.At w3 A0 A1 A2 O X Y W):Kd.C Kd.string W A2 Y.length Y:=Kd.C_below h.r2 h.b
set_option maxHeartbeats 8000000 in
set_option maxRecDepth 100000 in
theorem impl_MergeText.main (a0 a1 a2:ByteArray) (r1:ByteArray) (r2:Bool) (w:World) (hg:GOK w) (h0:a0.size≤1500) (h1:a1.size≤1500) (h2:a2.size≤1500) (h:mergeT a0 a1 a2=(r1,r2)) :
  Calls Tryd.prog 9 #[.string a0,.string a1,.string a2] w fun e w'=>e = .returned (.tuple #[.string r1,.bool r2])∧Below w.heap.size w w':=by
 have HG:=Aside0.mk hg
 have HB:=Aside0.mk (Below.refl w.heap.size w)
 have HL0:=Aside0.mk (impl_Lines_now a0 (by omega))
 have HL1:=Aside0.mk (impl_Lines_now a1 (by omega))
 have HL2:=Aside0.mk (impl_Lines_now a2 (by omega))
 have HZ0:=Aside0.mk (show (cat (lines a0)).size≤1500 from Nat.le_trans (cat_lines_le a0) h0)
 have HZ1:=Aside0.mk (show (cat (lines a1)).size≤1500 from Nat.le_trans (cat_lines_le a1) h1)
 have HZ2:=Aside0.mk (show (cat (lines a2)).size≤1500 from Nat.le_trans (cat_lines_le a2) h2)
 have HN0:=Aside0.mk (lines_le (s:=a0))
 have HN1:=Aside0.mk (lines_le (s:=a1))
 have HN2:=Aside0.mk (lines_le (s:=a2))
 have HW0:=Aside0.mk (lines_well a0)
 have HW1:=Aside0.mk (lines_well a1)
 have HW2:=Aside0.mk (lines_well a2)
 unfold mergeT at h
 rw [if_neg (by omega)] at h
 have HT:=Aside0.mk h
 clear h hg
 have d0:decide ((1500:Int)<(a0.size:Int))=false:=decide_eq_false (by omega)
 have d1:decide (1500<a0.size)=false:=decide_eq_false (by omega)
 have d2:decide ((1500:Int)<(a1.size:Int))=false:=decide_eq_false (by omega)
 have d3:decide (1500<a1.size)=false:=decide_eq_false (by omega)
 have d4:decide ((1500:Int)<(a2.size:Int))=false:=decide_eq_false (by omega)
 have d5:decide (1500<a2.size)=false:=decide_eq_false (by omega)
 clear h0 h1 h2
 generalize lines a0=O at HL0 HZ0 HN0 HW0 HT
 generalize lines a1=X at HL1 HZ1 HN1 HW1 HT
 generalize lines a2=Y at HL2 HZ2 HN2 HW2 HT
 have HPX:=Aside0.mk (impl_MergeText.up O X)
 have HPY:=Aside0.mk (impl_MergeText.up O Y)
 have HCX:=Aside0.mk (impl_MergeText.common O X)
 have HCY:=Aside0.mk (impl_MergeText.common O Y)
 have HQX:=Aside0.mk (pairsN_part O X)
 have HQY:=Aside0.mk (pairsN_part O Y)
 have HLX:=Aside0.mk (impl_MergeText.plen O X HN0.out)
 have HLY:=Aside0.mk (impl_MergeText.plen O Y HN0.out)
 unfold mergeL at HT
 generalize pairsN O X=PX at HT HPX HCX HQX HLX
 generalize pairsN O Y=PY at HT HPY HCY HQY HLY
 obtain ⟨LX,hLX⟩:∃ L,L=impl_MergeText.pr PX:=⟨_,rfl⟩
 obtain ⟨LY,hLY⟩:∃ L,L=impl_MergeText.pr PY:=⟨_,rfl⟩
 rw [←hLX] at HCX
 rw [←hLY] at HCY
 have HKX:=Aside0.mk (show LX.length=PX.length from by rw [hLX];exact List.length_map _)
 have HKY:=Aside0.mk (show LY.length=PY.length from by rw [hLY];exact List.length_map _)
 have HEX:=Aside0.mk hLX
 have HEY:=Aside0.mk hLY
 clear hLX hLY
 go_enter Tryd.func9,Tryd.ntmps9
 go_wp2_with (first
  | (go_at_call 28;(with_reducible refine (impl_Lines.calls a0 O _ (GOK.below HG.out (be HB.out)) HL0.out).mono ?_);rintro e w1 ⟨v,rfl,hR,hb⟩;obtain ⟨A0,k0,rfl,hc0,hC0⟩:=Kd.R_reads hR;have HB_:=Aside0.mk (below_step (be HB.out) hb);have HA0:=Aside0.mk hC0;have HC0:=Aside0.mk hc0;clear HB hR hb hC0 hc0;have HB:=HB_;clear HB_)
  | (go_at_call 28;(with_reducible refine (impl_Lines.calls a1 X _ (GOK.below HG.out (be HB.out)) HL1.out).mono ?_);rintro e w2 ⟨v,rfl,hR,hb⟩;obtain ⟨A1,k1,rfl,hc1,hC1⟩:=Kd.R_reads hR;have HB_:=Aside0.mk (below_step (be HB.out) hb);have HA0_:=Aside0.mk (Kd.C_below HA0.out hb);have HA1:=Aside0.mk hC1;have HC1:=Aside0.mk hc1;clear HB hR hb hC1 hc1 HA0;have HB:=HB_;have HA0:=HA0_;clear HB_ HA0_)
  | (go_at_call 28;(with_reducible refine (impl_Lines.calls a2 Y _ (GOK.below HG.out (be HB.out)) HL2.out).mono ?_);rintro e w3 ⟨v,rfl,hR,hb⟩;obtain ⟨A2,k2,rfl,hc2,hC2⟩:=Kd.R_reads hR;have HB_:=Aside0.mk (below_step (be HB.out) hb);have HX:=Aside0.mk (show impl_MergeText.At w3 A0 A1 A2 O X Y w3 from ⟨Below.refl _ _,Kd.C_below HA0.out hb,Kd.C_below HA1.out hb,hC2⟩);have HC2:=Aside0.mk hc2;clear HB hR hb hC2 hc2 HA0 HA1;have HB:=HB_;clear HB_)
  | ((with_reducible refine gd 48 rfl ?_);go_loud (refine wpList_make_I _ rfl _ rfl ?_);intro bm w4 hg hM hb;have HM:=Aside0.mk hM;have HX_:=Aside0.mk (HX.out.go hb);have GM:=Aside0.mk (show w3.heap.size≤bm from by rw [hg];exact HX.out.b.size);clear hg hM hb HX;have HX:=HX_;clear HX_)
  | ((with_reducible refine gd 49 rfl ?_);go_loud (refine wpList_make_I _ rfl _ rfl ?_);intro bn w5 hg hM hb;have HN:=Aside0.mk hM;have HM_:=Aside0.mk (IMapAt.over HM.out hb rfl);have NMN:=Aside0.mk (show bm≠bn from by have:=HM.out.lt;omega);have HX_:=Aside0.mk (HX.out.go hb);have GN:=Aside0.mk (show w3.heap.size≤bn from by rw [hg];exact HX.out.b.size);clear hg hM hb HX HM;have HX:=HX_;have HM:=HM_;clear HX_ HM_)
  | (go_at_call 29;go_loud ((with_reducible refine (impl_Common.calls A0 k0 O A1 k1 X _ _ HX.out.c0 HC0.out HX.out.c1 HC1.out HCX.out).mono ?_);rintro e w6 ⟨v,rfl,hR,hb⟩;obtain ⟨AP,cp,rfl⟩:=Kd.R_slice hR;have hml:=HM.out.lt;have hnl:=HN.out.lt;have HR:=Aside0.mk (Kd.R_mono (Kd.R_bound hR) (ok':=fun k=>k≠bm) (fun k hk=>by have h1:=hk.2.1;(try simp at h1);omega));have HX_:=Aside0.mk (HX.out.go hb);have HM_:=Aside0.mk (IMapAt.over HM.out hb rfl);have HN_:=Aside0.mk (IMapAt.over HN.out hb rfl);clear hR hb HX HM HN hml hnl;have HX:=HX_;have HM:=HM_;have HN:=HN_;clear HX_ HM_ HN_)))
 go_loopg [54] (PX.length) (fun kq v_ w' => ∃ (i:Nat),v_ = .int .i64 (i:Int)∧Aside0 (kq+i=PX.length)∧Aside0 (IMapAt w' bm (impl_MergeText.ip (PX.take i)))∧Aside0 (IMapAt w' bn [])∧Aside0 (FrameBut w6 bm w')∧Aside0 (impl_MergeText.At w3 A0 A1 A2 O X Y w'))
 case atStart=>exact ⟨0,rfl,⟨by omega⟩,⟨by rw [List.take_zero];exact HM.out⟩,HN,⟨FrameBut.refl _ _⟩,HX⟩
 case round =>
 clear HM HN HX
 obtain ⟨i,rfl,HK,HM,HN,HF,HX⟩:=hrel
 have hik:=HK.out
 by_cases hi:i<PX.length
 ·have c1:decide ((i:Int)<(LX.length:Int))=true:=decide_eq_true (by have:=HKX.out;omega)
  have c2:decide (0≤(i:Int))=true:=decide_eq_true (by have:=HKX.out;omega)
  have c4:i<LX.length:=by have:=HKX.out;omega
  have c3:decide (i<LX.length)=true:=decide_eq_true c4
  obtain ⟨ad,e1,hx0⟩:=at_T63 (impl_MergeText.rowAt HR.out HF.out) (i:Int) (by omega) (by have:=HKX.out;omega)
  subst e1
  obtain ⟨hx1,hx2⟩:=hx0
  have er:rd_T63 LX (i:Int)=⟨(PX[i].1:Int),(PX[i].2:Int)⟩:=by
   unfold rd_T63
   rw [HEX.out,Int.toNat_natCast,List.getD_eq_getElem?_getD,List.getElem?_eq_getElem (by rw [←HEX.out];have:=HKX.out;omega)]
   show (impl_MergeText.pr PX)[i]'_=_
   unfold impl_MergeText.pr
   rw [List.getElem_map]
  rw [er,Int.toNat_natCast] at hx1 hx2
  dsimp only at hx1 hx2
  clear er
  have HPUT:=Aside0.mk (impl_MergeText.ip_put HPX.out i hi)
  generalize (PX[i].1:Int)=x at HPUT hx1
  generalize (PX[i].2:Int)=y at HPUT hx2
  go_wp2_with (first
   | ((with_reducible refine gd 14 rfl ?_);refine bx 14 63 (#[.int .i64 0,.int .i64 0]) ?_;intro bb_ hg wa hbox hb;have NB:=Aside0.mk (show bm≠bb_∧bn≠bb_ from by have h1:=HM.out.lt;have h2:=HN.out.lt;exact ⟨by omega,by omega⟩);have GB:=Aside0.mk (show w3.heap.size≤bb_ from by rw [hg];exact HX.out.b.size);have GB6:=Aside0.mk (show w6.heap.size≤bb_ from by rw [hg];exact HF.out.1);have HM_:=Aside0.mk (IMapAt.over HM.out hb rfl);have HN_:=Aside0.mk (IMapAt.over HN.out hb rfl);have HF_:=Aside0.mk (HF.out.below hb);have HX_:=Aside0.mk (HX.out.go hb);have BB:=Aside0.mk hbox;clear hbox hb hg HM HN HF HX;have HM:=HM_;have HN:=HN_;have HF:=HF_;have HX:=HX_;clear HM_ HN_ HF_ HX_;have ⟨hc0,hc1,he0,he1⟩:=Yc2 BB.out)
   | (have g_:=BB;clear g_;(with_reducible refine gate_store (t:=63) rfl ?_);go_loud (refine store_event (w1:=(wa.setCell ⟨bb_,0,none⟩ (.int .i64 x)).setCell ⟨bb_,1,none⟩ (.int .i64 y)) ?hg rfl ?hd ?hr ?_;(case hg=>rfl);(case hd=>rfl);(case hr=>first|(go_simp;done)|(go_simp;rfl));intro w8 hw;have S9:=set2 BB.out hw;clear hw hc0 hc1 he0 he1;have HM_:=Aside0.mk (HM.out.kept S9.2.1 (ne_some NB.out.1));have HN_:=Aside0.mk (HN.out.kept S9.2.1 (ne_some NB.out.2));have HF_:=Aside0.mk (HF.out.grown S9.2.1 (fun k hk => .inl (by cases hk;exact GB6.out)));have HX_:=Aside0.mk (HX.out.own S9.2.1 GB.out);have BB_:=Aside0.mk S9.1;clear S9 HM HN HF HX BB;have HM:=HM_;have HN:=HN_;have HF:=HF_;have HX:=HX_;have BC:=BB_;clear HM_ HN_ HF_ HX_ BB_;have ⟨hc0,hc1,he0,he1⟩:=Yc2 BC.out))
   | (at_mapUpdate;go_loud (refine wpList_store_I _ rfl _ _ _ 61 rfl 3 3 Tryd.underlying61 Tryd.underlying3 bm _ rfl HM.out x rfl y rfl ?_;intro w9 hM hg hs;have HM_:=Aside0.mk (show IMapAt w9 bm (impl_MergeText.ip (PX.take (i+1))) from by rw [←HPUT.out];exact hM);have HN_:=Aside0.mk (HN.out.kept hg (ne_some (Ne.symm NMN.out)));have HF_:=Aside0.mk (HF.out.grown hg (fun k hk => .inr (by cases hk;rfl)));have HX_:=Aside0.mk (HX.out.own hg GM.out);clear hM hg hs HM HN HF HX;have HM:=HM_;have HN:=HN_;have HF:=HF_;have HX:=HX_;clear HM_ HN_ HF_ HX_)))
  go_roundg (gk - 1)
  case measure=>omega
  case rel=>exact ⟨i+1,by rw [show wrap64 ((i:Int)+1)=((i+1:Nat):Int) from by have:=HLX.out;unfold wrap64;omega],⟨by omega⟩,HM,HN,HF,HX⟩
 have c1:decide ((i:Int)<(LX.length:Int))=false:=decide_eq_false (by have:=HKX.out;omega)
 have c4:¬ i<LX.length:=by have:=HKX.out;omega
 have c3:decide (i<LX.length)=false:=decide_eq_false c4
 have HM_:=Aside0.mk (show IMapAt wr bm (impl_MergeText.ip PX) from by have:=HM.out;rwa [List.take_of_length_le (by omega)] at this)
 clear HM
 have HM:=HM_
 clear HM_ HF HK hi hik
 go_wp2_with (first
  | (go_at_call 29;(with_reducible refine (impl_Common.calls A0 k0 O A2 k2 Y _ _ HX.out.c0 HC0.out HX.out.c2 HC2.out HCY.out).mono ?_);rintro e w10 ⟨v,rfl,hR,hb⟩;obtain ⟨AQ,cq,rfl⟩:=Kd.R_slice hR;have hml:=HM.out.lt;have hnl:=HN.out.lt;have HR2:=Aside0.mk (Kd.R_mono (Kd.R_bound hR) (ok':=fun k=>k≠bn) (fun k hk=>by have h1:=hk.2.1;(try simp at h1);omega));have HX_:=Aside0.mk (HX.out.go hb);have HM_:=Aside0.mk (IMapAt.over HM.out hb rfl);have HN_:=Aside0.mk (IMapAt.over HN.out hb rfl);clear hR hb HX HM HN hml hnl c1 c3 c4;have HX:=HX_;have HM:=HM_;have HN:=HN_;clear HX_ HM_ HN_))
 go_loopg [68] (PY.length) (fun kq v_ w' => ∃ (i:Nat),v_ = .int .i64 (i:Int)∧Aside0 (kq+i=PY.length)∧Aside0 (IMapAt w' bn (impl_MergeText.ip (PY.take i)))∧Aside0 (IMapAt w' bm (impl_MergeText.ip PX))∧Aside0 (FrameBut w10 bn w')∧Aside0 (impl_MergeText.At w3 A0 A1 A2 O X Y w'))
 case atStart=>exact ⟨0,rfl,⟨by omega⟩,⟨by rw [List.take_zero];exact HN.out⟩,HM,⟨FrameBut.refl _ _⟩,HX⟩
 case round =>
 clear HM HN HX
 obtain ⟨i,rfl,HK,HN,HM,HF,HX⟩:=hrel
 have hik:=HK.out
 by_cases hi:i<PY.length
 ·have c1:decide ((i:Int)<(LY.length:Int))=true:=decide_eq_true (by have:=HKY.out;omega)
  have c2:decide (0≤(i:Int))=true:=decide_eq_true (by have:=HKY.out;omega)
  have c4:i<LY.length:=by have:=HKY.out;omega
  have c3:decide (i<LY.length)=true:=decide_eq_true c4
  obtain ⟨ad,e1,hx0⟩:=at_T63 (impl_MergeText.rowAt HR2.out HF.out) (i:Int) (by omega) (by have:=HKY.out;omega)
  subst e1
  obtain ⟨hx1,hx2⟩:=hx0
  have er:rd_T63 LY (i:Int)=⟨(PY[i].1:Int),(PY[i].2:Int)⟩:=by
   unfold rd_T63
   rw [HEY.out,Int.toNat_natCast,List.getD_eq_getElem?_getD,List.getElem?_eq_getElem (by rw [←HEY.out];have:=HKY.out;omega)]
   show (impl_MergeText.pr PY)[i]'_=_
   unfold impl_MergeText.pr
   rw [List.getElem_map]
  rw [er,Int.toNat_natCast] at hx1 hx2
  dsimp only at hx1 hx2
  clear er
  have HPUT:=Aside0.mk (impl_MergeText.ip_put HPY.out i hi)
  generalize (PY[i].1:Int)=x at HPUT hx1
  generalize (PY[i].2:Int)=y at HPUT hx2
  go_wp2_with (first
   | ((with_reducible refine gd 16 rfl ?_);refine bx 16 63 (#[.int .i64 0,.int .i64 0]) ?_;intro bb_ hg wa hbox hb;have NB:=Aside0.mk (show bm≠bb_∧bn≠bb_ from by have h1:=HM.out.lt;have h2:=HN.out.lt;exact ⟨by omega,by omega⟩);have GB:=Aside0.mk (show w3.heap.size≤bb_ from by rw [hg];exact HX.out.b.size);have GB6:=Aside0.mk (show w10.heap.size≤bb_ from by rw [hg];exact HF.out.1);have HM_:=Aside0.mk (IMapAt.over HM.out hb rfl);have HN_:=Aside0.mk (IMapAt.over HN.out hb rfl);have HF_:=Aside0.mk (HF.out.below hb);have HX_:=Aside0.mk (HX.out.go hb);have BB:=Aside0.mk hbox;clear hbox hb hg HM HN HF HX;have HM:=HM_;have HN:=HN_;have HF:=HF_;have HX:=HX_;clear HM_ HN_ HF_ HX_;have ⟨hc0,hc1,he0,he1⟩:=Yc2 BB.out)
   | (have g_:=BB;clear g_;(with_reducible refine gate_store (t:=63) rfl ?_);go_loud (refine store_event (w1:=(wa.setCell ⟨bb_,0,none⟩ (.int .i64 x)).setCell ⟨bb_,1,none⟩ (.int .i64 y)) ?hg rfl ?hd ?hr ?_;(case hg=>rfl);(case hd=>rfl);(case hr=>first|(go_simp;done)|(go_simp;rfl));intro w8 hw;have S9:=set2 BB.out hw;clear hw hc0 hc1 he0 he1;have HM_:=Aside0.mk (HM.out.kept S9.2.1 (ne_some NB.out.1));have HN_:=Aside0.mk (HN.out.kept S9.2.1 (ne_some NB.out.2));have HF_:=Aside0.mk (HF.out.grown S9.2.1 (fun k hk => .inl (by cases hk;exact GB6.out)));have HX_:=Aside0.mk (HX.out.own S9.2.1 GB.out);have BB_:=Aside0.mk S9.1;clear S9 HM HN HF HX BB;have HM:=HM_;have HN:=HN_;have HF:=HF_;have HX:=HX_;have BC:=BB_;clear HM_ HN_ HF_ HX_ BB_;have ⟨hc0,hc1,he0,he1⟩:=Yc2 BC.out))
   | (at_mapUpdate;go_loud (refine wpList_store_I _ rfl _ _ _ 61 rfl 3 3 Tryd.underlying61 Tryd.underlying3 bn _ rfl HN.out x rfl y rfl ?_;intro w9 hM hg hs;have HM_:=Aside0.mk (show IMapAt w9 bn (impl_MergeText.ip (PY.take (i+1))) from by rw [←HPUT.out];exact hM);have HN_:=Aside0.mk (HM.out.kept hg (ne_some NMN.out));have HF_:=Aside0.mk (HF.out.grown hg (fun k hk => .inr (by cases hk;rfl)));have HX_:=Aside0.mk (HX.out.own hg GN.out);clear hM hg hs HM HN HF HX;have HN:=HM_;have HM:=HN_;have HF:=HF_;have HX:=HX_;clear HM_ HN_ HF_ HX_)))
  go_roundg (gk - 1)
  case measure=>omega
  case rel=>exact ⟨i+1,by rw [show wrap64 ((i:Int)+1)=((i+1:Nat):Int) from by have:=HLY.out;unfold wrap64;omega],⟨by omega⟩,HN,HM,HF,HX⟩
 have c1:decide ((i:Int)<(LY.length:Int))=false:=decide_eq_false (by have:=HKY.out;omega)
 have c4:¬ i<LY.length:=by have:=HKY.out;omega
 have c3:decide (i<LY.length)=false:=decide_eq_false c4
 have HM_:=Aside0.mk (show IMapAt wr bn (impl_MergeText.ip PY) from by have:=HN.out;rwa [List.take_of_length_le (by omega)] at this)
 clear HN
 have HN:=HM_
 clear HM_ HF HK hi hik
 obtain ⟨w5,rfl⟩:∃ u,u=wr:=⟨wr,rfl⟩
 have HW:=Aside0.mk (below_step HB.out HX.out.b)
 clear HB
 go_wp2_with fail
 clear c1 c3 c4
 go_loopg [17,18,19,20,21] (O.length+1) (fun kq s17 s18 s19 s20 s21 w' => ∃ (n i j k:Nat) (out:ByteArray),s17 = .string out∧s18 = .int .i64 (i:Int)∧s19 = .int .i64 (j:Int)∧s20 = .int .i64 (k:Int)∧s21 = .int .i64 (n:Int)∧Aside0 (kq+n=O.length+1)∧Aside0 (impl_MergeText.out (mgo O X Y (withP PX) (withP PY) kq n i j k out)=(r1,r2))∧Aside0 (i≤n)∧Aside0 (n≤O.length→Low (withP PX) n j∧j≤X.length)∧Aside0 (n≤O.length→Low (withP PY) n k∧k≤Y.length)∧Aside0 (out.size≤n*3000)∧Aside0 (Below w5.heap.size w5 w'))
 case atStart=>exact ⟨0,0,0,0,⟨#[]⟩,rfl,rfl,rfl,rfl,rfl,⟨by omega⟩,⟨HT.out⟩,⟨Nat.le_refl _⟩,⟨fun _=>⟨fun _ _ _ _=>Nat.zero_le _,Nat.zero_le _⟩⟩,⟨fun _=>⟨fun _ _ _ _=>Nat.zero_le _,Nat.zero_le _⟩⟩,⟨Nat.zero_le _⟩,⟨Below.refl _ _⟩⟩
 case round =>
 clear HT
 obtain ⟨n,i,j,k,out,rfl,rfl,rfl,rfl,rfl,HK,HT,HI,HJ,HKK,HZO,HB5⟩:=hrel
 cases gk with
 | zero =>
  have hk:=HK.out
  have c1:decide ((n:Int)≤(O.length:Int))=false:=decide_eq_false (by omega)
  have c2:decide (n≤O.length)=false:=decide_eq_false (by omega)
  have ht:=HT.out
  rw [mgo] at ht
  obtain ⟨rfl,rfl⟩:=Prod.mk.inj ht
  clear ht hk
  go_wp2
  go_ret2
  exact ⟨rfl,below_step HW.out HB5.out⟩
 | succ d =>
  have hk:=HK.out
  have hn0:n≤O.length:=by omega
  have c1:decide ((n:Int)≤(O.length:Int))=true:=decide_eq_true (by omega)
  have c2:decide (n≤O.length)=true:=decide_eq_true hn0
  go_upto_if 91 with fail
  go_cut [22,23] (fun s22 s23 wx => ∃ x y:Nat,s22 = .int .i64 (x:Int)∧s23 = .int .i64 (y:Int)∧Aside0 (j≤x∧x≤X.length∧k≤y∧y≤Y.length)∧Aside0 (n<O.length→withP PX n=some x∧withP PY n=some y)∧Aside0 (n=O.length→x=X.length∧y=Y.length)∧Aside0 (Below w5.heap.size w5 wx))
  case first =>
   by_cases hn:n<O.length
   ·have c5:decide ((n:Int)<(O.length:Int))=true:=decide_eq_true (by omega)
    have c6:decide (n<O.length)=true:=decide_eq_true hn
    have IM:=Aside0.mk (IMapAt.over HM.out HB5.out rfl)
    have IN:=Aside0.mk (IMapAt.over HN.out HB5.out rfl)
    obtain ⟨a1_,a2_⟩:=impl_MergeText.ip_has PX n
    obtain ⟨b1_,b2_⟩:=impl_MergeText.ip_has PY n
    cases hf:withP PX n with
    | none =>
     rw [hf] at a1_ a2_
     have HT2:=Aside0.mk (HT.out)
     rw [impl_MergeText.skip hn (.inl hf)] at HT2
     obtain ⟨gy,hgy⟩:∃ gy,((withP PY n).getD 0:Nat)=gy:=⟨_,rfl⟩
     obtain ⟨ok,hok⟩:∃ ok,(withP PY n).isSome=ok:=⟨_,rfl⟩
     rw [hok] at b1_
     rw [hgy] at b2_
     have A1:=Aside0.mk a1_;have A2:=Aside0.mk a2_;have B1:=Aside0.mk b1_;have B2:=Aside0.mk b2_
     have HF:=Aside0.mk hf
     clear a1_ a2_ b1_ b2_ hgy hok hf HT
     cases ok
     all_goals
      go_wp2_with (first|(at_lookup;refine wpList_look_ok_I _ rfl _ _ 61 rfl 3 3 Tryd.underlying61 Tryd.underlying3 (int_zero _) bm (impl_MergeText.ip PX) rfl IM.out (n:Int) rfl _ A2.out _ A1.out ?_)|(at_lookup;refine wpList_look_ok_I _ rfl _ _ 61 rfl 3 3 Tryd.underlying61 Tryd.underlying3 (int_zero _) bn (impl_MergeText.ip PY) rfl IN.out (n:Int) rfl _ B2.out _ B1.out ?_))
      go_roundg d
      case measure=>omega
      case rel=>exact ⟨n+1,i,j,k,out,rfl,rfl,rfl,rfl,by rw [show wrap64 ((n:Int)+1)=((n+1:Nat):Int) from by have:=HN0.out;unfold wrap64;omega],⟨by omega⟩,HT2,⟨by have:=HI.out;omega⟩,⟨fun h=>⟨(HJ.out hn0).1.skip,(HJ.out hn0).2⟩⟩,⟨fun h=>⟨(HKK.out hn0).1.skip,(HKK.out hn0).2⟩⟩,⟨by have:=HZO.out;omega⟩,HB5⟩
    | some x =>
     cases hg:withP PY n with
     | none =>
      rw [hf] at a1_ a2_
      rw [hg] at b1_ b2_
      have HT2:=Aside0.mk (HT.out)
      rw [impl_MergeText.skip hn (.inr hg)] at HT2
      have A1:=Aside0.mk a1_;have A2:=Aside0.mk a2_;have B1:=Aside0.mk b1_;have B2:=Aside0.mk b2_
      clear a1_ a2_ b1_ b2_ hf hg HT
      go_wp2_with (first|(at_lookup;refine wpList_look_ok_I _ rfl _ _ 61 rfl 3 3 Tryd.underlying61 Tryd.underlying3 (int_zero _) bm (impl_MergeText.ip PX) rfl IM.out (n:Int) rfl _ A2.out _ A1.out ?_)|(at_lookup;refine wpList_look_ok_I _ rfl _ _ 61 rfl 3 3 Tryd.underlying61 Tryd.underlying3 (int_zero _) bn (impl_MergeText.ip PY) rfl IN.out (n:Int) rfl _ B2.out _ B1.out ?_))
      go_roundg d
      case measure=>omega
      case rel=>exact ⟨n+1,i,j,k,out,rfl,rfl,rfl,rfl,by rw [show wrap64 ((n:Int)+1)=((n+1:Nat):Int) from by have:=HN0.out;unfold wrap64;omega],⟨by omega⟩,HT2,⟨by have:=HI.out;omega⟩,⟨fun h=>⟨(HJ.out hn0).1.skip,(HJ.out hn0).2⟩⟩,⟨fun h=>⟨(HKK.out hn0).1.skip,(HKK.out hn0).2⟩⟩,⟨by have:=HZO.out;omega⟩,HB5⟩
     | some y =>
      rw [hf] at a1_ a2_
      rw [hg] at b1_ b2_
      have A1:=Aside0.mk a1_;have A2:=Aside0.mk a2_;have B1:=Aside0.mk b1_;have B2:=Aside0.mk b2_
      have HF:=Aside0.mk hf;have HGG:=Aside0.mk hg
      clear a1_ a2_ b1_ b2_ hf hg
      go_wp2_with (first|(at_lookup;refine wpList_look_ok_I _ rfl _ _ 61 rfl 3 3 Tryd.underlying61 Tryd.underlying3 (int_zero _) bm (impl_MergeText.ip PX) rfl IM.out (n:Int) rfl _ A2.out _ A1.out ?_)|(at_lookup;refine wpList_look_ok_I _ rfl _ _ 61 rfl 3 3 Tryd.underlying61 Tryd.underlying3 (int_zero _) bn (impl_MergeText.ip PY) rfl IN.out (n:Int) rfl _ B2.out _ B1.out ?_))
      go_meet
      case rel=>exact ⟨x,y,rfl,rfl,⟨(HJ.out hn0).1 n x (Nat.le_refl _) HF.out,Nat.le_of_lt (HQX.out.lt n x HF.out hn).1,(HKK.out hn0).1 n y (Nat.le_refl _) HGG.out,Nat.le_of_lt (HQY.out.lt n y HGG.out hn).1⟩,⟨fun _=>⟨HF.out,HGG.out⟩⟩,⟨fun h=>absurd h (by omega)⟩,HB5⟩
   ·have c5:decide ((n:Int)<(O.length:Int))=false:=decide_eq_false (by omega)
    have c6:decide (n<O.length)=false:=decide_eq_false hn
    go_wp2_with fail
    go_meet
    case rel=>exact ⟨X.length,Y.length,rfl,rfl,⟨(HJ.out hn0).2,Nat.le_refl _,(HKK.out hn0).2,Nat.le_refl _⟩,⟨fun h=>absurd h hn⟩,⟨fun _=>⟨rfl,rfl⟩⟩,HB5⟩
  case rest =>
  clear HB5
  obtain ⟨x,y,rfl,rfl,HXY,HS1,HS2,HB5⟩:=hcut
  obtain ⟨AO,cO,hcO,hRO,kO⟩:=impl_MergeText.cut (Kd.C_below HX.out.c0 HB5.out) HI.out hn0 HC0.out
  obtain ⟨AX,cX,hcX,hRX,kX⟩:=impl_MergeText.cut (Kd.C_below HX.out.c1 HB5.out) HXY.out.1 HXY.out.2.1 HC1.out
  obtain ⟨AY,cY,hcY,hRY,kY⟩:=impl_MergeText.cut (Kd.C_below HX.out.c2 HB5.out) HXY.out.2.2.1 HXY.out.2.2.2 HC2.out
  have RO:=Aside0.mk hRO;have RX:=Aside0.mk hRX;have RY:=Aside0.mk hRY
  have QO:=Aside0.mk hcO;have QX:=Aside0.mk hcX;have QY:=Aside0.mk hcY
  have JO:=Aside0.mk (impl_MergeText.join_now (sl O i n) (by rw [impl_MergeText.sl_len O HI.out hn0];have:=HN0.out;omega) (Nat.le_trans (impl_MergeText.cat_sl O i n) HZ0.out))
  have JX:=Aside0.mk (impl_MergeText.join_now (sl X j x) (by rw [impl_MergeText.sl_len X HXY.out.1 HXY.out.2.1];have:=HN1.out;have:=HXY.out;omega) (Nat.le_trans (impl_MergeText.cat_sl X j x) HZ1.out))
  have JY:=Aside0.mk (impl_MergeText.join_now (sl Y k y) (by rw [impl_MergeText.sl_len Y HXY.out.2.2.1 HXY.out.2.2.2];have:=HN2.out;have:=HXY.out;omega) (Nat.le_trans (impl_MergeText.cat_sl Y k y) HZ2.out))
  clear hRO hRX hRY hcO hcX hcY
  go_upto_region 26 with fail
  go_cut [26,27,28] (fun s26 s27 s28 wx=>s26 = .string (cat (sl O i n))∧s27 = .string (cat (sl X j x))∧s28 = .string (cat (sl Y k y))∧Aside0 (Below wc.heap.size wc wx))
  case first =>
   have HJB:=Aside0.mk (Below.refl wc.heap.size wc)
   go_region_held3 (fun w'=>True) (exact trivial) (first
    | (go_at_call 30;(with_reducible refine (strings_Join.calls AO cO (sl O i n) ⟨#[]⟩ (cat (sl O i n)) _ (Kd.C_below RO.out (be HJB.out)) QO.out JO.out).mono ?_);rintro e wj ⟨rfl,hb⟩;have HJB_:=Aside0.mk (below_step (be HJB.out) hb);clear HJB hb;have HJB:=HJB_;clear HJB_)
    | (go_at_call 30;(with_reducible refine (strings_Join.calls AX cX (sl X j x) ⟨#[]⟩ (cat (sl X j x)) _ (Kd.C_below RX.out (be HJB.out)) QX.out JX.out).mono ?_);rintro e wj ⟨rfl,hb⟩;have HJB_:=Aside0.mk (below_step (be HJB.out) hb);clear HJB hb;have HJB:=HJB_;clear HJB_)
    | (go_at_call 30;(with_reducible refine (strings_Join.calls AY cY (sl Y k y) ⟨#[]⟩ (cat (sl Y k y)) _ (Kd.C_below RY.out (be HJB.out)) QY.out JY.out).mono ?_);rintro e wj ⟨rfl,hb⟩;have HJB_:=Aside0.mk (below_step (be HJB.out) hb);clear HJB hb;have HJB:=HJB_;clear HJB_))
   all_goals (go_wp2_with fail;go_meet)
   all_goals (case rel=>exact ⟨rfl,rfl,rfl,⟨be HJB.out⟩⟩)
  case rest =>
  obtain ⟨rfl,rfl,rfl,HB6⟩:=hcut
  have HB7:=Aside0.mk (below_step HB5.out HB6.out)
  have RO_:=Aside0.mk (Kd.C_below RO.out HB6.out)
  have RX_:=Aside0.mk (Kd.C_below RX.out HB6.out)
  have RY_:=Aside0.mk (Kd.C_below RY.out HB6.out)
  clear RO RX RY HB5 HB6 JO JX JY
  have RO:=RO_;have RX:=RX_;have RY:=RY_
  clear RO_ RX_ RY_
  have HT1:=HT.out
  rw [impl_MergeText.step HW0.out HW1.out HW2.out hn0 HS1.out HS2.out] at HT1
  clear HT
  have hx_:=HXY.out
  have hN0_:=HN0.out
  have hN1_:=HN1.out
  have hN2_:=HN2.out
  have W1:=Aside0.mk (show wrap64 ((n:Int)+1)=((n+1:Nat):Int) from by unfold wrap64;omega)
  have W2:=Aside0.mk (show wrap64 ((x:Int)+1)=((x+1:Nat):Int) from by unfold wrap64;omega)
  have W3:=Aside0.mk (show wrap64 ((y:Int)+1)=((y+1:Nat):Int) from by unfold wrap64;omega)
  clear hx_ hN1_ hN2_
  by_cases q1:sl O i n=sl X j x
  ·have E1:=Aside0.mk (impl_MergeText.eqv (c:=cO) (c':=cX) RO.out RX.out (decide_eq_true q1))
   rw [threeL,if_pos q1,Option.bind_some] at HT1
   clear q1
   have z1:out.size+(cat (sl Y k y)).size≤9223372036854775807:=by have h1:=HZO.out;have h2:=(Nat.le_trans (impl_MergeText.cat_sl Y k y) HZ2.out);omega
   have z1a:=eq_true z1
   have z1b:decide (out.size+(cat (sl Y k y)).size≤9223372036854775807)=true:=decide_eq_true z1
   have z1c:(9223372036854775807<out.size+(cat (sl Y k y)).size)=False:=eq_false (Nat.not_lt.2 z1)
   clear z1
   by_cases hn:n<O.length
   ·have c5:decide ((n:Int)<(O.length:Int))=true:=decide_eq_true (by omega)
    have c6:decide (n<O.length)=true:=decide_eq_true hn
    have c7:decide (0≤(n:Int))=true:=decide_eq_true (by omega)
    have z2:out.size+(cat (sl Y k y)).size+(O[n]).size≤9223372036854775807:=by have h1:=HZO.out;have h2:=(Nat.le_trans (impl_MergeText.cat_sl Y k y) HZ2.out);have h3:=impl_MergeText.elem O n hn;have h4:=HZ0.out;omega
    have z3:(out++cat (sl Y k y)).size+(O[n]).size≤9223372036854775807:=by rw [ByteArray.size_append];exact z2
    have z2a:=eq_true z2
    have z2b:=decide_eq_true z2
    have z2c:(9223372036854775807<out.size+(cat (sl Y k y)).size+(O[n]).size)=False:=eq_false (Nat.not_lt.2 z2)
    have z3a:=eq_true z3
    have z3b:=decide_eq_true z3
    have z3c:(9223372036854775807<(out++cat (sl Y k y)).size+(O[n]).size)=False:=eq_false (Nat.not_lt.2 z3)
    clear z2 z3
    obtain ⟨ad,e1_,hx1⟩:=Kd.at_string (Kd.C_below HX.out.c0 HB7.out) (n:Int) (by omega) (by omega)
    cases e1_
    rw [rd_of hn,Int.toNat_natCast] at hx1
    have HOUT:=Aside0.mk (show (out++cat (sl Y k y)++O[n]).size≤(n+1)*3000 from by rw [ByteArray.size_append,ByteArray.size_append];have h1:=HZO.out;have h2:=(Nat.le_trans (impl_MergeText.cat_sl Y k y) HZ2.out);have h3:=impl_MergeText.elem O n hn;have h4:=HZ0.out;omega)
    have HT2:=Aside0.mk (show impl_MergeText.out (mgo O X Y (withP PX) (withP PY) d (n+1) (n+1) (x+1) (y+1) (out++cat (sl Y k y)++O[n]))=(r1,r2) from by have:=HT1;rw [dif_pos hn] at this;exact this)
    have HLOW:=Aside0.mk (show Low (withP PX) (n+1) (x+1)∧Low (withP PY) (n+1) (y+1)∧x+1≤X.length∧y+1≤Y.length from by
     obtain ⟨f1,f2⟩:=HS1.out hn
     exact ⟨Low.next HQX.out f1,Low.next HQY.out f2,(HQX.out.lt n x f1 hn).1,(HQY.out.lt n y f2 hn).1⟩)
    clear HT1
    generalize hOn:O[n]=On at hx1 HOUT HT2 z2a z2b z2c z3a z3b z3c
    have HOn:=Aside0.mk hOn
    clear hOn
    go_wp2_with fail
    go_quiet ((go_at_call 31;with_reducible exact E1.out _))
    go_wp2_with fail
    go_wp2
    go_roundg d
    case measure=>omega
    case rel=>exact ⟨n+1,n+1,x+1,y+1,_,rfl,by first|rw [W1.out]|exact congrArg (Value.int .i64) (by omega),by first|rw [W2.out]|exact congrArg (Value.int .i64) (by omega),by first|rw [W3.out]|exact congrArg (Value.int .i64) (by omega),by first|rw [W1.out]|exact congrArg (Value.int .i64) (by omega),⟨by omega⟩,HT2,⟨Nat.le_refl _⟩,⟨fun _=>⟨HLOW.out.1,HLOW.out.2.2.1⟩⟩,⟨fun _=>⟨HLOW.out.2.1,HLOW.out.2.2.2⟩⟩,HOUT,⟨by first|exact be HB8.out|exact be HB7.out⟩⟩
   ·have c5:decide ((n:Int)<(O.length:Int))=false:=decide_eq_false (by omega)
    have c6:decide (n<O.length)=false:=decide_eq_false hn
    have HOUT:=Aside0.mk (show (out++cat (sl Y k y)).size≤(n+1)*3000 from by rw [ByteArray.size_append];have h1:=HZO.out;have h2:=(Nat.le_trans (impl_MergeText.cat_sl Y k y) HZ2.out);omega)
    have HT2:=Aside0.mk (show impl_MergeText.out (mgo O X Y (withP PX) (withP PY) d (n+1) (n+1) (x+1) (y+1) (out++cat (sl Y k y)))=(r1,r2) from by have:=HT1;rw [dif_neg hn] at this;exact this)
    clear HT1
    go_wp2_with fail
    go_quiet ((go_at_call 31;with_reducible exact E1.out _))
    go_wp2_with fail
    go_wp2
    go_roundg d
    case measure=>omega
    case rel=>exact ⟨n+1,n+1,x+1,y+1,_,rfl,by first|rw [W1.out]|exact congrArg (Value.int .i64) (by omega),by first|rw [W2.out]|exact congrArg (Value.int .i64) (by omega),by first|rw [W3.out]|exact congrArg (Value.int .i64) (by omega),by first|rw [W1.out]|exact congrArg (Value.int .i64) (by omega),⟨by omega⟩,HT2,⟨Nat.le_refl _⟩,⟨fun h=>absurd h (by omega)⟩,⟨fun h=>absurd h (by omega)⟩,HOUT,⟨by first|exact be HB8.out|exact be HB7.out⟩⟩
  ·have E1:=Aside0.mk (impl_MergeText.eqv (c:=cO) (c':=cX) RO.out RX.out (decide_eq_false q1))
   by_cases q2:sl O i n=sl Y k y
   ·have T2:=Aside0.mk (decide_eq_true q2)
    rw [threeL,if_neg q1,if_pos (.inl q2),Option.bind_some] at HT1
    clear q1 q2
    have z1:out.size+(cat (sl X j x)).size≤9223372036854775807:=by have h1:=HZO.out;have h2:=(Nat.le_trans (impl_MergeText.cat_sl X j x) HZ1.out);omega
    have z1a:=eq_true z1
    have z1b:decide (out.size+(cat (sl X j x)).size≤9223372036854775807)=true:=decide_eq_true z1
    have z1c:(9223372036854775807<out.size+(cat (sl X j x)).size)=False:=eq_false (Nat.not_lt.2 z1)
    clear z1
    by_cases hn:n<O.length
    ·have c5:decide ((n:Int)<(O.length:Int))=true:=decide_eq_true (by omega)
     have c6:decide (n<O.length)=true:=decide_eq_true hn
     have c7:decide (0≤(n:Int))=true:=decide_eq_true (by omega)
     have z2:out.size+(cat (sl X j x)).size+(O[n]).size≤9223372036854775807:=by have h1:=HZO.out;have h2:=(Nat.le_trans (impl_MergeText.cat_sl X j x) HZ1.out);have h3:=impl_MergeText.elem O n hn;have h4:=HZ0.out;omega
     have z3:(out++cat (sl X j x)).size+(O[n]).size≤9223372036854775807:=by rw [ByteArray.size_append];exact z2
     have z2a:=eq_true z2
     have z2b:=decide_eq_true z2
     have z2c:(9223372036854775807<out.size+(cat (sl X j x)).size+(O[n]).size)=False:=eq_false (Nat.not_lt.2 z2)
     have z3a:=eq_true z3
     have z3b:=decide_eq_true z3
     have z3c:(9223372036854775807<(out++cat (sl X j x)).size+(O[n]).size)=False:=eq_false (Nat.not_lt.2 z3)
     clear z2 z3
     obtain ⟨ad,e1_,hx1⟩:=Kd.at_string (Kd.C_below HX.out.c0 HB7.out) (n:Int) (by omega) (by omega)
     cases e1_
     rw [rd_of hn,Int.toNat_natCast] at hx1
     have HOUT:=Aside0.mk (show (out++cat (sl X j x)++O[n]).size≤(n+1)*3000 from by rw [ByteArray.size_append,ByteArray.size_append];have h1:=HZO.out;have h2:=(Nat.le_trans (impl_MergeText.cat_sl X j x) HZ1.out);have h3:=impl_MergeText.elem O n hn;have h4:=HZ0.out;omega)
     have HT2:=Aside0.mk (show impl_MergeText.out (mgo O X Y (withP PX) (withP PY) d (n+1) (n+1) (x+1) (y+1) (out++cat (sl X j x)++O[n]))=(r1,r2) from by have:=HT1;rw [dif_pos hn] at this;exact this)
     have HLOW:=Aside0.mk (show Low (withP PX) (n+1) (x+1)∧Low (withP PY) (n+1) (y+1)∧x+1≤X.length∧y+1≤Y.length from by
      obtain ⟨f1,f2⟩:=HS1.out hn
      exact ⟨Low.next HQX.out f1,Low.next HQY.out f2,(HQX.out.lt n x f1 hn).1,(HQY.out.lt n y f2 hn).1⟩)
     clear HT1
     generalize hOn:O[n]=On at hx1 HOUT HT2 z2a z2b z2c z3a z3b z3c
     have HOn:=Aside0.mk hOn
     clear hOn
     go_wp2_with fail
     go_quiet ((go_at_call 31;with_reducible exact E1.out _))
     have RO2:=Aside0.mk (Kd.C_drewN RO.out nq)
     have RX2:=Aside0.mk (Kd.C_drewN RX.out nq)
     have RY2:=Aside0.mk (Kd.C_drewN RY.out nq)
     have HB8:=Aside0.mk (pw_below_drewN HB7.out nq)
     generalize wc.drewN nq=wd at RO2 RX2 RY2 HB8 ⊢
     obtain ⟨ad2,e2_,hx2⟩:=Kd.at_string (Kd.C_below HX.out.c0 HB8.out) (n:Int) (by omega) (by omega)
     cases e2_
     rw [rd_of hn,HOn.out,Int.toNat_natCast] at hx2
     clear hx1
     have E2:=Aside0.mk (impl_MergeText.eqv (c:=cO) (c':=cY) RO2.out RY2.out T2.out)
     have E3:=E2
     go_wp2_with fail
     go_quiet (first|(go_at_call 31;with_reducible exact E2.out _)|(go_at_call 31;with_reducible exact E3.out _))
     go_wp2_with fail
     go_wp2
     go_roundg d
     case measure=>omega
     case rel=>exact ⟨n+1,n+1,x+1,y+1,_,rfl,by first|rw [W1.out]|exact congrArg (Value.int .i64) (by omega),by first|rw [W2.out]|exact congrArg (Value.int .i64) (by omega),by first|rw [W3.out]|exact congrArg (Value.int .i64) (by omega),by first|rw [W1.out]|exact congrArg (Value.int .i64) (by omega),⟨by omega⟩,HT2,⟨Nat.le_refl _⟩,⟨fun _=>⟨HLOW.out.1,HLOW.out.2.2.1⟩⟩,⟨fun _=>⟨HLOW.out.2.1,HLOW.out.2.2.2⟩⟩,HOUT,⟨by first|exact be HB8.out|exact be HB7.out⟩⟩
    ·have c5:decide ((n:Int)<(O.length:Int))=false:=decide_eq_false (by omega)
     have c6:decide (n<O.length)=false:=decide_eq_false hn
     have HOUT:=Aside0.mk (show (out++cat (sl X j x)).size≤(n+1)*3000 from by rw [ByteArray.size_append];have h1:=HZO.out;have h2:=(Nat.le_trans (impl_MergeText.cat_sl X j x) HZ1.out);omega)
     have HT2:=Aside0.mk (show impl_MergeText.out (mgo O X Y (withP PX) (withP PY) d (n+1) (n+1) (x+1) (y+1) (out++cat (sl X j x)))=(r1,r2) from by have:=HT1;rw [dif_neg hn] at this;exact this)
     clear HT1
     go_wp2_with fail
     go_quiet ((go_at_call 31;with_reducible exact E1.out _))
     have RO2:=Aside0.mk (Kd.C_drewN RO.out nq)
     have RX2:=Aside0.mk (Kd.C_drewN RX.out nq)
     have RY2:=Aside0.mk (Kd.C_drewN RY.out nq)
     have HB8:=Aside0.mk (pw_below_drewN HB7.out nq)
     generalize wc.drewN nq=wd at RO2 RX2 RY2 HB8 ⊢
     have E2:=Aside0.mk (impl_MergeText.eqv (c:=cO) (c':=cY) RO2.out RY2.out T2.out)
     have E3:=E2
     go_wp2_with fail
     go_quiet (first|(go_at_call 31;with_reducible exact E2.out _)|(go_at_call 31;with_reducible exact E3.out _))
     go_wp2_with fail
     go_wp2
     go_roundg d
     case measure=>omega
     case rel=>exact ⟨n+1,n+1,x+1,y+1,_,rfl,by first|rw [W1.out]|exact congrArg (Value.int .i64) (by omega),by first|rw [W2.out]|exact congrArg (Value.int .i64) (by omega),by first|rw [W3.out]|exact congrArg (Value.int .i64) (by omega),by first|rw [W1.out]|exact congrArg (Value.int .i64) (by omega),⟨by omega⟩,HT2,⟨Nat.le_refl _⟩,⟨fun h=>absurd h (by omega)⟩,⟨fun h=>absurd h (by omega)⟩,HOUT,⟨by first|exact be HB8.out|exact be HB7.out⟩⟩
   ·have T2:=Aside0.mk (decide_eq_false q2)
    by_cases q3:sl X j x=sl Y k y
    ·have T3:=Aside0.mk (decide_eq_true q3)
     rw [threeL,if_neg q1,if_pos (.inr q3),Option.bind_some] at HT1
     clear q1 q2 q3
     have z1:out.size+(cat (sl X j x)).size≤9223372036854775807:=by have h1:=HZO.out;have h2:=(Nat.le_trans (impl_MergeText.cat_sl X j x) HZ1.out);omega
     have z1a:=eq_true z1
     have z1b:decide (out.size+(cat (sl X j x)).size≤9223372036854775807)=true:=decide_eq_true z1
     have z1c:(9223372036854775807<out.size+(cat (sl X j x)).size)=False:=eq_false (Nat.not_lt.2 z1)
     clear z1
     by_cases hn:n<O.length
     ·have c5:decide ((n:Int)<(O.length:Int))=true:=decide_eq_true (by omega)
      have c6:decide (n<O.length)=true:=decide_eq_true hn
      have c7:decide (0≤(n:Int))=true:=decide_eq_true (by omega)
      have z2:out.size+(cat (sl X j x)).size+(O[n]).size≤9223372036854775807:=by have h1:=HZO.out;have h2:=(Nat.le_trans (impl_MergeText.cat_sl X j x) HZ1.out);have h3:=impl_MergeText.elem O n hn;have h4:=HZ0.out;omega
      have z3:(out++cat (sl X j x)).size+(O[n]).size≤9223372036854775807:=by rw [ByteArray.size_append];exact z2
      have z2a:=eq_true z2
      have z2b:=decide_eq_true z2
      have z2c:(9223372036854775807<out.size+(cat (sl X j x)).size+(O[n]).size)=False:=eq_false (Nat.not_lt.2 z2)
      have z3a:=eq_true z3
      have z3b:=decide_eq_true z3
      have z3c:(9223372036854775807<(out++cat (sl X j x)).size+(O[n]).size)=False:=eq_false (Nat.not_lt.2 z3)
      clear z2 z3
      obtain ⟨ad,e1_,hx1⟩:=Kd.at_string (Kd.C_below HX.out.c0 HB7.out) (n:Int) (by omega) (by omega)
      cases e1_
      rw [rd_of hn,Int.toNat_natCast] at hx1
      have HOUT:=Aside0.mk (show (out++cat (sl X j x)++O[n]).size≤(n+1)*3000 from by rw [ByteArray.size_append,ByteArray.size_append];have h1:=HZO.out;have h2:=(Nat.le_trans (impl_MergeText.cat_sl X j x) HZ1.out);have h3:=impl_MergeText.elem O n hn;have h4:=HZ0.out;omega)
      have HT2:=Aside0.mk (show impl_MergeText.out (mgo O X Y (withP PX) (withP PY) d (n+1) (n+1) (x+1) (y+1) (out++cat (sl X j x)++O[n]))=(r1,r2) from by have:=HT1;rw [dif_pos hn] at this;exact this)
      have HLOW:=Aside0.mk (show Low (withP PX) (n+1) (x+1)∧Low (withP PY) (n+1) (y+1)∧x+1≤X.length∧y+1≤Y.length from by
       obtain ⟨f1,f2⟩:=HS1.out hn
       exact ⟨Low.next HQX.out f1,Low.next HQY.out f2,(HQX.out.lt n x f1 hn).1,(HQY.out.lt n y f2 hn).1⟩)
      clear HT1
      generalize hOn:O[n]=On at hx1 HOUT HT2 z2a z2b z2c z3a z3b z3c
      have HOn:=Aside0.mk hOn
      clear hOn
      go_wp2_with fail
      go_quiet ((go_at_call 31;with_reducible exact E1.out _))
      have RO2:=Aside0.mk (Kd.C_drewN RO.out nq)
      have RX2:=Aside0.mk (Kd.C_drewN RX.out nq)
      have RY2:=Aside0.mk (Kd.C_drewN RY.out nq)
      have HB8:=Aside0.mk (pw_below_drewN HB7.out nq)
      generalize wc.drewN nq=wd at RO2 RX2 RY2 HB8 ⊢
      obtain ⟨ad2,e2_,hx2⟩:=Kd.at_string (Kd.C_below HX.out.c0 HB8.out) (n:Int) (by omega) (by omega)
      cases e2_
      rw [rd_of hn,HOn.out,Int.toNat_natCast] at hx2
      clear hx1
      have E2:=Aside0.mk (impl_MergeText.eqv (c:=cO) (c':=cY) RO2.out RY2.out T2.out)
      have E3:=Aside0.mk (impl_MergeText.eqv (c:=cX) (c':=cY) RX2.out RY2.out T3.out)
      go_wp2_with fail
      go_quiet (first|(go_at_call 31;with_reducible exact E2.out _)|(go_at_call 31;with_reducible exact E3.out _))
      go_wp2_with fail
      go_wp2
      go_roundg d
      case measure=>omega
      case rel=>exact ⟨n+1,n+1,x+1,y+1,_,rfl,by first|rw [W1.out]|exact congrArg (Value.int .i64) (by omega),by first|rw [W2.out]|exact congrArg (Value.int .i64) (by omega),by first|rw [W3.out]|exact congrArg (Value.int .i64) (by omega),by first|rw [W1.out]|exact congrArg (Value.int .i64) (by omega),⟨by omega⟩,HT2,⟨Nat.le_refl _⟩,⟨fun _=>⟨HLOW.out.1,HLOW.out.2.2.1⟩⟩,⟨fun _=>⟨HLOW.out.2.1,HLOW.out.2.2.2⟩⟩,HOUT,⟨by first|exact be HB8.out|exact be HB7.out⟩⟩
     ·have c5:decide ((n:Int)<(O.length:Int))=false:=decide_eq_false (by omega)
      have c6:decide (n<O.length)=false:=decide_eq_false hn
      have HOUT:=Aside0.mk (show (out++cat (sl X j x)).size≤(n+1)*3000 from by rw [ByteArray.size_append];have h1:=HZO.out;have h2:=(Nat.le_trans (impl_MergeText.cat_sl X j x) HZ1.out);omega)
      have HT2:=Aside0.mk (show impl_MergeText.out (mgo O X Y (withP PX) (withP PY) d (n+1) (n+1) (x+1) (y+1) (out++cat (sl X j x)))=(r1,r2) from by have:=HT1;rw [dif_neg hn] at this;exact this)
      clear HT1
      go_wp2_with fail
      go_quiet ((go_at_call 31;with_reducible exact E1.out _))
      have RO2:=Aside0.mk (Kd.C_drewN RO.out nq)
      have RX2:=Aside0.mk (Kd.C_drewN RX.out nq)
      have RY2:=Aside0.mk (Kd.C_drewN RY.out nq)
      have HB8:=Aside0.mk (pw_below_drewN HB7.out nq)
      generalize wc.drewN nq=wd at RO2 RX2 RY2 HB8 ⊢
      have E2:=Aside0.mk (impl_MergeText.eqv (c:=cO) (c':=cY) RO2.out RY2.out T2.out)
      have E3:=Aside0.mk (impl_MergeText.eqv (c:=cX) (c':=cY) RX2.out RY2.out T3.out)
      go_wp2_with fail
      go_quiet (first|(go_at_call 31;with_reducible exact E2.out _)|(go_at_call 31;with_reducible exact E3.out _))
      go_wp2_with fail
      go_wp2
      go_roundg d
      case measure=>omega
      case rel=>exact ⟨n+1,n+1,x+1,y+1,_,rfl,by first|rw [W1.out]|exact congrArg (Value.int .i64) (by omega),by first|rw [W2.out]|exact congrArg (Value.int .i64) (by omega),by first|rw [W3.out]|exact congrArg (Value.int .i64) (by omega),by first|rw [W1.out]|exact congrArg (Value.int .i64) (by omega),⟨by omega⟩,HT2,⟨Nat.le_refl _⟩,⟨fun h=>absurd h (by omega)⟩,⟨fun h=>absurd h (by omega)⟩,HOUT,⟨by first|exact be HB8.out|exact be HB7.out⟩⟩
    ·have T3:=Aside0.mk (decide_eq_false q3)
     rw [threeL,if_neg q1,if_neg (fun h=>h.elim q2 q3)] at HT1
     obtain ⟨rfl,rfl⟩:=Prod.mk.inj HT1
     clear HT1 q1 q2 q3
     go_wp2_with fail
     go_quiet ((go_at_call 31;with_reducible exact E1.out _))
     have RO2:=Aside0.mk (Kd.C_drewN RO.out nq)
     have RX2:=Aside0.mk (Kd.C_drewN RX.out nq)
     have RY2:=Aside0.mk (Kd.C_drewN RY.out nq)
     have HB8:=Aside0.mk (pw_below_drewN HB7.out nq)
     generalize wc.drewN nq=wd at RO2 RX2 RY2 HB8 ⊢
     have E2:=Aside0.mk (impl_MergeText.eqv (c:=cO) (c':=cY) RO2.out RY2.out T2.out)
     have E3:=Aside0.mk (impl_MergeText.eqv (c:=cX) (c':=cY) RX2.out RY2.out T3.out)
     go_wp2_with fail
     go_quiet (first|(go_at_call 31;with_reducible exact E2.out _)|(go_at_call 31;with_reducible exact E3.out _))
     go_wp2
     go_ret2
     exact ⟨rfl,below_step HW.out (be HB8.out)⟩
theorem impl_MergeText.calls (a0 a1 a2:ByteArray) (r1:ByteArray) (r2:Bool) (w:World) (hg:GOK w) (h:impl_MergeText.f a0 a1 a2=some (r1,r2)) :
  Calls Tryd.prog 9 #[.string a0,.string a1,.string a2] w fun e w'=>e = .returned (.tuple #[.string r1,.bool r2])∧Below w.heap.size w w':=by
 have h':mergeT a0 a1 a2=(r1,r2):=Option.some.inj h
 by_cases hb:a0.size>1500∨a1.size>1500∨a2.size>1500
 ·have e:=h'
  unfold mergeT at e
  rw [if_pos hb] at e
  obtain ⟨rfl,rfl⟩:=Prod.mk.inj e
  exact impl_MergeText.big a0 a1 a2 w hb
 ·exact impl_MergeText.main a0 a1 a2 r1 r2 w hg (by omega) (by omega) (by omega) h'


end Go.Proofs.YtkmfnmeilooogaaDoor.P


namespace Go.Proofs.YtkmfnmeilooogaaDoor.P
open Go.RowKit Go.Proofs.YtkmfnmeilooogaaDoorW.PrintWords Go.Proofs.YtkmfnmeilooogaaDoorW.PrintLast Go.Proofs.YtkmfnmeilooogaaDoorW.PrintMore
attribute [local go_sem] max2_int min2_int max_two min_two max_three min_three max_four min_four
set_option linter.unusedVariables false
set_option linter.unusedSimpArgs false

def spec_l1Rd_pick.j0:Nat→Int→Bool→List Int→Int→Option (Int×Int)
 | 0,_,_,_,_=>none
 | k+1,x1,x24,a3,a4=>if x24=true then (some (0,a4)) else (if (wrap64 (a4 - 1))<(a3.length:Int) then (if 0≤(wrap64 (a4 - 1)) then (if x1=0 then (none) else (some (Int.tmod (wrap64 (rd a3 (wrap64 (a4 - 1)))) x1,a4))) else (none)) else (if (a3.length:Int)=0 then (none) else (if 0≤(Int.tmod (wrap64 (a4 - 1)) (a3.length:Int)) then (if (Int.tmod (wrap64 (a4 - 1)) (a3.length:Int))<(a3.length:Int) then (if 0≤(Int.tmod (wrap64 ((wrap64 ((wrap64 (a4 - 1))*7))+3)) (a3.length:Int)) then (if (Int.tmod (wrap64 ((wrap64 ((wrap64 (a4 - 1))*7))+3)) (a3.length:Int))<(a3.length:Int) then (if x1=0 then (none) else (some (Int.tmod (Go.bits .xor .i64 (wrap64 ((wrap64 ((wrap64 ((wrap64 ((wrap64 (rd a3 (Int.tmod (wrap64 (a4 - 1)) (a3.length:Int))))*131))+(wrap64 ((wrap64 (rd a3 (Int.tmod (wrap64 ((wrap64 ((wrap64 (a4 - 1))*7))+3)) (a3.length:Int))))*1117))))+(wrap64 ((wrap64 (a4 - 1))*29))))+(wrap64 ((wrap64 (Int.tdiv (wrap64 (a4 - 1)) (a3.length:Int)))*53)))) (wrap64 (Int.tdiv (wrap64 ((wrap64 ((wrap64 ((wrap64 ((wrap64 (rd a3 (Int.tmod (wrap64 (a4 - 1)) (a3.length:Int))))*131))+(wrap64 ((wrap64 (rd a3 (Int.tmod (wrap64 ((wrap64 ((wrap64 (a4 - 1))*7))+3)) (a3.length:Int))))*1117))))+(wrap64 ((wrap64 (a4 - 1))*29))))+(wrap64 ((wrap64 (Int.tdiv (wrap64 (a4 - 1)) (a3.length:Int)))*53)))) 64))) x1,a4))) else (none)) else (none)) else (none)) else (none))))
def spec_l1Rd_pick.f (k:Nat) (s0_0:List Int) (s0_1:Int) (a1:Int):Option (Int×Int):=if a1<1 then (spec_l1Rd_pick.j0 k a1 true s0_0 (wrap64 (s0_1+1))) else (spec_l1Rd_pick.j0 k a1 ((s0_0.length:Int)==0) s0_0 (wrap64 (s0_1+1)))
theorem spec_l1Rd_pick.mono_l:∀ k,(∀ y0 y1 y2 y3,LeO (spec_l1Rd_pick.j0 k y0 y1 y2 y3) (spec_l1Rd_pick.j0 (k+1) y0 y1 y2 y3))
 | 0=>fun _ _ _ _ r h=>by simp [spec_l1Rd_pick.j0] at h
 | k + 1 => by
  have ih0:=spec_l1Rd_pick.mono_l k
  ·intro y0 y1 y2 y3
   unfold spec_l1Rd_pick.j0
   repeat' first
   | (with_reducible exact ih0 _ _ _ _)
   | (with_reducible exact LeO.refl _)
   | (with_reducible exact LeO.none _)
   | (with_reducible refine LeO.ite ?_ ?_)
   | (with_reducible refine LeO.bind ?_ (fun _ => ?_))
   | exact ih0 _ _ _ _
   | exact LeO.none _
   | refine LeO.ite ?_ ?_
   | refine LeO.bind ?_ (fun _ => ?_)
theorem spec_l1Rd_pick.mono:∀ a0 a1 a2 k,LeO (spec_l1Rd_pick.f k a0 a1 a2) (spec_l1Rd_pick.f (k+1) a0 a1 a2):=by
 intro a0 a1 a2 k;have ih0:=spec_l1Rd_pick.mono_l k
 unfold spec_l1Rd_pick.f
 repeat' first
   | (with_reducible exact ih0 _ _ _ _)
   | (with_reducible exact LeO.refl _)
   | (with_reducible exact LeO.none _)
   | (with_reducible refine LeO.ite ?_ ?_)
   | (with_reducible refine LeO.bind ?_ (fun _ => ?_))
   | exact ih0 _ _ _ _
   | exact LeO.none _
   | refine LeO.ite ?_ ?_
   | refine LeO.bind ?_ (fun _ => ?_)
set_option maxHeartbeats 8000000 in
set_option maxRecDepth 100000 in
theorem spec_l1Rd_pick.calls (k : Nat) (g : Nat) (s0_0 : List Int) (s0_1 : Int) (a1 : Int) (r1 : Int) (r2 : Int) (w0 w : World) (hI : IsS118 w0 w g s0_0 s0_1) (hB : Below w0.heap.size w0 w) (h : spec_l1Rd_pick.f k s0_0 s0_1 a1 = some (r1, r2)) :
  Calls Tryd.prog 33 #[.pointer (some ⟨g,0,none⟩),.int .i64 a1] w fun e w'=>e = .returned (.int .i64 r1)∧IsS118 w0 w' g s0_0 r2∧Below w0.heap.size w0 w'∧KeepBut w w' g none:=by
 have a5:=Aside0.mk hI;have HK:=Aside0.mk (KeepBut.refl w g none);have HL:=Aside0.mk hB.size;clear hI;have HW0:=Aside0.mk hB.size;have HB:=Aside0.mk hB;clear hB;have H:(if a1<1 then (spec_l1Rd_pick.j0 k a1 true s0_0 (wrap64 (s0_1+1))) else (spec_l1Rd_pick.j0 k a1 ((s0_0.length:Int)==0) s0_0 (wrap64 (s0_1+1))))=some (r1,r2):=h;clear h;have aj:=Aside0.mk H;clear H;obtain ⟨ASz4_0,cSz4_0,HGz4,hgz4,HSz4_0⟩:=a5.out;have ay:=cellS118_0 HGz4;have az:=cellS118_1 HGz4;have aA:=blk_frozen HGz4 1;clear HGz4 hgz4
 go_enter Tryd.func33,Tryd.ntmps33
 go_upto_region 2 with (fail)
 repeat (go_quiet (fail);go_upto_region 2 with (fail))
 go_cut [24] (fun v24 wc => ∃ (kq:Nat) (ac:Bool),v24 = .bool ac∧Aside0 (spec_l1Rd_pick.j0 kq a1 ac s0_0 (wrap64 (s0_1+1))=some (r1,r2))∧Aside0 (kq≤k)∧Aside0 (IsS118 w0 wc g s0_0 (wrap64 (s0_1+1)))∧Aside0 (KeepBut w wc g none)∧Aside0 (Below w0.heap.size w0 wc))
 case first =>
  have H:=aj.out;clear aj
  by_cases c5:a1<1
  ·rw [if_pos c5] at H
   have a9:decide (a1<1)=true:=decide_eq_true c5;clear c5;(first|rw [a9]|(simp only [i64_w,i32_w];rw [a9])|skip);have H':=Aside0.mk H;clear H
   go_wp2
   repeat (go_quiet (fail);try go_wp2)
   go_meet
   case rel=>exact ⟨_,(true),Ye1,H',⟨by first|omega|exact Nat.le_refl _⟩,⟨iq118 a5.out⟩,⟨kb HK.out⟩,⟨bq118 HB.out a5.out⟩⟩
  ·rw [if_neg c5] at H
   have a9:decide (a1<1)=false:=decide_eq_false c5;clear c5;(first|rw [a9]|(simp only [i64_w,i32_w];rw [a9])|skip);have H':=Aside0.mk H;clear H;obtain ⟨ASz6_0,cSz6_0,HGz6,hgz6,HSz6_0⟩:=a5.out;have aB:=cellS118_0 HGz6;have aC:=cellS118_1 HGz6;have aD:=blk_frozen HGz6 1;clear HGz6 hgz6
   go_wp2
   repeat (go_quiet (fail);try go_wp2)
   go_meet
   case rel=>exact ⟨_,(((s0_0.length:Int)==0)),Ye1,H',⟨by first|omega|exact Nat.le_refl _⟩,⟨iq118 a5.out⟩,⟨kb HK.out⟩,⟨bq118 HB.out a5.out⟩⟩
 case rest =>
  clear aj;(try clear p2);(try clear c3);(try clear c5);(try clear a9);(try clear p6);(try clear ay);(try clear az);(try clear aB);(try clear aC);(try clear aA);(try clear aD);obtain ⟨kq,ac,rfl,HA,HJ2,a5,HK,HB⟩:=hcut
  cases kq with
  | zero=>exact absurd HA.out (by simp [spec_l1Rd_pick.j0])
  | succ kj2 =>
   have H:=HA.out;clear HA;simp only [spec_l1Rd_pick.j0] at H
   by_cases c7:ac=true
   ·subst c7
    have H1:(some (0,(wrap64 (s0_1+1))))=some (r1,r2):=by rw [if_pos rfl] at H;exact H
    clear H;have H:=H1;clear H1;simp only [Option.some.injEq,Prod.mk.injEq] at H;obtain ⟨rfl,rfl⟩:=H
    go_wp2
    repeat (go_quiet (fail);try go_wp2)
    go_ret
    exact ⟨Ye2,iq118 a5.out,bq118 HB.out a5.out,kb HK.out⟩
   ·replace c7:=Bool.eq_false_iff.mpr c7;subst c7
    have H1:(if (wrap64 ((wrap64 (s0_1+1)) - 1))<(s0_0.length:Int) then (if 0≤(wrap64 ((wrap64 (s0_1+1)) - 1)) then (if a1=0 then (none) else (some (Int.tmod (wrap64 (rd s0_0 (wrap64 ((wrap64 (s0_1+1)) - 1)))) a1,(wrap64 (s0_1+1))))) else (none)) else (if (s0_0.length:Int)=0 then (none) else (if 0≤(Int.tmod (wrap64 ((wrap64 (s0_1+1)) - 1)) (s0_0.length:Int)) then (if (Int.tmod (wrap64 ((wrap64 (s0_1+1)) - 1)) (s0_0.length:Int))<(s0_0.length:Int) then (if 0≤(Int.tmod (wrap64 ((wrap64 ((wrap64 ((wrap64 (s0_1+1)) - 1))*7))+3)) (s0_0.length:Int)) then (if (Int.tmod (wrap64 ((wrap64 ((wrap64 ((wrap64 (s0_1+1)) - 1))*7))+3)) (s0_0.length:Int))<(s0_0.length:Int) then (if a1=0 then (none) else (some (Int.tmod (Go.bits .xor .i64 (wrap64 ((wrap64 ((wrap64 ((wrap64 ((wrap64 (rd s0_0 (Int.tmod (wrap64 ((wrap64 (s0_1+1)) - 1)) (s0_0.length:Int))))*131))+(wrap64 ((wrap64 (rd s0_0 (Int.tmod (wrap64 ((wrap64 ((wrap64 ((wrap64 (s0_1+1)) - 1))*7))+3)) (s0_0.length:Int))))*1117))))+(wrap64 ((wrap64 ((wrap64 (s0_1+1)) - 1))*29))))+(wrap64 ((wrap64 (Int.tdiv (wrap64 ((wrap64 (s0_1+1)) - 1)) (s0_0.length:Int)))*53)))) (wrap64 (Int.tdiv (wrap64 ((wrap64 ((wrap64 ((wrap64 ((wrap64 (rd s0_0 (Int.tmod (wrap64 ((wrap64 (s0_1+1)) - 1)) (s0_0.length:Int))))*131))+(wrap64 ((wrap64 (rd s0_0 (Int.tmod (wrap64 ((wrap64 ((wrap64 ((wrap64 (s0_1+1)) - 1))*7))+3)) (s0_0.length:Int))))*1117))))+(wrap64 ((wrap64 ((wrap64 (s0_1+1)) - 1))*29))))+(wrap64 ((wrap64 (Int.tdiv (wrap64 ((wrap64 (s0_1+1)) - 1)) (s0_0.length:Int)))*53)))) 64))) a1,(wrap64 (s0_1+1))))) else (none)) else (none)) else (none)) else (none))))=some (r1,r2):=by rw [if_neg (show ¬(false=true) by decide)] at H;exact H
    clear H;have H:=H1;clear H1
    by_cases c8:(wrap64 ((wrap64 (s0_1+1)) - 1))<(s0_0.length:Int)
    ·rw [if_pos c8] at H
     have au:decide ((wrap64 ((wrap64 (s0_1+1)) - 1))<(s0_0.length:Int))=true:=decide_eq_true c8;clear c8
     obtain ⟨a8,aa⟩:∃ j_:Int,(wrap64 ((wrap64 (s0_1+1)) - 1))=j_:=⟨_,rfl⟩
     replace H:(if 0≤(a8) then (if a1=0 then (none) else (some (Int.tmod (wrap64 (rd s0_0 (a8))) a1,(wrap64 (s0_1+1))))) else (none))=some (r1,r2):=by first|(rw [aa] at H;exact H)|(simp only [aa] at H ⊢; exact H)
     (try rw [aa] at au);have hji9w:(IntKind.i64.wrap ((wrap64 (s0_1+1)) - 1))=a8:=(i64_w _).trans aa
     by_cases c10:0≤(a8)
     ·rw [if_pos c10] at H
      have c10b0:decide (0≤(a8))=true:=decide_eq_true c10;clear c10
      by_cases ad:a1=0
      ·rw [if_pos ad] at H
       exact absurd H (by simp)
      ·rw [if_neg ad] at H
       have c11b0:(a1==0)=false:=beq_eq_false_iff_ne.mpr ad;have c11b1:(a1 != 0)=true:=bne_iff_ne.mpr ad;simp only [Option.some.injEq,Prod.mk.injEq] at H;obtain ⟨rfl,rfl⟩:=H;obtain ⟨ASz12_0,cSz12_0,HGz12,hgz12,HSz12_0⟩:=a5.out;have aJ:=cellS118_0 HGz12;have aK:=cellS118_1 HGz12;have aL:=blk_frozen HGz12 1;clear HGz12 hgz12;have ak:0≤((a8):Int):=oda;have al:(a8)<(s0_0.length:Int):=oda;obtain ⟨ad250,aE,av⟩:=Kd.at_int HSz12_0 (a8) ak al
       cases aE
       replace av:=pw_cell_below HB.out av;replace ak:=eq_true ak;replace al:=eq_true al
       go_wp2
       repeat (go_quiet (fail);try go_wp2)
       go_ret
       exact ⟨by first|rfl|(simp [errW_none,errW_some] <;> rfl)|(simp only [←aa];first|rfl|(simp [errW_none,errW_some] <;> rfl))|(simp [*,errW_none,errW_some] <;> rfl),iq118 a5.out,bq118 HB.out a5.out,kb HK.out⟩
     ·rw [if_neg c10] at H
      exact absurd H (by simp)
    ·rw [if_neg c8] at H
     have au:decide ((wrap64 ((wrap64 (s0_1+1)) - 1))<(s0_0.length:Int))=false:=decide_eq_false c8;clear c8
     by_cases ab:(s0_0.length:Int)=0
     ·rw [if_pos ab] at H
      exact absurd H (by simp)
     ·rw [if_neg ab] at H
      have c13b0:((s0_0.length:Int)==0)=false:=beq_eq_false_iff_ne.mpr ab;have c13b1:((s0_0.length:Int) != 0)=true:=bne_iff_ne.mpr ab
      have c13b2:¬ (s0_0 = []):=fun h_=>ab (by rw [h_];rfl)
      obtain ⟨a6,am⟩:∃ j_:Int,(Int.tmod (wrap64 ((wrap64 (s0_1+1)) - 1)) (s0_0.length:Int))=j_:=⟨_,rfl⟩
      replace H:(if 0≤(a6) then (if (a6)<(s0_0.length:Int) then (if 0≤(Int.tmod (wrap64 ((wrap64 ((wrap64 ((wrap64 (s0_1+1)) - 1))*7))+3)) (s0_0.length:Int)) then (if (Int.tmod (wrap64 ((wrap64 ((wrap64 ((wrap64 (s0_1+1)) - 1))*7))+3)) (s0_0.length:Int))<(s0_0.length:Int) then (if a1=0 then (none) else (some (Int.tmod (Go.bits .xor .i64 (wrap64 ((wrap64 ((wrap64 ((wrap64 ((wrap64 (rd s0_0 (a6)))*131))+(wrap64 ((wrap64 (rd s0_0 (Int.tmod (wrap64 ((wrap64 ((wrap64 ((wrap64 (s0_1+1)) - 1))*7))+3)) (s0_0.length:Int))))*1117))))+(wrap64 ((wrap64 ((wrap64 (s0_1+1)) - 1))*29))))+(wrap64 ((wrap64 (Int.tdiv (wrap64 ((wrap64 (s0_1+1)) - 1)) (s0_0.length:Int)))*53)))) (wrap64 (Int.tdiv (wrap64 ((wrap64 ((wrap64 ((wrap64 ((wrap64 (rd s0_0 (a6)))*131))+(wrap64 ((wrap64 (rd s0_0 (Int.tmod (wrap64 ((wrap64 ((wrap64 ((wrap64 (s0_1+1)) - 1))*7))+3)) (s0_0.length:Int))))*1117))))+(wrap64 ((wrap64 ((wrap64 (s0_1+1)) - 1))*29))))+(wrap64 ((wrap64 (Int.tdiv (wrap64 ((wrap64 (s0_1+1)) - 1)) (s0_0.length:Int)))*53)))) 64))) a1,(wrap64 (s0_1+1))))) else (none)) else (none)) else (none)) else (none))=some (r1,r2):=by first|(rw [am] at H;exact H)|(simp only [am] at H ⊢; exact H)
      by_cases ae:0≤(a6)
      ·rw [if_pos ae] at H
       have c15b0:decide (0≤(a6))=true:=decide_eq_true ae;clear ae
       by_cases af:(a6)<(s0_0.length:Int)
       ·rw [if_pos af] at H
        have c16b0:decide ((a6)<(s0_0.length:Int))=true:=decide_eq_true af;clear af
        obtain ⟨a7,an⟩:∃ j_:Int,(Int.tmod (wrap64 ((wrap64 ((wrap64 ((wrap64 (s0_1+1)) - 1))*7))+3)) (s0_0.length:Int))=j_:=⟨_,rfl⟩
        replace H:(if 0≤(a7) then (if (a7)<(s0_0.length:Int) then (if a1=0 then (none) else (some (Int.tmod (Go.bits .xor .i64 (wrap64 ((wrap64 ((wrap64 ((wrap64 ((wrap64 (rd s0_0 (a6)))*131))+(wrap64 ((wrap64 (rd s0_0 (a7)))*1117))))+(wrap64 ((wrap64 ((wrap64 (s0_1+1)) - 1))*29))))+(wrap64 ((wrap64 (Int.tdiv (wrap64 ((wrap64 (s0_1+1)) - 1)) (s0_0.length:Int)))*53)))) (wrap64 (Int.tdiv (wrap64 ((wrap64 ((wrap64 ((wrap64 ((wrap64 (rd s0_0 (a6)))*131))+(wrap64 ((wrap64 (rd s0_0 (a7)))*1117))))+(wrap64 ((wrap64 ((wrap64 (s0_1+1)) - 1))*29))))+(wrap64 ((wrap64 (Int.tdiv (wrap64 ((wrap64 (s0_1+1)) - 1)) (s0_0.length:Int)))*53)))) 64))) a1,(wrap64 (s0_1+1))))) else (none)) else (none))=some (r1,r2):=by first|(rw [an] at H;exact H)|(simp only [an] at H ⊢; exact H)
        by_cases ag:0≤(a7)
        ·rw [if_pos ag] at H
         have c18b0:decide (0≤(a7))=true:=decide_eq_true ag;clear ag
         by_cases ah:(a7)<(s0_0.length:Int)
         ·rw [if_pos ah] at H
          have c19b0:decide ((a7)<(s0_0.length:Int))=true:=decide_eq_true ah;clear ah
          by_cases ai:a1=0
          ·rw [if_pos ai] at H
           exact absurd H (by simp)
          ·rw [if_neg ai] at H
           have c20b0:(a1==0)=false:=beq_eq_false_iff_ne.mpr ai;have c20b1:(a1 != 0)=true:=bne_iff_ne.mpr ai;simp only [Option.some.injEq,Prod.mk.injEq] at H;obtain ⟨rfl,rfl⟩:=H;obtain ⟨ASz21_0,cSz21_0,HGz21,hgz21,HSz21_0⟩:=a5.out;have aM:=cellS118_0 HGz21;have aN:=cellS118_1 HGz21;have aO:=blk_frozen HGz21 1;clear HGz21 hgz21;have ao:0≤((a6):Int):=oda;have ap:(a6)<(s0_0.length:Int):=oda;obtain ⟨aF,aG,aw⟩:=Kd.at_int HSz21_0 (a6) ao ap
           cases aG
           replace aw:=pw_cell_below HB.out aw;replace ao:=eq_true ao;replace ap:=eq_true ap;have aq:0≤((a7):Int):=oda;have ar:(a7)<(s0_0.length:Int):=oda;obtain ⟨aH,aI,ax⟩:=Kd.at_int HSz21_0 (a7) aq ar
           obtain rfl:aF=aH:=(by injection aI)
           replace ax:=pw_cell_below HB.out ax;replace aq:=eq_true aq;replace ar:=eq_true ar
           go_wp2
           repeat (go_quiet (fail);try go_wp2)
           go_ret
           exact ⟨by first|rfl|(simp [errW_none,errW_some] <;> rfl)|(simp only [←am,←an];first|rfl|(simp [errW_none,errW_some] <;> rfl))|(simp [*,errW_none,errW_some] <;> rfl),iq118 a5.out,bq118 HB.out a5.out,kb HK.out⟩
         ·rw [if_neg ah] at H
          exact absurd H (by simp)
        ·rw [if_neg ag] at H
         exact absurd H (by simp)
       ·rw [if_neg af] at H
        exact absurd H (by simp)
      ·rw [if_neg ae] at H
       exact absurd H (by simp)

end Go.Proofs.YtkmfnmeilooogaaDoor.P


namespace Go.Proofs.YtkmfnmeilooogaaDoor.P
open Go.RowKit Go.Proofs.YtkmfnmeilooogaaDoorW.PrintWords Go.Proofs.YtkmfnmeilooogaaDoorW.PrintLast Go.Proofs.YtkmfnmeilooogaaDoorW.PrintMore
attribute [local go_sem] max2_int min2_int max_two min_two max_three min_three max_four min_four
set_option linter.unusedVariables false
set_option linter.unusedSimpArgs false

def spec_l1Text.l0:Nat→ByteArray→Int→List Int→Int→Option (ByteArray×Int)
 | 0,_,_,_,_=>none
 | k+1,x3,x4,aj,ak=>if x4>0 then ((spec_l1Rd_pick.f k aj ak 4).bind fun bt274=>(if 0≤bt274.1 then (if bt274.1≤4 then (if 0≤1 then (if 1≤(((⟨#[97,98,99,100]⟩:ByteArray).extract (bt274.1:Int).toNat (⟨#[97,98,99,100]⟩:ByteArray).size).size:Int) then (if x3.size+(((⟨#[97,98,99,100]⟩:ByteArray).extract (bt274.1:Int).toNat (⟨#[97,98,99,100]⟩:ByteArray).size).extract 0 1).size≤9223372036854775807 then (if (x3++(((⟨#[97,98,99,100]⟩:ByteArray).extract (bt274.1:Int).toNat (⟨#[97,98,99,100]⟩:ByteArray).size).extract 0 1)).size+1≤9223372036854775807 then (spec_l1Text.l0 k ((x3++(((⟨#[97,98,99,100]⟩:ByteArray).extract (bt274.1:Int).toNat (⟨#[97,98,99,100]⟩:ByteArray).size).extract 0 1))++(⟨#[10]⟩:ByteArray)) (wrap64 (x4 - 1)) aj bt274.2) else (none)) else (none)) else (none)) else (none)) else (none)) else (none))) else (some (x3,ak))
def spec_l1Text.f (k:Nat) (s0_0:List Int) (s0_1:Int):Option (ByteArray×Int):=(spec_l1Rd_pick.f k s0_0 s0_1 9).bind fun bt270=>(if bt270.1=0 then (some ((⟨#[]⟩:ByteArray),bt270.2)) else (if bt270.1=1 then (some ((⟨#[255,0]⟩:ByteArray),bt270.2)) else (if bt270.1=2 then (some ((⟨#[110,111,32,110,101,119,108,105,110,101]⟩:ByteArray),bt270.2)) else ((spec_l1Rd_pick.f k s0_0 bt270.2 7).bind fun bt272=>(spec_l1Text.l0 k (⟨#[]⟩:ByteArray) bt272.1 s0_0 bt272.2)))))
theorem spec_l1Text.mono_l:∀ k,(∀ y0 y1 y2 y3,LeO (spec_l1Text.l0 k y0 y1 y2 y3) (spec_l1Text.l0 (k+1) y0 y1 y2 y3))
 | 0=>fun _ _ _ _ r h=>by simp [spec_l1Text.l0] at h
 | k + 1 => by
  have ih0:=spec_l1Text.mono_l k
  ·intro y0 y1 y2 y3
   unfold spec_l1Text.l0
   repeat' first
   | (with_reducible exact ih0 _ _ _ _)
   | (with_reducible exact spec_l1Rd_pick.mono _ _ _ _)
   | (with_reducible exact LeO.refl _)
   | (with_reducible exact LeO.none _)
   | (with_reducible refine LeO.ite ?_ ?_)
   | (with_reducible refine LeO.bind ?_ (fun _ => ?_))
   | exact ih0 _ _ _ _
   | exact spec_l1Rd_pick.mono _ _ _ _
   | exact LeO.none _
   | refine LeO.ite ?_ ?_
   | refine LeO.bind ?_ (fun _ => ?_)
theorem spec_l1Text.mono:∀ a0 a1 k,LeO (spec_l1Text.f k a0 a1) (spec_l1Text.f (k+1) a0 a1):=by
 intro a0 a1 k;have ih0:=spec_l1Text.mono_l k
 unfold spec_l1Text.f
 repeat' first
   | (with_reducible exact ih0 _ _ _ _)
   | (with_reducible exact spec_l1Rd_pick.mono _ _ _ _)
   | (with_reducible exact LeO.refl _)
   | (with_reducible exact LeO.none _)
   | (with_reducible refine LeO.ite ?_ ?_)
   | (with_reducible refine LeO.bind ?_ (fun _ => ?_))
   | exact ih0 _ _ _ _
   | exact spec_l1Rd_pick.mono _ _ _ _
   | exact LeO.none _
   | refine LeO.ite ?_ ?_
   | refine LeO.bind ?_ (fun _ => ?_)
set_option maxHeartbeats 8000000 in
set_option maxRecDepth 100000 in
theorem spec_l1Text.calls (k : Nat) (g : Nat) (s0_0 : List Int) (s0_1 : Int) (r1 : ByteArray) (r2 : Int) (w0 w : World) (hI : IsS118 w0 w g s0_0 s0_1) (hB : Below w0.heap.size w0 w) (h : spec_l1Text.f k s0_0 s0_1 = some (r1, r2)) :
  Calls Tryd.prog 36 #[.pointer (some ⟨g,0,none⟩)] w fun e w'=>e = .returned (.string r1)∧IsS118 w0 w' g s0_0 r2∧Below w0.heap.size w0 w'∧KeepBut w w' g none:=by
 have a2:=Aside0.mk hI;have HK:=Aside0.mk (KeepBut.refl w g none);have HL:=Aside0.mk hB.size;clear hI;have HW0:=Aside0.mk hB.size;have HB:=Aside0.mk hB;clear hB;have H:((spec_l1Rd_pick.f k s0_0 s0_1 9).bind fun bt270=>(if bt270.1=0 then (some ((⟨#[]⟩:ByteArray),bt270.2)) else (if bt270.1=1 then (some ((⟨#[255,0]⟩:ByteArray),bt270.2)) else (if bt270.1=2 then (some ((⟨#[110,111,32,110,101,119,108,105,110,101]⟩:ByteArray),bt270.2)) else ((spec_l1Rd_pick.f k s0_0 bt270.2 7).bind fun bt272=>(spec_l1Text.l0 k (⟨#[]⟩:ByteArray) bt272.1 s0_0 bt272.2))))))=some (r1,r2):=h;clear h;replace H:=Option.bind_eq_some_iff.mp H;obtain ⟨⟨a4,a6⟩,A20,H⟩:=H;replace H:(if a4=0 then (some ((⟨#[]⟩:ByteArray),a6)) else (if a4=1 then (some ((⟨#[255,0]⟩:ByteArray),a6)) else (if a4=2 then (some ((⟨#[110,111,32,110,101,119,108,105,110,101]⟩:ByteArray),a6)) else ((spec_l1Rd_pick.f k s0_0 a6 7).bind fun bt272=>(spec_l1Text.l0 k (⟨#[]⟩:ByteArray) bt272.1 s0_0 bt272.2)))))=some (r1,r2):=H;have A2:=Aside0.mk A20;clear A20
 by_cases c3:a4=0
 ·rw [if_pos c3] at H
  have al:(a4==0)=true:=beq_iff_eq.mpr c3;have am:(a4 != 0)=false:=bne_eq_false_iff_eq.mpr c3;clear c3;simp only [Option.some.injEq,Prod.mk.injEq] at H;obtain ⟨rfl,rfl⟩:=H
  go_enter Tryd.func36,Tryd.ntmps36
  go_wp2_with (first|((with_reducible refine gc 33 rfl ?_);refine gl (some 6) _ (#[.pointer (some ⟨g,0,none⟩),.int .i64 9]) Tryd.func33 ?_;(with_reducible refine (spec_l1Rd_pick.calls k g s0_0 s0_1 9 a4 a6 w0 _ ?side1 ?side2 A2.out).mono ?_);(case side1=>exact iq118 a2.out);(case side2=>exact bq118 HB.out a2.out);rintro e w4 ⟨rfl,hi,hb,hk⟩;refine ⟨_,rfl,?_⟩;refine Ya3 (KeepBut.trans (kb HK.out) hk (.inl rfl)) (hb) (hi) ?_;clear HK HB a2;intro HK HB a2;(try clear hb);(try clear hb2);(try clear hk);(try clear hi)))
  go_ret
  exact ⟨Ye2,iq118 a2.out,bq118 HB.out a2.out,kb HK.out⟩
 ·rw [if_neg c3] at H
  have al:(a4==0)=false:=beq_eq_false_iff_ne.mpr c3;have am:(a4 != 0)=true:=bne_iff_ne.mpr c3
  by_cases c5:a4=1
  ·rw [if_pos c5] at H
   have an:(a4==1)=true:=beq_iff_eq.mpr c5;have ao:(a4 != 1)=false:=bne_eq_false_iff_eq.mpr c5;clear c5;simp only [Option.some.injEq,Prod.mk.injEq] at H;obtain ⟨rfl,rfl⟩:=H
   go_enter Tryd.func36,Tryd.ntmps36
   go_wp2_with (first|((with_reducible refine gc 33 rfl ?_);refine gl (some 6) _ (#[.pointer (some ⟨g,0,none⟩),.int .i64 9]) Tryd.func33 ?_;(with_reducible refine (spec_l1Rd_pick.calls k g s0_0 s0_1 9 a4 a6 w0 _ ?side1 ?side2 A2.out).mono ?_);(case side1=>exact iq118 a2.out);(case side2=>exact bq118 HB.out a2.out);rintro e w6 ⟨rfl,hi,hb,hk⟩;refine ⟨_,rfl,?_⟩;refine Ya3 (KeepBut.trans (kb HK.out) hk (.inl rfl)) (hb) (hi) ?_;clear HK HB a2;intro HK HB a2;(try clear hb);(try clear hb2);(try clear hk);(try clear hi)))
   go_ret
   exact ⟨Ye2,iq118 a2.out,bq118 HB.out a2.out,kb HK.out⟩
  ·rw [if_neg c5] at H
   have an:(a4==1)=false:=beq_eq_false_iff_ne.mpr c5;have ao:(a4 != 1)=true:=bne_iff_ne.mpr c5
   by_cases c7:a4=2
   ·rw [if_pos c7] at H
    have ap:(a4==2)=true:=beq_iff_eq.mpr c7;have aq:(a4 != 2)=false:=bne_eq_false_iff_eq.mpr c7;clear c7;simp only [Option.some.injEq,Prod.mk.injEq] at H;obtain ⟨rfl,rfl⟩:=H
    go_enter Tryd.func36,Tryd.ntmps36
    go_wp2_with (first|((with_reducible refine gc 33 rfl ?_);refine gl (some 6) _ (#[.pointer (some ⟨g,0,none⟩),.int .i64 9]) Tryd.func33 ?_;(with_reducible refine (spec_l1Rd_pick.calls k g s0_0 s0_1 9 a4 a6 w0 _ ?side1 ?side2 A2.out).mono ?_);(case side1=>exact iq118 a2.out);(case side2=>exact bq118 HB.out a2.out);rintro e w8 ⟨rfl,hi,hb,hk⟩;refine ⟨_,rfl,?_⟩;refine Ya3 (KeepBut.trans (kb HK.out) hk (.inl rfl)) (hb) (hi) ?_;clear HK HB a2;intro HK HB a2;(try clear hb);(try clear hb2);(try clear hk);(try clear hi)))
    go_ret
    exact ⟨Ye2,iq118 a2.out,bq118 HB.out a2.out,kb HK.out⟩
   ·rw [if_neg c7] at H
    have ap:(a4==2)=false:=beq_eq_false_iff_ne.mpr c7;have aq:(a4 != 2)=true:=bne_iff_ne.mpr c7;replace H:=Option.bind_eq_some_iff.mp H;obtain ⟨⟨ag,ah⟩,A90,H⟩:=H;replace H:(spec_l1Text.l0 k (⟨#[]⟩:ByteArray) ag s0_0 ah)=some (r1,r2):=H;have A9:=Aside0.mk A90;clear A90;have H':=Aside0.mk H;clear H
    go_enter Tryd.func36,Tryd.ntmps36
    go_wp2_with (first|((with_reducible refine gc 33 rfl ?_);refine gl (some 6) _ (#[.pointer (some ⟨g,0,none⟩),.int .i64 9]) Tryd.func33 ?_;(with_reducible refine (spec_l1Rd_pick.calls k g s0_0 s0_1 9 a4 a6 w0 _ ?side1 ?side2 A2.out).mono ?_);(case side1=>exact iq118 a2.out);(case side2=>exact bq118 HB.out a2.out);rintro e w10 ⟨rfl,hi,hb,hk⟩;refine ⟨_,rfl,?_⟩;refine Ya3 (KeepBut.trans (kb HK.out) hk (.inl rfl)) (hb) (hi) ?_;clear HK HB a2;intro HK HB a2;(try clear hb);(try clear hb2);(try clear hk);(try clear hi))|((with_reducible refine gc 33 rfl ?_);refine gl (some 14) _ (#[.pointer (some ⟨g,0,none⟩),.int .i64 7]) Tryd.func33 ?_;(with_reducible refine (spec_l1Rd_pick.calls k g s0_0 a6 7 ag ah w0 _ ?side1 ?side2 A9.out).mono ?_);(case side1=>exact iq118 a2.out);(case side2=>exact bq118 HB.out a2.out);rintro e w11 ⟨rfl,hi,hb,hk⟩;refine ⟨_,rfl,?_⟩;refine Ya3 (KeepBut.trans (kb HK.out) hk (.inl rfl)) (hb) (hi) ?_;clear HK HB a2;intro HK HB a2;(try clear hb);(try clear hb2);(try clear hk);(try clear hi)))
    go_loopg [3,4] k (fun kq v3 v4 w' => ∃ (a5:ByteArray) (a7:Int) (af:Int),v3 = .string a5∧v4 = .int .i64 a7∧Aside0 (spec_l1Text.l0 kq a5 a7 s0_0 af=some (r1,r2))∧Aside0 (kq≤k)∧Aside0 (IsS118 w0 w' g s0_0 af)∧Aside0 (KeepBut w w' g none)∧Aside0 (Below w0.heap.size w0 w'))
    case atStart=>exact ⟨((⟨#[]⟩:ByteArray)),(ag),(ah),Ye1,Ye1,H',⟨Nat.le_refl _⟩,⟨iq118 a2.out⟩,⟨kb HK.out⟩,⟨bq118 HB.out a2.out⟩⟩
    case round =>
     clear H';(try clear p2);(try clear c3);(try clear al);(try clear am);(try clear c5);(try clear an);(try clear ao);(try clear c7);(try clear ap);(try clear aq);obtain ⟨a5,a7,af,rfl,rfl,HA,HK1,a2,HK,HB⟩:=hrel
     cases gk with
     | zero=>exact absurd HA.out (by simp [spec_l1Text.l0])
     | succ k1 =>
      have H:=HA.out;clear HA;simp only [spec_l1Text.l0] at H
      by_cases a9:a7>0
      ·rw [if_pos a9] at H
       have au:decide (0<a7)=true:=decide_eq_true a9;clear a9;replace H:=Option.bind_eq_some_iff.mp H;obtain ⟨⟨a3,ai⟩,ar,H⟩:=H;replace H:(if 0≤a3 then (if a3≤4 then (if 0≤1 then (if 1≤(((⟨#[97,98,99,100]⟩:ByteArray).extract (a3:Int).toNat (⟨#[97,98,99,100]⟩:ByteArray).size).size:Int) then (if a5.size+(((⟨#[97,98,99,100]⟩:ByteArray).extract (a3:Int).toNat (⟨#[97,98,99,100]⟩:ByteArray).size).extract 0 1).size≤9223372036854775807 then (if (a5++(((⟨#[97,98,99,100]⟩:ByteArray).extract (a3:Int).toNat (⟨#[97,98,99,100]⟩:ByteArray).size).extract 0 1)).size+1≤9223372036854775807 then (spec_l1Text.l0 k1 ((a5++(((⟨#[97,98,99,100]⟩:ByteArray).extract (a3:Int).toNat (⟨#[97,98,99,100]⟩:ByteArray).size).extract 0 1))++(⟨#[10]⟩:ByteArray)) (wrap64 (a7 - 1)) s0_0 ai) else (none)) else (none)) else (none)) else (none)) else (none)) else (none))=some (r1,r2):=H;have A13:=Aside0.mk ar;clear ar
       by_cases ac:0≤a3
       ·rw [if_pos ac] at H
        have c14b0:=eq_true ac;have c14b1:decide (0≤a3)=true:=decide_eq_true ac;clear ac
        by_cases ad:a3≤4
        ·rw [if_pos ad] at H
         have c15b0:=eq_true ad;have c15b1:decide (a3≤4)=true:=decide_eq_true ad;clear ad
         by_cases ae:0≤1
         ·rw [if_pos ae] at H
          have c16b0:=eq_true ae;have c16b1:decide (0≤1)=true:=decide_eq_true ae;clear ae
          by_cases a8:1≤(((⟨#[97,98,99,100]⟩:ByteArray).extract (a3:Int).toNat (⟨#[97,98,99,100]⟩:ByteArray).size).size:Int)
          ·rw [if_pos a8] at H
           have c17q:1≤4 - a3.toNat:=(by have h_:=a8;rw [ByteArray.size_extract] at h_;have e_:(⟨#[97,98,99,100]⟩:ByteArray).size=4:=rfl;omega)
           have c17r:(((4 - a3.toNat:Nat):Int)<1)=False:=eq_false (by omega);have c17b0:=eq_true a8;have c17b1:decide (1≤(((⟨#[97,98,99,100]⟩:ByteArray).extract (a3:Int).toNat (⟨#[97,98,99,100]⟩:ByteArray).size).size:Int))=true:=decide_eq_true a8
           have c17o:1≤4 - a3.toNat:=(by have h_:=a8;rw [ByteArray.size_extract] at h_;have e_:(⟨#[97,98,99,100]⟩:ByteArray).size=4:=rfl;omega)
           clear a8
           by_cases aa:a5.size+(((⟨#[97,98,99,100]⟩:ByteArray).extract (a3:Int).toNat (⟨#[97,98,99,100]⟩:ByteArray).size).extract 0 1).size≤9223372036854775807
           ·rw [if_pos aa] at H
            try have c18n:a5.size+1≤9223372036854775807:=(by have h_:=aa;(try simp only [ByteArray.size_append] at h_);(try simp only [ByteArray.size_extract] at h_);(try simp only [show (⟨#[97,98,99,100]⟩:ByteArray).size=4 from rfl] at h_);(try omega);(try simpa using h_))
            try have c18m:=eq_true c18n
            try have c18d:=decide_eq_true c18n
            try have c18l:=eq_false (Nat.not_lt.2 c18n)
            (try clear c18n);have c18b0:=eq_true aa;have c18b1:decide (a5.size+(((⟨#[97,98,99,100]⟩:ByteArray).extract (a3:Int).toNat (⟨#[97,98,99,100]⟩:ByteArray).size).extract 0 1).size≤9223372036854775807)=true:=decide_eq_true aa
            try have c18b2:(9223372036854775807<a5.size+(((⟨#[97,98,99,100]⟩:ByteArray).extract (a3:Int).toNat (⟨#[97,98,99,100]⟩:ByteArray).size).extract 0 1).size)=False:=eq_false (Nat.not_lt.2 aa)
            by_cases ab:(a5++(((⟨#[97,98,99,100]⟩:ByteArray).extract (a3:Int).toNat (⟨#[97,98,99,100]⟩:ByteArray).size).extract 0 1)).size+1≤9223372036854775807
            ·rw [if_pos ab] at H
             try have c19n:a5.size+1+1≤9223372036854775807:=(by have h_:=ab;(try simp only [ByteArray.size_append] at h_);(try simp only [ByteArray.size_extract] at h_);(try simp only [show (⟨#[97,98,99,100]⟩:ByteArray).size=4 from rfl] at h_);(try omega);(try simpa using h_))
             try have c19m:=eq_true c19n
             try have c19d:=decide_eq_true c19n
             try have c19l:=eq_false (Nat.not_lt.2 c19n)
             (try clear c19n);have c19b0:=eq_true ab;have c19b1:decide ((a5++(((⟨#[97,98,99,100]⟩:ByteArray).extract (a3:Int).toNat (⟨#[97,98,99,100]⟩:ByteArray).size).extract 0 1)).size+1≤9223372036854775807)=true:=decide_eq_true ab
             try have c19b2:(9223372036854775807<(a5++(((⟨#[97,98,99,100]⟩:ByteArray).extract (a3:Int).toNat (⟨#[97,98,99,100]⟩:ByteArray).size).extract 0 1)).size+1)=False:=eq_false (Nat.not_lt.2 ab)
             have H':=Aside0.mk H;clear H
             go_wp2_with (first|((with_reducible refine gc 33 rfl ?_);refine gl (some 21) _ (#[.pointer (some ⟨g,0,none⟩),.int .i64 4]) Tryd.func33 ?_;(with_reducible refine (spec_l1Rd_pick.calls k1 g s0_0 af 4 a3 ai w0 _ ?side1 ?side2 A13.out).mono ?_);(case side1=>exact iq118 a2.out);(case side2=>exact bq118 HB.out a2.out);rintro e w20 ⟨rfl,hi,hb,hk⟩;refine ⟨_,rfl,?_⟩;refine Ya3 (KeepBut.trans (kb HK.out) hk (.inl rfl)) (hb) (hi) ?_;clear HK HB a2;intro HK HB a2;(try clear hb);(try clear hb2);(try clear hk);(try clear hi)))
             go_roundg k1
             case measure=>have:=HK1.out;omega
             case rel=>exact ⟨((a5++(((⟨#[97,98,99,100]⟩:ByteArray).extract (a3:Int).toNat (⟨#[97,98,99,100]⟩:ByteArray).size).extract 0 1))++(⟨#[10]⟩:ByteArray)),(wrap64 (a7 - 1)),(ai),Ye1,Ye1,H',⟨by have:=HK1.out;omega⟩,⟨iq118 a2.out⟩,⟨kb HK.out⟩,⟨bq118 HB.out a2.out⟩⟩
            ·rw [if_neg ab] at H
             exact absurd H (by simp)
           ·rw [if_neg aa] at H
            exact absurd H (by simp)
          ·rw [if_neg a8] at H
           exact absurd H (by simp)
         ·rw [if_neg ae] at H
          exact absurd H (by simp)
        ·rw [if_neg ad] at H
         exact absurd H (by simp)
       ·rw [if_neg ac] at H
        exact absurd H (by simp)
      ·rw [if_neg a9] at H
       have au:decide (0<a7)=false:=decide_eq_false a9;clear a9;simp only [Option.some.injEq,Prod.mk.injEq] at H;obtain ⟨rfl,rfl⟩:=H
       go_wp2
       go_ret
       exact ⟨Ye2,iq118 a2.out,bq118 HB.out a2.out,kb HK.out⟩

end Go.Proofs.YtkmfnmeilooogaaDoor.P


namespace Go.Proofs.YtkmfnmeilooogaaDoor.P
open Go.RowKit Go.Proofs.YtkmfnmeilooogaaDoorW.PrintWords Go.Proofs.YtkmfnmeilooogaaDoorW.PrintLast Go.Proofs.YtkmfnmeilooogaaDoorW.PrintMore
attribute [local go_sem] max2_int min2_int max_two min_two max_three min_three max_four min_four
set_option linter.unusedVariables false
set_option linter.unusedSimpArgs false

def spec_l7Edit.l0:Nat→List ByteArray→ByteArray→Int→List Int→Int→Option (ByteArray×Int)
 | 0,_,_,_,_,_=>none
 | k+1,x5,x6,x7,ad,au=>if x7≤(x5.length:Int) then ((spec_l1Rd_pick.f k ad au 7).bind fun bt263=>(if bt263.1=0 then (if x6.size+1≤9223372036854775807 then ((spec_l1Rd_pick.f k ad bt263.2 2).bind fun bt265=>((spec_l10Dec.f k bt265.1).bind fun a8=>(if (x6++(⟨#[101]⟩:ByteArray)).size+a8.size≤9223372036854775807 then (if ((x6++(⟨#[101]⟩:ByteArray))++a8).size+1≤9223372036854775807 then (if x7<(x5.length:Int) then (if 0≤x7 then (if (((x6++(⟨#[101]⟩:ByteArray))++a8)++(⟨#[10]⟩:ByteArray)).size+(rdOf ByteArray.empty x5 x7).size≤9223372036854775807 then (spec_l7Edit.l0 k x5 ((((x6++(⟨#[101]⟩:ByteArray))++a8)++(⟨#[10]⟩:ByteArray))++(rdOf ByteArray.empty x5 x7)) (wrap64 (x7+1)) ad bt265.2) else (none)) else (none)) else (spec_l7Edit.l0 k x5 (((x6++(⟨#[101]⟩:ByteArray))++a8)++(⟨#[10]⟩:ByteArray)) (wrap64 (x7+1)) ad bt265.2)) else (none)) else (none)))) else (none)) else (if bt263.1=1 then (spec_l7Edit.l0 k x5 x6 (wrap64 (x7+1)) ad bt263.2) else (if x7<(x5.length:Int) then (if 0≤x7 then (if x6.size+(rdOf ByteArray.empty x5 x7).size≤9223372036854775807 then (spec_l7Edit.l0 k x5 (x6++(rdOf ByteArray.empty x5 x7)) (wrap64 (x7+1)) ad bt263.2) else (none)) else (none)) else (spec_l7Edit.l0 k x5 x6 (wrap64 (x7+1)) ad bt263.2))))) else (some (x6,au))
def spec_l7Edit.f (k:Nat) (s0_0:List Int) (s0_1:Int) (a1:ByteArray):Option (ByteArray×Int):=(spec_Lines.f k a1).bind fun a5=>(spec_l7Edit.l0 k a5 (⟨#[]⟩:ByteArray) 0 s0_0 s0_1)
theorem spec_l7Edit.mono_l:∀ k,(∀ y0 y1 y2 y3 y4,LeO (spec_l7Edit.l0 k y0 y1 y2 y3 y4) (spec_l7Edit.l0 (k+1) y0 y1 y2 y3 y4))
 | 0=>fun _ _ _ _ _ r h=>by simp [spec_l7Edit.l0] at h
 | k + 1 => by
  have ih0:=spec_l7Edit.mono_l k
  ·intro y0 y1 y2 y3 y4
   unfold spec_l7Edit.l0
   repeat' first
   | (with_reducible exact ih0 _ _ _ _ _)
   | (with_reducible exact spec_Lines.mono _ _)
   | (with_reducible exact spec_l10Dec.mono _ _)
   | (with_reducible exact spec_l1Rd_pick.mono _ _ _ _)
   | (with_reducible exact LeO.refl _)
   | (with_reducible exact LeO.none _)
   | (with_reducible refine LeO.ite ?_ ?_)
   | (with_reducible refine LeO.bind ?_ (fun _ => ?_))
   | exact ih0 _ _ _ _ _
   | exact spec_Lines.mono _ _
   | exact spec_l10Dec.mono _ _
   | exact spec_l1Rd_pick.mono _ _ _ _
   | exact LeO.none _
   | refine LeO.ite ?_ ?_
   | refine LeO.bind ?_ (fun _ => ?_)
theorem spec_l7Edit.mono:∀ a0 a1 a2 k,LeO (spec_l7Edit.f k a0 a1 a2) (spec_l7Edit.f (k+1) a0 a1 a2):=by
 intro a0 a1 a2 k;have ih0:=spec_l7Edit.mono_l k
 unfold spec_l7Edit.f
 repeat' first
   | (with_reducible exact ih0 _ _ _ _ _)
   | (with_reducible exact spec_Lines.mono _ _)
   | (with_reducible exact spec_l10Dec.mono _ _)
   | (with_reducible exact spec_l1Rd_pick.mono _ _ _ _)
   | (with_reducible exact LeO.refl _)
   | (with_reducible exact LeO.none _)
   | (with_reducible refine LeO.ite ?_ ?_)
   | (with_reducible refine LeO.bind ?_ (fun _ => ?_))
   | exact ih0 _ _ _ _ _
   | exact spec_Lines.mono _ _
   | exact spec_l10Dec.mono _ _
   | exact spec_l1Rd_pick.mono _ _ _ _
   | exact LeO.none _
   | refine LeO.ite ?_ ?_
   | refine LeO.bind ?_ (fun _ => ?_)
set_option maxHeartbeats 8000000 in
set_option maxRecDepth 100000 in
theorem spec_l7Edit.calls (k : Nat) (g : Nat) (s0_0 : List Int) (s0_1 : Int) (a1 : ByteArray) (r1 : ByteArray) (r2 : Int) (w0 w : World) (hI : IsS118 w0 w g s0_0 s0_1) (hB : Below w0.heap.size w0 w) (h : spec_l7Edit.f k s0_0 s0_1 a1 = some (r1, r2)) :
  Calls Tryd.prog 34 #[.pointer (some ⟨g,0,none⟩),.string a1] w fun e w'=>e = .returned (.string r1)∧IsS118 w0 w' g s0_0 r2∧Below w0.heap.size w0 w'∧KeepBut w w' g none:=by
 have a3:=Aside0.mk hI;have HK:=Aside0.mk (KeepBut.refl w g none);have HL:=Aside0.mk hB.size;clear hI;have HW0:=Aside0.mk hB.size;have HB:=Aside0.mk hB;clear hB;have H:((spec_Lines.f k a1).bind fun a5=>(spec_l7Edit.l0 k a5 (⟨#[]⟩:ByteArray) 0 s0_0 s0_1))=some (r1,r2):=h;clear h;replace H:=Option.bind_eq_some_iff.mp H;obtain ⟨a5,A30,H⟩:=H;replace H:(spec_l7Edit.l0 k a5 (⟨#[]⟩:ByteArray) 0 s0_0 s0_1)=some (r1,r2):=H;have A3:=Aside0.mk A30;clear A30;have H':=Aside0.mk H;clear H
 go_enter Tryd.func34,Tryd.ntmps34
 go_wp2_with (first|((with_reducible refine gc 24 rfl ?_);refine gl (some 9) _ (#[.string a1]) Tryd.func24 ?_;(with_reducible refine (spec_Lines.calls k a1 a5 _ A3.out).mono ?_);rintro e w4 ⟨aw,rfl,ho0,hb⟩;refine ⟨_,rfl,?_⟩;refine Ya4 (Kd.R_lower ho0 (keep_size (w:=w) (g:=g) (row:=none) (kb HK.out))) (IsS118.below (iq118 a3.out) hb) (KeepBut.trans (kb HK.out) (KeepBut.of_below hb g none) (.inl rfl)) (below_step (bq118 HB.out a3.out) hb) ?_;clear a3 HK HB;intro ax a3 HK HB;(try clear hb);(try clear hb2);(try clear hk);(try clear hi);(try clear ho0)))
 go_loopg [6,7] k (fun kq v6 v7 w' => ∃ (a6:ByteArray) (a4:Int) (ab:Int),v6 = .string a6∧v7 = .int .i64 a4∧Aside0 (spec_l7Edit.l0 kq a5 a6 a4 s0_0 ab=some (r1,r2))∧Aside0 (kq≤k)∧Aside0 (Kd.R Kd.string 9 w' w.heap.size (fun _=>True) aw a5)∧Aside0 (IsS118 w0 w' g s0_0 ab)∧Aside0 (KeepBut w w' g none)∧Aside0 (Below w0.heap.size w0 w'))
 case atStart=>exact ⟨((⟨#[]⟩:ByteArray)),(0),(s0_1),Ye1,Ye1,H',⟨Nat.le_refl _⟩,⟨kr ax.out⟩,⟨iq118 a3.out⟩,⟨kb HK.out⟩,⟨bq118 HB.out a3.out⟩⟩
 case round =>
  clear H';(try clear c2);(try clear p2);(try clear c3);obtain ⟨a6,a4,ab,rfl,rfl,HA,HK1,a7,a3,HK,HB⟩:=hrel
  cases gk with
  | zero=>exact absurd HA.out (by simp [spec_l7Edit.l0])
  | succ k1 =>
   have H:=HA.out;clear HA;simp only [spec_l7Edit.l0] at H
   by_cases c5:a4≤(a5.length:Int)
   ·rw [if_pos c5] at H
    have ay:decide (a4≤(a5.length:Int))=true:=decide_eq_true c5;clear c5;replace H:=Option.bind_eq_some_iff.mp H;obtain ⟨⟨a9,aa⟩,A60,H⟩:=H;replace H:(if a9=0 then (if a6.size+1≤9223372036854775807 then ((spec_l1Rd_pick.f k1 s0_0 aa 2).bind fun bt265=>((spec_l10Dec.f k1 bt265.1).bind fun a8=>(if (a6++(⟨#[101]⟩:ByteArray)).size+a8.size≤9223372036854775807 then (if ((a6++(⟨#[101]⟩:ByteArray))++a8).size+1≤9223372036854775807 then (if a4<(a5.length:Int) then (if 0≤a4 then (if (((a6++(⟨#[101]⟩:ByteArray))++a8)++(⟨#[10]⟩:ByteArray)).size+(rdOf ByteArray.empty a5 a4).size≤9223372036854775807 then (spec_l7Edit.l0 k1 a5 ((((a6++(⟨#[101]⟩:ByteArray))++a8)++(⟨#[10]⟩:ByteArray))++(rdOf ByteArray.empty a5 a4)) (wrap64 (a4+1)) s0_0 bt265.2) else (none)) else (none)) else (spec_l7Edit.l0 k1 a5 (((a6++(⟨#[101]⟩:ByteArray))++a8)++(⟨#[10]⟩:ByteArray)) (wrap64 (a4+1)) s0_0 bt265.2)) else (none)) else (none)))) else (none)) else (if a9=1 then (spec_l7Edit.l0 k1 a5 a6 (wrap64 (a4+1)) s0_0 aa) else (if a4<(a5.length:Int) then (if 0≤a4 then (if a6.size+(rdOf ByteArray.empty a5 a4).size≤9223372036854775807 then (spec_l7Edit.l0 k1 a5 (a6++(rdOf ByteArray.empty a5 a4)) (wrap64 (a4+1)) s0_0 aa) else (none)) else (none)) else (spec_l7Edit.l0 k1 a5 a6 (wrap64 (a4+1)) s0_0 aa))))=some (r1,r2):=H;have A6:=Aside0.mk A60;clear A60
    by_cases c7:a9=0
    ·rw [if_pos c7] at H
     have az:(a9==0)=true:=beq_iff_eq.mpr c7;have aA:(a9 != 0)=false:=bne_eq_false_iff_eq.mpr c7;clear c7
     by_cases c8:a6.size+1≤9223372036854775807
     ·rw [if_pos c8] at H
      have c8b0:=eq_true c8;have c8b1:decide (a6.size+1≤9223372036854775807)=true:=decide_eq_true c8
      try have c8b2:(9223372036854775807<a6.size+1)=False:=eq_false (Nat.not_lt.2 c8)
      replace H:=Option.bind_eq_some_iff.mp H;obtain ⟨⟨ae,ac⟩,A90,H⟩:=H;replace H:((spec_l10Dec.f k1 ae).bind fun a8=>(if (a6++(⟨#[101]⟩:ByteArray)).size+a8.size≤9223372036854775807 then (if ((a6++(⟨#[101]⟩:ByteArray))++a8).size+1≤9223372036854775807 then (if a4<(a5.length:Int) then (if 0≤a4 then (if (((a6++(⟨#[101]⟩:ByteArray))++a8)++(⟨#[10]⟩:ByteArray)).size+(rdOf ByteArray.empty a5 a4).size≤9223372036854775807 then (spec_l7Edit.l0 k1 a5 ((((a6++(⟨#[101]⟩:ByteArray))++a8)++(⟨#[10]⟩:ByteArray))++(rdOf ByteArray.empty a5 a4)) (wrap64 (a4+1)) s0_0 ac) else (none)) else (none)) else (spec_l7Edit.l0 k1 a5 (((a6++(⟨#[101]⟩:ByteArray))++a8)++(⟨#[10]⟩:ByteArray)) (wrap64 (a4+1)) s0_0 ac)) else (none)) else (none)))=some (r1,r2):=H;have A9:=Aside0.mk A90;clear A90;replace H:=Option.bind_eq_some_iff.mp H;obtain ⟨a8,av,H⟩:=H;replace H:(if (a6++(⟨#[101]⟩:ByteArray)).size+a8.size≤9223372036854775807 then (if ((a6++(⟨#[101]⟩:ByteArray))++a8).size+1≤9223372036854775807 then (if a4<(a5.length:Int) then (if 0≤a4 then (if (((a6++(⟨#[101]⟩:ByteArray))++a8)++(⟨#[10]⟩:ByteArray)).size+(rdOf ByteArray.empty a5 a4).size≤9223372036854775807 then (spec_l7Edit.l0 k1 a5 ((((a6++(⟨#[101]⟩:ByteArray))++a8)++(⟨#[10]⟩:ByteArray))++(rdOf ByteArray.empty a5 a4)) (wrap64 (a4+1)) s0_0 ac) else (none)) else (none)) else (spec_l7Edit.l0 k1 a5 (((a6++(⟨#[101]⟩:ByteArray))++a8)++(⟨#[10]⟩:ByteArray)) (wrap64 (a4+1)) s0_0 ac)) else (none)) else (none))=some (r1,r2):=H;have A10:=Aside0.mk av;clear av
      by_cases ag:(a6++(⟨#[101]⟩:ByteArray)).size+a8.size≤9223372036854775807
      ·rw [if_pos ag] at H
       try have c11n:a6.size+1+a8.size≤9223372036854775807:=(by have h_:=ag;(try simp only [ByteArray.size_append] at h_);(try simp only [ByteArray.size_extract] at h_);(try simp only [show (⟨#[101]⟩:ByteArray).size=1 from rfl] at h_);(try omega);(try simpa using h_))
       try have c11m:=eq_true c11n
       try have c11d:=decide_eq_true c11n
       try have c11l:=eq_false (Nat.not_lt.2 c11n)
       (try clear c11n);have c11b0:=eq_true ag;have c11b1:decide ((a6++(⟨#[101]⟩:ByteArray)).size+a8.size≤9223372036854775807)=true:=decide_eq_true ag
       try have c11b2:(9223372036854775807<(a6++(⟨#[101]⟩:ByteArray)).size+a8.size)=False:=eq_false (Nat.not_lt.2 ag)
       by_cases ah:((a6++(⟨#[101]⟩:ByteArray))++a8).size+1≤9223372036854775807
       ·rw [if_pos ah] at H
        try have c12n:a6.size+1+a8.size+1≤9223372036854775807:=(by have h_:=ah;(try simp only [ByteArray.size_append] at h_);(try simp only [ByteArray.size_extract] at h_);(try simp only [show (⟨#[101]⟩:ByteArray).size=1 from rfl] at h_);(try omega);(try simpa using h_))
        try have c12m:=eq_true c12n
        try have c12d:=decide_eq_true c12n
        try have c12l:=eq_false (Nat.not_lt.2 c12n)
        (try clear c12n);have c12b0:=eq_true ah;have c12b1:decide (((a6++(⟨#[101]⟩:ByteArray))++a8).size+1≤9223372036854775807)=true:=decide_eq_true ah
        try have c12b2:(9223372036854775807<((a6++(⟨#[101]⟩:ByteArray))++a8).size+1)=False:=eq_false (Nat.not_lt.2 ah)
        by_cases ai:a4<(a5.length:Int)
        ·rw [if_pos ai] at H
         have aB:decide (a4<(a5.length:Int))=true:=decide_eq_true ai;clear ai
         by_cases am:0≤a4
         ·rw [if_pos am] at H
          have c14b0:decide (0≤a4)=true:=decide_eq_true am;clear am
          by_cases aj:(((a6++(⟨#[101]⟩:ByteArray))++a8)++(⟨#[10]⟩:ByteArray)).size+(rdOf ByteArray.empty a5 a4).size≤9223372036854775807
          ·rw [if_pos aj] at H
           try have c15n:a6.size+1+a8.size+1+(rdOf ByteArray.empty a5 a4).size≤9223372036854775807:=(by have h_:=aj;(try simp only [ByteArray.size_append] at h_);(try simp only [ByteArray.size_extract] at h_);(try simp only [show (⟨#[101]⟩:ByteArray).size=1 from rfl,show (⟨#[10]⟩:ByteArray).size=1 from rfl] at h_);(try omega);(try simpa using h_))
           try have c15m:=eq_true c15n
           try have c15d:=decide_eq_true c15n
           try have c15l:=eq_false (Nat.not_lt.2 c15n)
           (try clear c15n);have c15b0:=eq_true aj;have c15b1:decide ((((a6++(⟨#[101]⟩:ByteArray))++a8)++(⟨#[10]⟩:ByteArray)).size+(rdOf ByteArray.empty a5 a4).size≤9223372036854775807)=true:=decide_eq_true aj
           try have c15b2:(9223372036854775807<(((a6++(⟨#[101]⟩:ByteArray))++a8)++(⟨#[10]⟩:ByteArray)).size+(rdOf ByteArray.empty a5 a4).size)=False:=eq_false (Nat.not_lt.2 aj)
           have H':=Aside0.mk H;clear H;obtain ⟨Ao16,co16,aC⟩:=Kd.R_slice a7.out;subst aC
           go_wp2_with (first|((with_reducible refine gc 33 rfl ?_);refine gl (some 17) _ (#[.pointer (some ⟨g,0,none⟩),.int .i64 7]) Tryd.func33 ?_;(with_reducible refine (spec_l1Rd_pick.calls k1 g s0_0 ab 7 a9 aa w0 _ ?side1 ?side2 A6.out).mono ?_);(case side1=>exact iq118 a3.out);(case side2=>exact bq118 HB.out a3.out);rintro e w17 ⟨rfl,hi,hb,hk⟩;refine ⟨_,rfl,?_⟩;refine Ya4 (ra118 (iq118 a3.out) (kr a7.out) hk) (KeepBut.trans (kb HK.out) hk (.inl rfl)) (hb) (hi) ?_;clear a7 HK HB a3;intro a7 HK HB a3;(try clear hb);(try clear hb2);(try clear hk);(try clear hi))|((with_reducible refine gc 33 rfl ?_);refine gl (some 23) _ (#[.pointer (some ⟨g,0,none⟩),.int .i64 2]) Tryd.func33 ?_;(with_reducible refine (spec_l1Rd_pick.calls k1 g s0_0 aa 2 ae ac w0 _ ?side1 ?side2 A9.out).mono ?_);(case side1=>exact iq118 a3.out);(case side2=>exact bq118 HB.out a3.out);rintro e w18 ⟨rfl,hi,hb,hk⟩;refine ⟨_,rfl,?_⟩;refine Ya4 (ra118 (iq118 a3.out) (kr a7.out) hk) (KeepBut.trans (kb HK.out) hk (.inl rfl)) (hb) (hi) ?_;clear a7 HK HB a3;intro a7 HK HB a3;(try clear hb);(try clear hb2);(try clear hk);(try clear hi))|((with_reducible refine gc 69 rfl ?_);refine gl (some 24) _ (#[.int .i64 ae]) Tryd.func69 ?_;(with_reducible refine (spec_l10Dec.calls k1 ae a8 _ A10.out).mono ?_);rintro e w19 ⟨rfl,hb⟩;refine ⟨_,rfl,?_⟩;refine Ya4 (Kd.R_below (kr a7.out) hb) (IsS118.below (iq118 a3.out) hb) (KeepBut.trans (kb HK.out) (KeepBut.of_below hb g none) (.inl rfl)) (below_step (bq118 HB.out a3.out) hb) ?_;clear a7 a3 HK HB;intro a7 a3 HK HB;(try clear hb);(try clear hb2);(try clear hk);(try clear hi);have ao:0≤(a4:Int):=oda;have ap:a4<(a5.length:Int):=oda;obtain ⟨ad268,aD,aN⟩:=Kd.at_string (Kd.R_reads' a7.out).2.2 a4 ao ap;cases aD;replace ao:=eq_true ao;replace ap:=eq_true ap))
           go_roundg k1
           case measure=>have:=HK1.out;omega
           case rel=>exact ⟨((((a6++(⟨#[101]⟩:ByteArray))++a8)++(⟨#[10]⟩:ByteArray))++(rdOf ByteArray.empty a5 a4)),(wrap64 (a4+1)),(ac),Ye1,Ye1,H',⟨by have:=HK1.out;omega⟩,⟨kr a7.out⟩,⟨iq118 a3.out⟩,⟨kb HK.out⟩,⟨bq118 HB.out a3.out⟩⟩
          ·rw [if_neg aj] at H
           exact absurd H (by simp)
         ·rw [if_neg am] at H
          exact absurd H (by simp)
        ·rw [if_neg ai] at H
         have aB:decide (a4<(a5.length:Int))=false:=decide_eq_false ai;clear ai;have H':=Aside0.mk H;clear H;obtain ⟨Ao20,co20,aE⟩:=Kd.R_slice a7.out;subst aE
         go_wp2_with (first|((with_reducible refine gc 33 rfl ?_);refine gl (some 17) _ (#[.pointer (some ⟨g,0,none⟩),.int .i64 7]) Tryd.func33 ?_;(with_reducible refine (spec_l1Rd_pick.calls k1 g s0_0 ab 7 a9 aa w0 _ ?side1 ?side2 A6.out).mono ?_);(case side1=>exact iq118 a3.out);(case side2=>exact bq118 HB.out a3.out);rintro e w21 ⟨rfl,hi,hb,hk⟩;refine ⟨_,rfl,?_⟩;refine Ya4 (ra118 (iq118 a3.out) (kr a7.out) hk) (KeepBut.trans (kb HK.out) hk (.inl rfl)) (hb) (hi) ?_;clear a7 HK HB a3;intro a7 HK HB a3;(try clear hb);(try clear hb2);(try clear hk);(try clear hi))|((with_reducible refine gc 33 rfl ?_);refine gl (some 23) _ (#[.pointer (some ⟨g,0,none⟩),.int .i64 2]) Tryd.func33 ?_;(with_reducible refine (spec_l1Rd_pick.calls k1 g s0_0 aa 2 ae ac w0 _ ?side1 ?side2 A9.out).mono ?_);(case side1=>exact iq118 a3.out);(case side2=>exact bq118 HB.out a3.out);rintro e w22 ⟨rfl,hi,hb,hk⟩;refine ⟨_,rfl,?_⟩;refine Ya4 (ra118 (iq118 a3.out) (kr a7.out) hk) (KeepBut.trans (kb HK.out) hk (.inl rfl)) (hb) (hi) ?_;clear a7 HK HB a3;intro a7 HK HB a3;(try clear hb);(try clear hb2);(try clear hk);(try clear hi))|((with_reducible refine gc 69 rfl ?_);refine gl (some 24) _ (#[.int .i64 ae]) Tryd.func69 ?_;(with_reducible refine (spec_l10Dec.calls k1 ae a8 _ A10.out).mono ?_);rintro e w23 ⟨rfl,hb⟩;refine ⟨_,rfl,?_⟩;refine Ya4 (Kd.R_below (kr a7.out) hb) (IsS118.below (iq118 a3.out) hb) (KeepBut.trans (kb HK.out) (KeepBut.of_below hb g none) (.inl rfl)) (below_step (bq118 HB.out a3.out) hb) ?_;clear a7 a3 HK HB;intro a7 a3 HK HB;(try clear hb);(try clear hb2);(try clear hk);(try clear hi)))
         go_roundg k1
         case measure=>have:=HK1.out;omega
         case rel=>exact ⟨(((a6++(⟨#[101]⟩:ByteArray))++a8)++(⟨#[10]⟩:ByteArray)),(wrap64 (a4+1)),(ac),Ye1,Ye1,H',⟨by have:=HK1.out;omega⟩,⟨kr a7.out⟩,⟨iq118 a3.out⟩,⟨kb HK.out⟩,⟨bq118 HB.out a3.out⟩⟩
       ·rw [if_neg ah] at H
        exact absurd H (by simp)
      ·rw [if_neg ag] at H
       exact absurd H (by simp)
     ·rw [if_neg c8] at H
      exact absurd H (by simp)
    ·rw [if_neg c7] at H
     have az:(a9==0)=false:=beq_eq_false_iff_ne.mpr c7;have aA:(a9 != 0)=true:=bne_iff_ne.mpr c7
     by_cases af:a9=1
     ·rw [if_pos af] at H
      have aF:(a9==1)=true:=beq_iff_eq.mpr af;have aG:(a9 != 1)=false:=bne_eq_false_iff_eq.mpr af;clear af;have H':=Aside0.mk H;clear H;obtain ⟨Ao25,co25,aH⟩:=Kd.R_slice a7.out;subst aH
      go_wp2_with (first|((with_reducible refine gc 33 rfl ?_);refine gl (some 17) _ (#[.pointer (some ⟨g,0,none⟩),.int .i64 7]) Tryd.func33 ?_;(with_reducible refine (spec_l1Rd_pick.calls k1 g s0_0 ab 7 a9 aa w0 _ ?side1 ?side2 A6.out).mono ?_);(case side1=>exact iq118 a3.out);(case side2=>exact bq118 HB.out a3.out);rintro e w26 ⟨rfl,hi,hb,hk⟩;refine ⟨_,rfl,?_⟩;refine Ya4 (ra118 (iq118 a3.out) (kr a7.out) hk) (KeepBut.trans (kb HK.out) hk (.inl rfl)) (hb) (hi) ?_;clear a7 HK HB a3;intro a7 HK HB a3;(try clear hb);(try clear hb2);(try clear hk);(try clear hi)))
      go_roundg k1
      case measure=>have:=HK1.out;omega
      case rel=>exact ⟨(a6),(wrap64 (a4+1)),(aa),Ye1,Ye1,H',⟨by have:=HK1.out;omega⟩,⟨kr a7.out⟩,⟨iq118 a3.out⟩,⟨kb HK.out⟩,⟨bq118 HB.out a3.out⟩⟩
     ·rw [if_neg af] at H
      have aF:(a9==1)=false:=beq_eq_false_iff_ne.mpr af;have aG:(a9 != 1)=true:=bne_iff_ne.mpr af
      by_cases ak:a4<(a5.length:Int)
      ·rw [if_pos ak] at H
       have aI:decide (a4<(a5.length:Int))=true:=decide_eq_true ak;clear ak
       by_cases an:0≤a4
       ·rw [if_pos an] at H
        have c28b0:decide (0≤a4)=true:=decide_eq_true an;clear an
        by_cases al:a6.size+(rdOf ByteArray.empty a5 a4).size≤9223372036854775807
        ·rw [if_pos al] at H
         have c29b0:=eq_true al;have c29b1:decide (a6.size+(rdOf ByteArray.empty a5 a4).size≤9223372036854775807)=true:=decide_eq_true al
         try have c29b2:(9223372036854775807<a6.size+(rdOf ByteArray.empty a5 a4).size)=False:=eq_false (Nat.not_lt.2 al)
         have H':=Aside0.mk H;clear H;obtain ⟨Ao30,co30,aJ⟩:=Kd.R_slice a7.out;subst aJ
         go_wp2_with (first|((with_reducible refine gc 33 rfl ?_);refine gl (some 17) _ (#[.pointer (some ⟨g,0,none⟩),.int .i64 7]) Tryd.func33 ?_;(with_reducible refine (spec_l1Rd_pick.calls k1 g s0_0 ab 7 a9 aa w0 _ ?side1 ?side2 A6.out).mono ?_);(case side1=>exact iq118 a3.out);(case side2=>exact bq118 HB.out a3.out);rintro e w31 ⟨rfl,hi,hb,hk⟩;refine ⟨_,rfl,?_⟩;refine Ya4 (ra118 (iq118 a3.out) (kr a7.out) hk) (KeepBut.trans (kb HK.out) hk (.inl rfl)) (hb) (hi) ?_;clear a7 HK HB a3;intro a7 HK HB a3;(try clear hb);(try clear hb2);(try clear hk);(try clear hi);have aq:0≤(a4:Int):=oda;have ar:a4<(a5.length:Int):=oda;obtain ⟨ad269,aK,aO⟩:=Kd.at_string (Kd.R_reads' a7.out).2.2 a4 aq ar;cases aK;replace aq:=eq_true aq;replace ar:=eq_true ar))
         go_roundg k1
         case measure=>have:=HK1.out;omega
         case rel=>exact ⟨(a6++(rdOf ByteArray.empty a5 a4)),(wrap64 (a4+1)),(aa),Ye1,Ye1,H',⟨by have:=HK1.out;omega⟩,⟨kr a7.out⟩,⟨iq118 a3.out⟩,⟨kb HK.out⟩,⟨bq118 HB.out a3.out⟩⟩
        ·rw [if_neg al] at H
         exact absurd H (by simp)
       ·rw [if_neg an] at H
        exact absurd H (by simp)
      ·rw [if_neg ak] at H
       have aI:decide (a4<(a5.length:Int))=false:=decide_eq_false ak;clear ak;have H':=Aside0.mk H;clear H;obtain ⟨Ao32,co32,aL⟩:=Kd.R_slice a7.out;subst aL
       go_wp2_with (first|((with_reducible refine gc 33 rfl ?_);refine gl (some 17) _ (#[.pointer (some ⟨g,0,none⟩),.int .i64 7]) Tryd.func33 ?_;(with_reducible refine (spec_l1Rd_pick.calls k1 g s0_0 ab 7 a9 aa w0 _ ?side1 ?side2 A6.out).mono ?_);(case side1=>exact iq118 a3.out);(case side2=>exact bq118 HB.out a3.out);rintro e w33 ⟨rfl,hi,hb,hk⟩;refine ⟨_,rfl,?_⟩;refine Ya4 (ra118 (iq118 a3.out) (kr a7.out) hk) (KeepBut.trans (kb HK.out) hk (.inl rfl)) (hb) (hi) ?_;clear a7 HK HB a3;intro a7 HK HB a3;(try clear hb);(try clear hb2);(try clear hk);(try clear hi)))
       go_roundg k1
       case measure=>have:=HK1.out;omega
       case rel=>exact ⟨(a6),(wrap64 (a4+1)),(aa),Ye1,Ye1,H',⟨by have:=HK1.out;omega⟩,⟨kr a7.out⟩,⟨iq118 a3.out⟩,⟨kb HK.out⟩,⟨bq118 HB.out a3.out⟩⟩
   ·rw [if_neg c5] at H
    have ay:decide (a4≤(a5.length:Int))=false:=decide_eq_false c5;clear c5;simp only [Option.some.injEq,Prod.mk.injEq] at H;obtain ⟨rfl,rfl⟩:=H;obtain ⟨Ao34,co34,aM⟩:=Kd.R_slice a7.out;subst aM
    go_wp2
    go_ret
    exact ⟨Ye2,iq118 a3.out,bq118 HB.out a3.out,kb HK.out⟩

end Go.Proofs.YtkmfnmeilooogaaDoor.P


namespace Go.Proofs.YtkmfnmeilooogaaDoor.P
open Go.RowKit Go.Proofs.YtkmfnmeilooogaaDoorW.PrintWords Go.Proofs.YtkmfnmeilooogaaDoorW.PrintLast Go.Proofs.YtkmfnmeilooogaaDoorW.PrintMore
attribute [local go_sem] max2_int min2_int max_two min_two max_three min_three max_four min_four
set_option linter.unusedVariables false
set_option linter.unusedSimpArgs false

mutual
def spec_DrawMergeText.l0:Nat→ByteArray→Int→List Int→Int→Option (ByteArray×ByteArray×ByteArray)
 | 0,_,_,_,_=>none
 | k+1,x6,x7,a6,ae=>if x7>0 then ((spec_l1Rd_pick.f k a6 ae 6).bind fun bt281=>(if 0≤bt281.1 then (if bt281.1≤6 then (if 0≤1 then (if 1≤(((⟨#[108,109,110,111,112,113]⟩:ByteArray).extract (bt281.1:Int).toNat (⟨#[108,109,110,111,112,113]⟩:ByteArray).size).size:Int) then (if x6.size+(((⟨#[108,109,110,111,112,113]⟩:ByteArray).extract (bt281.1:Int).toNat (⟨#[108,109,110,111,112,113]⟩:ByteArray).size).extract 0 1).size≤9223372036854775807 then (if (x6++(((⟨#[108,109,110,111,112,113]⟩:ByteArray).extract (bt281.1:Int).toNat (⟨#[108,109,110,111,112,113]⟩:ByteArray).size).extract 0 1)).size+1≤9223372036854775807 then (spec_DrawMergeText.l0 k ((x6++(((⟨#[108,109,110,111,112,113]⟩:ByteArray).extract (bt281.1:Int).toNat (⟨#[108,109,110,111,112,113]⟩:ByteArray).size).extract 0 1))++(⟨#[10]⟩:ByteArray)) (wrap64 (x7 - 1)) a6 bt281.2) else (none)) else (none)) else (none)) else (none)) else (none)) else (none))) else ((spec_l1Rd_pick.f k a6 ae 4).bind fun bt283=>(if bt283.1=0 then (if x6.size+3≤9223372036854775807 then (spec_DrawMergeText.j1 k (x6++(⟨#[101,110,100]⟩:ByteArray)) a6 bt283.2) else (none)) else (spec_DrawMergeText.j1 k x6 a6 bt283.2)))
def spec_DrawMergeText.j1:Nat→ByteArray→List Int→Int→Option (ByteArray×ByteArray×ByteArray)
 | 0,_,_,_=>none
 | k+1,x6,a6,ae=>(spec_l1Rd_pick.f k a6 ae 5).bind fun bt285=>(if bt285.1>0 then ((spec_l7Edit.f k a6 bt285.2 x6).bind fun bt287=>(spec_DrawMergeText.j2 k x6 bt287.1 x6 a6 bt287.2)) else (spec_DrawMergeText.j2 k x6 x6 x6 a6 bt285.2))
def spec_DrawMergeText.j2:Nat→ByteArray→ByteArray→ByteArray→List Int→Int→Option (ByteArray×ByteArray×ByteArray)
 | 0,_,_,_,_,_=>none
 | k+1,x6,x8,x9,a6,ae=>(spec_l1Rd_pick.f k a6 ae 5).bind fun bt289=>(if bt289.1>0 then ((spec_l7Edit.f k a6 bt289.2 x6).bind fun bt291=>(spec_DrawMergeText.j3 k x6 x8 bt291.1 a6 bt291.2)) else (spec_DrawMergeText.j3 k x6 x8 x9 a6 bt289.2))
def spec_DrawMergeText.j3:Nat→ByteArray→ByteArray→ByteArray→List Int→Int→Option (ByteArray×ByteArray×ByteArray)
 | 0,_,_,_,_,_=>none
 | k+1,x6,x8,x9,a6,ae=>(spec_l1Rd_pick.f k a6 ae 24).bind fun bt293=>(if bt293.1=0 then ((spec_l1Rd_pick.f k a6 bt293.2 2).bind fun bt295=>((spec_l1Many.f k (⟨#[98]⟩:ByteArray) (wrap64 (1500+bt295.1))).bind fun af=>(some (x6,x8,af)))) else (if bt293.1=1 then ((spec_l1Text.f k a6 bt293.2).bind fun bt298=>((spec_l1Text.f k a6 bt298.2).bind fun bt300=>((spec_l1Text.f k a6 bt300.2).bind fun bt302=>(some (bt298.1,bt300.1,bt302.1))))) else (some (x6,x8,x9))))
end
def spec_DrawMergeText.f (k:Nat) (l0:List Int):Option (ByteArray×ByteArray×ByteArray):=(spec_l1Open.f l0).bind fun bt276=>((spec_l1Rd_pick.f k bt276.1 bt276.2 9).bind fun bt279=>(spec_DrawMergeText.l0 k (⟨#[]⟩:ByteArray) bt279.1 bt276.1 bt279.2))
theorem spec_DrawMergeText.mono_l:∀ k,(∀ y0 y1 y2 y3,LeO (spec_DrawMergeText.l0 k y0 y1 y2 y3) (spec_DrawMergeText.l0 (k+1) y0 y1 y2 y3))∧(∀ y0 y1 y2,LeO (spec_DrawMergeText.j1 k y0 y1 y2) (spec_DrawMergeText.j1 (k+1) y0 y1 y2))∧(∀ y0 y1 y2 y3 y4,LeO (spec_DrawMergeText.j2 k y0 y1 y2 y3 y4) (spec_DrawMergeText.j2 (k+1) y0 y1 y2 y3 y4))∧(∀ y0 y1 y2 y3 y4,LeO (spec_DrawMergeText.j3 k y0 y1 y2 y3 y4) (spec_DrawMergeText.j3 (k+1) y0 y1 y2 y3 y4))
 | 0=>⟨fun _ _ _ _ r h=>by simp [spec_DrawMergeText.l0] at h,fun _ _ _ r h=>by simp [spec_DrawMergeText.j1] at h,fun _ _ _ _ _ r h=>by simp [spec_DrawMergeText.j2] at h,fun _ _ _ _ _ r h=>by simp [spec_DrawMergeText.j3] at h⟩
 | k + 1 => by
  obtain ⟨ih0,ih1,ih2,ih3⟩:=spec_DrawMergeText.mono_l k;refine ⟨?_,?_,?_,?_⟩
  ·intro y0 y1 y2 y3
   unfold spec_DrawMergeText.l0
   repeat' first
   | (with_reducible exact ih0 _ _ _ _)
   | (with_reducible exact ih1 _ _ _)
   | (with_reducible exact ih2 _ _ _ _ _)
   | (with_reducible exact ih3 _ _ _ _ _)
   | (with_reducible exact spec_l1Many.mono _ _ _)
   | (with_reducible exact spec_l1Rd_pick.mono _ _ _ _)
   | (with_reducible exact spec_l1Text.mono _ _ _)
   | (with_reducible exact spec_l7Edit.mono _ _ _ _)
   | (with_reducible exact LeO.refl _)
   | (with_reducible exact LeO.none _)
   | (with_reducible refine LeO.ite ?_ ?_)
   | (with_reducible refine LeO.bind ?_ (fun _ => ?_))
   | exact ih0 _ _ _ _
   | exact ih1 _ _ _
   | exact ih2 _ _ _ _ _
   | exact ih3 _ _ _ _ _
   | exact spec_l1Many.mono _ _ _
   | exact spec_l1Rd_pick.mono _ _ _ _
   | exact spec_l1Text.mono _ _ _
   | exact spec_l7Edit.mono _ _ _ _
   | exact LeO.none _
   | refine LeO.ite ?_ ?_
   | refine LeO.bind ?_ (fun _ => ?_)
  ·intro y0 y1 y2
   unfold spec_DrawMergeText.j1
   repeat' first
   | (with_reducible exact ih0 _ _ _ _)
   | (with_reducible exact ih1 _ _ _)
   | (with_reducible exact ih2 _ _ _ _ _)
   | (with_reducible exact ih3 _ _ _ _ _)
   | (with_reducible exact spec_l1Many.mono _ _ _)
   | (with_reducible exact spec_l1Rd_pick.mono _ _ _ _)
   | (with_reducible exact spec_l1Text.mono _ _ _)
   | (with_reducible exact spec_l7Edit.mono _ _ _ _)
   | (with_reducible exact LeO.refl _)
   | (with_reducible exact LeO.none _)
   | (with_reducible refine LeO.ite ?_ ?_)
   | (with_reducible refine LeO.bind ?_ (fun _ => ?_))
   | exact ih0 _ _ _ _
   | exact ih1 _ _ _
   | exact ih2 _ _ _ _ _
   | exact ih3 _ _ _ _ _
   | exact spec_l1Many.mono _ _ _
   | exact spec_l1Rd_pick.mono _ _ _ _
   | exact spec_l1Text.mono _ _ _
   | exact spec_l7Edit.mono _ _ _ _
   | exact LeO.none _
   | refine LeO.ite ?_ ?_
   | refine LeO.bind ?_ (fun _ => ?_)
  ·intro y0 y1 y2 y3 y4
   unfold spec_DrawMergeText.j2
   repeat' first
   | (with_reducible exact ih0 _ _ _ _)
   | (with_reducible exact ih1 _ _ _)
   | (with_reducible exact ih2 _ _ _ _ _)
   | (with_reducible exact ih3 _ _ _ _ _)
   | (with_reducible exact spec_l1Many.mono _ _ _)
   | (with_reducible exact spec_l1Rd_pick.mono _ _ _ _)
   | (with_reducible exact spec_l1Text.mono _ _ _)
   | (with_reducible exact spec_l7Edit.mono _ _ _ _)
   | (with_reducible exact LeO.refl _)
   | (with_reducible exact LeO.none _)
   | (with_reducible refine LeO.ite ?_ ?_)
   | (with_reducible refine LeO.bind ?_ (fun _ => ?_))
   | exact ih0 _ _ _ _
   | exact ih1 _ _ _
   | exact ih2 _ _ _ _ _
   | exact ih3 _ _ _ _ _
   | exact spec_l1Many.mono _ _ _
   | exact spec_l1Rd_pick.mono _ _ _ _
   | exact spec_l1Text.mono _ _ _
   | exact spec_l7Edit.mono _ _ _ _
   | exact LeO.none _
   | refine LeO.ite ?_ ?_
   | refine LeO.bind ?_ (fun _ => ?_)
  ·intro y0 y1 y2 y3 y4
   unfold spec_DrawMergeText.j3
   repeat' first
   | (with_reducible exact ih0 _ _ _ _)
   | (with_reducible exact ih1 _ _ _)
   | (with_reducible exact ih2 _ _ _ _ _)
   | (with_reducible exact ih3 _ _ _ _ _)
   | (with_reducible exact spec_l1Many.mono _ _ _)
   | (with_reducible exact spec_l1Rd_pick.mono _ _ _ _)
   | (with_reducible exact spec_l1Text.mono _ _ _)
   | (with_reducible exact spec_l7Edit.mono _ _ _ _)
   | (with_reducible exact LeO.refl _)
   | (with_reducible exact LeO.none _)
   | (with_reducible refine LeO.ite ?_ ?_)
   | (with_reducible refine LeO.bind ?_ (fun _ => ?_))
   | exact ih0 _ _ _ _
   | exact ih1 _ _ _
   | exact ih2 _ _ _ _ _
   | exact ih3 _ _ _ _ _
   | exact spec_l1Many.mono _ _ _
   | exact spec_l1Rd_pick.mono _ _ _ _
   | exact spec_l1Text.mono _ _ _
   | exact spec_l7Edit.mono _ _ _ _
   | exact LeO.none _
   | refine LeO.ite ?_ ?_
   | refine LeO.bind ?_ (fun _ => ?_)
theorem spec_DrawMergeText.mono:∀ a0 k,LeO (spec_DrawMergeText.f k a0) (spec_DrawMergeText.f (k+1) a0):=by
 intro a0 k;obtain ⟨ih0,ih1,ih2,ih3⟩:=spec_DrawMergeText.mono_l k
 unfold spec_DrawMergeText.f
 repeat' first
   | (with_reducible exact ih0 _ _ _ _)
   | (with_reducible exact ih1 _ _ _)
   | (with_reducible exact ih2 _ _ _ _ _)
   | (with_reducible exact ih3 _ _ _ _ _)
   | (with_reducible exact spec_l1Many.mono _ _ _)
   | (with_reducible exact spec_l1Rd_pick.mono _ _ _ _)
   | (with_reducible exact spec_l1Text.mono _ _ _)
   | (with_reducible exact spec_l7Edit.mono _ _ _ _)
   | (with_reducible exact LeO.refl _)
   | (with_reducible exact LeO.none _)
   | (with_reducible refine LeO.ite ?_ ?_)
   | (with_reducible refine LeO.bind ?_ (fun _ => ?_))
   | exact ih0 _ _ _ _
   | exact ih1 _ _ _
   | exact ih2 _ _ _ _ _
   | exact ih3 _ _ _ _ _
   | exact spec_l1Many.mono _ _ _
   | exact spec_l1Rd_pick.mono _ _ _ _
   | exact spec_l1Text.mono _ _ _
   | exact spec_l7Edit.mono _ _ _ _
   | exact LeO.none _
   | refine LeO.ite ?_ ?_
   | refine LeO.bind ?_ (fun _ => ?_)
set_option maxHeartbeats 8000000 in
set_option maxRecDepth 100000 in
theorem spec_DrawMergeText.calls (k : Nat) (A0 : Option Addr) (c0 : Nat) (l0 : List Int) (r1 : ByteArray) (r2 : ByteArray) (r3 : ByteArray) (w : World) (hr0 : Kd.C (Kd.int .u8) w A0 l0.length l0) (hc0 : l0.length ≤ c0) (h : spec_DrawMergeText.f k l0 = some (r1, r2, r3)) :
  Calls Tryd.prog 10 #[.slice A0 l0.length c0] w fun e w'=>e = .returned (.tuple #[.string r1,.string r2,.string r3])∧Below w.heap.size w w':=by
 have HR0:=Aside0.mk hr0;have HC0:=Aside0.mk hc0;clear hr0 hc0;have HB:=Aside0.mk (Below.refl w.heap.size w);have H:((spec_l1Open.f l0).bind fun bt276=>((spec_l1Rd_pick.f k bt276.1 bt276.2 9).bind fun bt279=>(spec_DrawMergeText.l0 k (⟨#[]⟩:ByteArray) bt279.1 bt276.1 bt279.2)))=some (r1,r2,r3):=h;clear h;replace H:=Option.bind_eq_some_iff.mp H;obtain ⟨⟨a2,aK⟩,aC,H⟩:=H;replace H:((spec_l1Rd_pick.f k a2 aK 9).bind fun bt279=>(spec_DrawMergeText.l0 k (⟨#[]⟩:ByteArray) bt279.1 a2 bt279.2))=some (r1,r2,r3):=H;have A2:=Aside0.mk aC;clear aC;replace H:=Option.bind_eq_some_iff.mp H;obtain ⟨⟨aL,aM⟩,aD,H⟩:=H;replace H:(spec_DrawMergeText.l0 k (⟨#[]⟩:ByteArray) aL a2 aM)=some (r1,r2,r3):=H;have A3:=Aside0.mk aD;clear aD;have H':=Aside0.mk H;clear H
 go_enter Tryd.func10,Tryd.ntmps10
 go_wp2_with (first|((with_reducible refine gc 32 rfl ?_);refine gl (some 11) _ (#[.slice A0 l0.length c0]) Tryd.func32 ?_;(with_reducible refine (spec_l1Open.calls _ _ l0 a2 aK w _ ?side1 ?side2 ?side3 A2.out).mono ?_);(case side1=>exact bf HB.out);(case side2=>exact HR0.out);(case side3=>exact HC0.out);rintro e w4 ⟨g278,rfl,hi,hb,hb2⟩;refine ⟨_,rfl,?_⟩;refine Ya2 (hb) (hi) ?_;clear HB;intro HB a1;(try clear hb);(try clear hb2);(try clear hk);(try clear hi))|((with_reducible refine gc 33 rfl ?_);refine gl (some 13) _ (#[.pointer (some ⟨g278,0,none⟩),.int .i64 9]) Tryd.func33 ?_;(with_reducible refine (spec_l1Rd_pick.calls k g278 a2 aK 9 aL aM w _ ?side1 ?side2 A3.out).mono ?_);(case side1=>exact iq118 a1.out);(case side2=>exact bq118 HB.out a1.out);rintro e w5 ⟨rfl,hi,hb,hk⟩;refine ⟨_,rfl,?_⟩;refine Ya2 (hb) (hi) ?_;clear HB a1;intro HB a1;(try clear hb);(try clear hb2);(try clear hk);(try clear hi)))
 go_loopg [6,7] k (fun kq v6 v7 w' => ∃ (a4:ByteArray) (ag:Int) (ax:Int),v6 = .string a4∧v7 = .int .i64 ag∧Aside0 (spec_DrawMergeText.l0 kq a4 ag a2 ax=some (r1,r2,r3))∧Aside0 (kq≤k)∧Aside0 (IsS118 w w' g278 a2 ax)∧Aside0 (Below w.heap.size w w'))
 case atStart=>exact ⟨((⟨#[]⟩:ByteArray)),(aL),(aM),Ye1,Ye1,H',⟨Nat.le_refl _⟩,⟨iq118 a1.out⟩,⟨bq118 HB.out a1.out⟩⟩
 case round =>
  clear H';(try clear c1);(try clear p2);(try clear c3);obtain ⟨a4,ag,ax,rfl,rfl,HA,HK1,a1,HB⟩:=hrel
  cases gk with
  | zero=>exact absurd HA.out (by simp [spec_DrawMergeText.l0])
  | succ k1 =>
   have H:=HA.out;clear HA;simp only [spec_DrawMergeText.l0] at H
   by_cases c6:ag>0
   ·rw [if_pos c6] at H
    have aE:decide (0<ag)=true:=decide_eq_true c6;clear c6;replace H:=Option.bind_eq_some_iff.mp H;obtain ⟨⟨a5,aN⟩,A70,H⟩:=H;replace H:(if 0≤a5 then (if a5≤6 then (if 0≤1 then (if 1≤(((⟨#[108,109,110,111,112,113]⟩:ByteArray).extract (a5:Int).toNat (⟨#[108,109,110,111,112,113]⟩:ByteArray).size).size:Int) then (if a4.size+(((⟨#[108,109,110,111,112,113]⟩:ByteArray).extract (a5:Int).toNat (⟨#[108,109,110,111,112,113]⟩:ByteArray).size).extract 0 1).size≤9223372036854775807 then (if (a4++(((⟨#[108,109,110,111,112,113]⟩:ByteArray).extract (a5:Int).toNat (⟨#[108,109,110,111,112,113]⟩:ByteArray).size).extract 0 1)).size+1≤9223372036854775807 then (spec_DrawMergeText.l0 k1 ((a4++(((⟨#[108,109,110,111,112,113]⟩:ByteArray).extract (a5:Int).toNat (⟨#[108,109,110,111,112,113]⟩:ByteArray).size).extract 0 1))++(⟨#[10]⟩:ByteArray)) (wrap64 (ag - 1)) a2 aN) else (none)) else (none)) else (none)) else (none)) else (none)) else (none))=some (r1,r2,r3):=H;have A7:=Aside0.mk A70;clear A70
    by_cases c8:0≤a5
    ·rw [if_pos c8] at H
     have aO:=eq_true c8;have aP:decide (0≤a5)=true:=decide_eq_true c8;clear c8
     by_cases c9:a5≤6
     ·rw [if_pos c9] at H
      have aQ:=eq_true c9;have aR:decide (a5≤6)=true:=decide_eq_true c9;clear c9
      by_cases c10:0≤1
      ·rw [if_pos c10] at H
       have aS:=eq_true c10;have aT:decide (0≤1)=true:=decide_eq_true c10;clear c10
       by_cases aa:1≤(((⟨#[108,109,110,111,112,113]⟩:ByteArray).extract (a5:Int).toNat (⟨#[108,109,110,111,112,113]⟩:ByteArray).size).size:Int)
       ·rw [if_pos aa] at H
        have c11q:1≤6 - a5.toNat:=(by have h_:=aa;rw [ByteArray.size_extract] at h_;have e_:(⟨#[108,109,110,111,112,113]⟩:ByteArray).size=6:=rfl;omega)
        have c11r:(((6 - a5.toNat:Nat):Int)<1)=False:=eq_false (by omega);have aU:=eq_true aa;have aV:decide (1≤(((⟨#[108,109,110,111,112,113]⟩:ByteArray).extract (a5:Int).toNat (⟨#[108,109,110,111,112,113]⟩:ByteArray).size).size:Int))=true:=decide_eq_true aa
        have c11o:1≤6 - a5.toNat:=(by have h_:=aa;rw [ByteArray.size_extract] at h_;have e_:(⟨#[108,109,110,111,112,113]⟩:ByteArray).size=6:=rfl;omega)
        clear aa
        by_cases ac:a4.size+(((⟨#[108,109,110,111,112,113]⟩:ByteArray).extract (a5:Int).toNat (⟨#[108,109,110,111,112,113]⟩:ByteArray).size).extract 0 1).size≤9223372036854775807
        ·rw [if_pos ac] at H
         try have c12n:a4.size+1≤9223372036854775807:=(by have h_:=ac;(try simp only [ByteArray.size_append] at h_);(try simp only [ByteArray.size_extract] at h_);(try simp only [show (⟨#[108,109,110,111,112,113]⟩:ByteArray).size=6 from rfl] at h_);(try omega);(try simpa using h_))
         try have c12m:=eq_true c12n
         try have c12d:=decide_eq_true c12n
         try have c12l:=eq_false (Nat.not_lt.2 c12n)
         (try clear c12n);have aW:=eq_true ac;have aX:decide (a4.size+(((⟨#[108,109,110,111,112,113]⟩:ByteArray).extract (a5:Int).toNat (⟨#[108,109,110,111,112,113]⟩:ByteArray).size).extract 0 1).size≤9223372036854775807)=true:=decide_eq_true ac
         try have aY:(9223372036854775807<a4.size+(((⟨#[108,109,110,111,112,113]⟩:ByteArray).extract (a5:Int).toNat (⟨#[108,109,110,111,112,113]⟩:ByteArray).size).extract 0 1).size)=False:=eq_false (Nat.not_lt.2 ac)
         by_cases ad:(a4++(((⟨#[108,109,110,111,112,113]⟩:ByteArray).extract (a5:Int).toNat (⟨#[108,109,110,111,112,113]⟩:ByteArray).size).extract 0 1)).size+1≤9223372036854775807
         ·rw [if_pos ad] at H
          try have c13n:a4.size+1+1≤9223372036854775807:=(by have h_:=ad;(try simp only [ByteArray.size_append] at h_);(try simp only [ByteArray.size_extract] at h_);(try simp only [show (⟨#[108,109,110,111,112,113]⟩:ByteArray).size=6 from rfl] at h_);(try omega);(try simpa using h_))
          try have c13m:=eq_true c13n
          try have c13d:=decide_eq_true c13n
          try have c13l:=eq_false (Nat.not_lt.2 c13n)
          (try clear c13n);have aZ:=eq_true ad;have b0:decide ((a4++(((⟨#[108,109,110,111,112,113]⟩:ByteArray).extract (a5:Int).toNat (⟨#[108,109,110,111,112,113]⟩:ByteArray).size).extract 0 1)).size+1≤9223372036854775807)=true:=decide_eq_true ad
          try have b1:(9223372036854775807<(a4++(((⟨#[108,109,110,111,112,113]⟩:ByteArray).extract (a5:Int).toNat (⟨#[108,109,110,111,112,113]⟩:ByteArray).size).extract 0 1)).size+1)=False:=eq_false (Nat.not_lt.2 ad)
          have H':=Aside0.mk H;clear H
          go_wp2_with (first|((with_reducible refine gc 33 rfl ?_);refine gl (some 20) _ (#[.pointer (some ⟨g278,0,none⟩),.int .i64 6]) Tryd.func33 ?_;(with_reducible refine (spec_l1Rd_pick.calls k1 g278 a2 ax 6 a5 aN w _ ?side1 ?side2 A7.out).mono ?_);(case side1=>exact iq118 a1.out);(case side2=>exact bq118 HB.out a1.out);rintro e w14 ⟨rfl,hi,hb,hk⟩;refine ⟨_,rfl,?_⟩;refine Ya2 (hb) (hi) ?_;clear HB a1;intro HB a1;(try clear hb);(try clear hb2);(try clear hk);(try clear hi)))
          go_roundg k1
          case measure=>have:=HK1.out;omega
          case rel=>exact ⟨((a4++(((⟨#[108,109,110,111,112,113]⟩:ByteArray).extract (a5:Int).toNat (⟨#[108,109,110,111,112,113]⟩:ByteArray).size).extract 0 1))++(⟨#[10]⟩:ByteArray)),(wrap64 (ag - 1)),(aN),Ye1,Ye1,H',⟨by have:=HK1.out;omega⟩,⟨iq118 a1.out⟩,⟨bq118 HB.out a1.out⟩⟩
         ·rw [if_neg ad] at H
          exact absurd H (by simp)
        ·rw [if_neg ac] at H
         exact absurd H (by simp)
       ·rw [if_neg aa] at H
        exact absurd H (by simp)
      ·rw [if_neg c10] at H
       exact absurd H (by simp)
     ·rw [if_neg c9] at H
      exact absurd H (by simp)
    ·rw [if_neg c8] at H
     exact absurd H (by simp)
   ·rw [if_neg c6] at H
    have aE:decide (0<ag)=false:=decide_eq_false c6;clear c6;replace H:=Option.bind_eq_some_iff.mp H;obtain ⟨⟨ak,au⟩,bm,H⟩:=H;replace H:(if ak=0 then (if a4.size+3≤9223372036854775807 then (spec_DrawMergeText.j1 k1 (a4++(⟨#[101,110,100]⟩:ByteArray)) a2 au) else (none)) else (spec_DrawMergeText.j1 k1 a4 a2 au))=some (r1,r2,r3):=H;have A15:=Aside0.mk bm;clear bm;have b2:=Aside0.mk H;clear H
    go_upto_if 27 with (first|((with_reducible refine gc 33 rfl ?_);refine gl (some 26) _ (#[.pointer (some ⟨g278,0,none⟩),.int .i64 4]) Tryd.func33 ?_;(with_reducible refine (spec_l1Rd_pick.calls k1 g278 a2 ax 4 ak au w _ ?side1 ?side2 A15.out).mono ?_);(case side1=>exact iq118 a1.out);(case side2=>exact bq118 HB.out a1.out);rintro e w17 ⟨rfl,hi,hb,hk⟩;refine ⟨_,rfl,?_⟩;refine Ya2 (hb) (hi) ?_;clear HB a1;intro HB a1;(try clear hb);(try clear hb2);(try clear hk);(try clear hi)))
    (try simp only [Act.put,List.setIfInBounds_toArray,List.set_cons_zero,List.set_cons_succ])
    go_cut [6] (fun v6 wc => ∃ (kq:Nat) (a3:ByteArray),v6 = .string a3∧Aside0 (spec_DrawMergeText.j1 kq a3 a2 au=some (r1,r2,r3))∧Aside0 (kq≤k1)∧Aside0 (IsS118 w wc g278 a2 au)∧Aside0 (Below w.heap.size w wc))
    case first =>
     have H:=b2.out;clear b2
     by_cases ab:ak=0
     ·rw [if_pos ab] at H
      have ah:(ak==0)=true:=beq_iff_eq.mpr ab;have aF:(ak != 0)=false:=bne_eq_false_iff_eq.mpr ab;clear ab;(first|rw [ah]|(simp only [i64_w,i32_w];rw [ah])|skip)
      by_cases ai:a4.size+3≤9223372036854775807
      ·rw [if_pos ai] at H
       have b3:=eq_true ai;have b4:decide (a4.size+3≤9223372036854775807)=true:=decide_eq_true ai
       try have b5:(9223372036854775807<a4.size+3)=False:=eq_false (Nat.not_lt.2 ai)
       have H':=Aside0.mk H;clear H
       go_wp2
       go_meet
       case rel=>exact ⟨_,(a4++(⟨#[101,110,100]⟩:ByteArray)),Ye1,H',⟨by have:=HK1.out;first|omega|exact Nat.le_refl _⟩,⟨iq118 a1.out⟩,⟨bq118 HB.out a1.out⟩⟩
      ·rw [if_neg ai] at H
       exact absurd H (by simp)
     ·rw [if_neg ab] at H
      have ah:(ak==0)=false:=beq_eq_false_iff_ne.mpr ab;have aF:(ak != 0)=true:=bne_iff_ne.mpr ab;(first|rw [ah]|(simp only [i64_w,i32_w];rw [ah])|skip);have H':=Aside0.mk H;clear H
      go_wp2
      go_meet
      case rel=>exact ⟨_,(a4),Ye1,H',⟨by have:=HK1.out;first|omega|exact Nat.le_refl _⟩,⟨iq118 a1.out⟩,⟨bq118 HB.out a1.out⟩⟩
    case rest =>
     clear b2;(try clear c1);(try clear p2);(try clear c3);(try clear c6);(try clear aE);(try clear p6);(try clear c8);(try clear aO);(try clear aP);(try clear c9);(try clear aQ);(try clear aR);(try clear c10);(try clear aS);(try clear aT);(try clear aa);(try clear aU);(try clear aV);(try clear ac);(try clear aW);(try clear aX);(try clear aY);(try clear ad);(try clear aZ);(try clear b0);(try clear b1);(try clear ab);(try clear ah);(try clear aF);(try clear ai);(try clear b3);(try clear b4);(try clear b5);(try clear p2);obtain ⟨kq,a3,rfl,HA,HJ15,a1,HB⟩:=hcut
     cases kq with
     | zero=>exact absurd HA.out (by simp [spec_DrawMergeText.j1])
     | succ al =>
      have H:=HA.out;clear HA;simp only [spec_DrawMergeText.j1] at H;replace H:=Option.bind_eq_some_iff.mp H;obtain ⟨⟨ay,az⟩,bn,H⟩:=H;replace H:(if ay>0 then ((spec_l7Edit.f al a2 az a3).bind fun bt287=>(spec_DrawMergeText.j2 al a3 bt287.1 a3 a2 bt287.2)) else (spec_DrawMergeText.j2 al a3 a3 a3 a2 az))=some (r1,r2,r3):=H;have aC:=Aside0.mk bn;clear bn;have b6:=Aside0.mk H;clear H
      go_upto_if 34 with (first|((with_reducible refine gc 33 rfl ?_);refine gl (some 33) _ (#[.pointer (some ⟨g278,0,none⟩),.int .i64 5]) Tryd.func33 ?_;(with_reducible refine (spec_l1Rd_pick.calls al g278 a2 au 5 ay az w _ ?side1 ?side2 aC.out).mono ?_);(case side1=>exact iq118 a1.out);(case side2=>exact bq118 HB.out a1.out);rintro e w22 ⟨rfl,hi,hb,hk⟩;refine ⟨_,rfl,?_⟩;refine Ya2 (hb) (hi) ?_;clear HB a1;intro HB a1;(try clear hb);(try clear hb2);(try clear hk);(try clear hi)))
      (try simp only [Act.put,List.setIfInBounds_toArray,List.set_cons_zero,List.set_cons_succ])
      go_cut [8] (fun v8 wc => ∃ (kq:Nat) (a9:ByteArray) (aG:Int),v8 = .string a9∧Aside0 (spec_DrawMergeText.j2 kq a3 a9 a3 a2 aG=some (r1,r2,r3))∧Aside0 (kq≤al)∧Aside0 (IsS118 w wc g278 a2 aG)∧Aside0 (Below w.heap.size w wc))
      case first =>
       have H:=b6.out;clear b6
       by_cases aj:ay>0
       ·rw [if_pos aj] at H
        have am:decide (0<ay)=true:=decide_eq_true aj;clear aj;(first|rw [am]|(simp only [i64_w,i32_w];rw [am])|skip);replace H:=Option.bind_eq_some_iff.mp H;obtain ⟨⟨b7,b8⟩,bo,H⟩:=H;replace H:(spec_DrawMergeText.j2 al a3 b7 a3 a2 b8)=some (r1,r2,r3):=H;have A24:=Aside0.mk bo;clear bo;have H':=Aside0.mk H;clear H
        go_wp2_with (first|((with_reducible refine gc 34 rfl ?_);refine gl (some 37) _ (#[.pointer (some ⟨g278,0,none⟩),.string a3]) Tryd.func34 ?_;(with_reducible refine (spec_l7Edit.calls al g278 a2 az a3 b7 b8 w _ ?side1 ?side2 A24.out).mono ?_);(case side1=>exact iq118 a1.out);(case side2=>exact bq118 HB.out a1.out);rintro e w25 ⟨rfl,hi,hb,hk⟩;refine ⟨_,rfl,?_⟩;refine Ya2 (hb) (hi) ?_;clear HB a1;intro HB a1;(try clear hb);(try clear hb2);(try clear hk);(try clear hi)))
        go_meet
        case rel=>exact ⟨_,(b7),(b8),Ye1,H',⟨by have:=HK1.out;have:=HJ15.out;first|omega|exact Nat.le_refl _⟩,⟨iq118 a1.out⟩,⟨bq118 HB.out a1.out⟩⟩
       ·rw [if_neg aj] at H
        have am:decide (0<ay)=false:=decide_eq_false aj;clear aj;(first|rw [am]|(simp only [i64_w,i32_w];rw [am])|skip);have H':=Aside0.mk H;clear H
        go_wp2
        go_meet
        case rel=>exact ⟨_,(a3),(az),Ye1,H',⟨by have:=HK1.out;have:=HJ15.out;first|omega|exact Nat.le_refl _⟩,⟨iq118 a1.out⟩,⟨bq118 HB.out a1.out⟩⟩
      case rest =>
       clear b6;(try clear c1);(try clear c2);(try clear p2);(try clear c3);(try clear c6);(try clear aE);(try clear p6);(try clear c8);(try clear aO);(try clear aP);(try clear c9);(try clear aQ);(try clear aR);(try clear c10);(try clear aS);(try clear aT);(try clear aa);(try clear aU);(try clear aV);(try clear ac);(try clear aW);(try clear aX);(try clear aY);(try clear ad);(try clear aZ);(try clear b0);(try clear b1);(try clear ab);(try clear ah);(try clear aF);(try clear ai);(try clear b3);(try clear b4);(try clear b5);(try clear aj);(try clear am);(try clear p2);(try clear p6);obtain ⟨kq,a9,aG,rfl,HA,HJ20,a1,HB⟩:=hcut
       cases kq with
       | zero=>exact absurd HA.out (by simp [spec_DrawMergeText.j2])
       | succ an =>
        have H:=HA.out;clear HA;simp only [spec_DrawMergeText.j2] at H;replace H:=Option.bind_eq_some_iff.mp H;obtain ⟨⟨aA,aB⟩,bq,H⟩:=H;replace H:(if aA>0 then ((spec_l7Edit.f an a2 aB a3).bind fun bt291=>(spec_DrawMergeText.j3 an a3 a9 bt291.1 a2 bt291.2)) else (spec_DrawMergeText.j3 an a3 a9 a3 a2 aB))=some (r1,r2,r3):=H;have A26:=Aside0.mk bq;clear bq;have b9:=Aside0.mk H;clear H
        go_upto_if 40 with (first|((with_reducible refine gc 33 rfl ?_);refine gl (some 39) _ (#[.pointer (some ⟨g278,0,none⟩),.int .i64 5]) Tryd.func33 ?_;(with_reducible refine (spec_l1Rd_pick.calls an g278 a2 aG 5 aA aB w _ ?side1 ?side2 A26.out).mono ?_);(case side1=>exact iq118 a1.out);(case side2=>exact bq118 HB.out a1.out);rintro e w28 ⟨rfl,hi,hb,hk⟩;refine ⟨_,rfl,?_⟩;refine Ya2 (hb) (hi) ?_;clear HB a1;intro HB a1;(try clear hb);(try clear hb2);(try clear hk);(try clear hi)))
        (try simp only [Act.put,List.setIfInBounds_toArray,List.set_cons_zero,List.set_cons_succ])
        go_cut [9] (fun v9 wc => ∃ (kq:Nat) (aH:ByteArray) (av:Int),v9 = .string aH∧Aside0 (spec_DrawMergeText.j3 kq a3 a9 aH a2 av=some (r1,r2,r3))∧Aside0 (kq≤an)∧Aside0 (IsS118 w wc g278 a2 av)∧Aside0 (Below w.heap.size w wc))
        case first =>
         have H:=b9.out;clear b9
         by_cases ao:aA>0
         ·rw [if_pos ao] at H
          have aw:decide (0<aA)=true:=decide_eq_true ao;clear ao;(first|rw [aw]|(simp only [i64_w,i32_w];rw [aw])|skip);replace H:=Option.bind_eq_some_iff.mp H;obtain ⟨⟨ba,bd⟩,bu,H⟩:=H;replace H:(spec_DrawMergeText.j3 an a3 a9 ba a2 bd)=some (r1,r2,r3):=H;have aD:=Aside0.mk bu;clear bu;have H':=Aside0.mk H;clear H
          go_wp2_with (first|((with_reducible refine gc 34 rfl ?_);refine gl (some 43) _ (#[.pointer (some ⟨g278,0,none⟩),.string a3]) Tryd.func34 ?_;(with_reducible refine (spec_l7Edit.calls an g278 a2 aB a3 ba bd w _ ?side1 ?side2 aD.out).mono ?_);(case side1=>exact iq118 a1.out);(case side2=>exact bq118 HB.out a1.out);rintro e w31 ⟨rfl,hi,hb,hk⟩;refine ⟨_,rfl,?_⟩;refine Ya2 (hb) (hi) ?_;clear HB a1;intro HB a1;(try clear hb);(try clear hb2);(try clear hk);(try clear hi)))
          go_meet
          case rel=>exact ⟨_,(ba),(bd),Ye1,H',⟨by have:=HK1.out;have:=HJ15.out;have:=HJ20.out;first|omega|exact Nat.le_refl _⟩,⟨iq118 a1.out⟩,⟨bq118 HB.out a1.out⟩⟩
         ·rw [if_neg ao] at H
          have aw:decide (0<aA)=false:=decide_eq_false ao;clear ao;(first|rw [aw]|(simp only [i64_w,i32_w];rw [aw])|skip);have H':=Aside0.mk H;clear H
          go_wp2
          go_meet
          case rel=>exact ⟨_,(a3),(aB),Ye1,H',⟨by have:=HK1.out;have:=HJ15.out;have:=HJ20.out;first|omega|exact Nat.le_refl _⟩,⟨iq118 a1.out⟩,⟨bq118 HB.out a1.out⟩⟩
        case rest =>
         clear b9;(try clear c1);(try clear c2);(try clear p2);(try clear c3);(try clear c6);(try clear aE);(try clear p6);(try clear c8);(try clear aO);(try clear aP);(try clear c9);(try clear aQ);(try clear aR);(try clear c10);(try clear aS);(try clear aT);(try clear aa);(try clear aU);(try clear aV);(try clear ac);(try clear aW);(try clear aX);(try clear aY);(try clear ad);(try clear aZ);(try clear b0);(try clear b1);(try clear ab);(try clear ah);(try clear aF);(try clear ai);(try clear b3);(try clear b4);(try clear b5);(try clear aj);(try clear am);(try clear ao);(try clear aw);(try clear p2);(try clear p6);obtain ⟨kq,aH,av,rfl,HA,HJ26,a1,HB⟩:=hcut
         cases kq with
         | zero=>exact absurd HA.out (by simp [spec_DrawMergeText.j3])
         | succ a7 =>
          have H:=HA.out;clear HA;simp only [spec_DrawMergeText.j3] at H;replace H:=Option.bind_eq_some_iff.mp H;obtain ⟨⟨a8,ap⟩,bv,H⟩:=H;replace H:(if a8=0 then ((spec_l1Rd_pick.f a7 a2 ap 2).bind fun bt295=>((spec_l1Many.f a7 (⟨#[98]⟩:ByteArray) (wrap64 (1500+bt295.1))).bind fun af=>(some (a3,a9,af)))) else (if a8=1 then ((spec_l1Text.f a7 a2 ap).bind fun bt298=>((spec_l1Text.f a7 a2 bt298.2).bind fun bt300=>((spec_l1Text.f a7 a2 bt300.2).bind fun bt302=>(some (bt298.1,bt300.1,bt302.1))))) else (some (a3,a9,aH))))=some (r1,r2,r3):=H;have bg:=Aside0.mk bv;clear bv
          by_cases aq:a8=0
          ·rw [if_pos aq] at H
           have bE:(a8==0)=true:=beq_iff_eq.mpr aq;have bF:(a8 != 0)=false:=bne_eq_false_iff_eq.mpr aq;clear aq;replace H:=Option.bind_eq_some_iff.mp H;obtain ⟨⟨aI,bG⟩,bw,H⟩:=H;replace H:((spec_l1Many.f a7 (⟨#[98]⟩:ByteArray) (wrap64 (1500+aI))).bind fun af=>(some (a3,a9,af)))=some (r1,r2,r3):=H;have A34:=Aside0.mk bw;clear bw;replace H:=Option.bind_eq_some_iff.mp H;obtain ⟨af,bz,H⟩:=H;replace H:(some (a3,a9,af))=some (r1,r2,r3):=H;have A35:=Aside0.mk bz;clear bz;simp only [Option.some.injEq,Prod.mk.injEq] at H;obtain ⟨rfl,rfl,rfl⟩:=H
           go_wp2_with (first|((with_reducible refine gc 33 rfl ?_);refine gl (some 45) _ (#[.pointer (some ⟨g278,0,none⟩),.int .i64 24]) Tryd.func33 ?_;(with_reducible refine (spec_l1Rd_pick.calls a7 g278 a2 av 24 a8 ap w _ ?side1 ?side2 bg.out).mono ?_);(case side1=>exact iq118 a1.out);(case side2=>exact bq118 HB.out a1.out);rintro e w36 ⟨rfl,hi,hb,hk⟩;refine ⟨_,rfl,?_⟩;refine Ya2 (hb) (hi) ?_;clear HB a1;intro HB a1;(try clear hb);(try clear hb2);(try clear hk);(try clear hi))|((with_reducible refine gc 33 rfl ?_);refine gl (some 49) _ (#[.pointer (some ⟨g278,0,none⟩),.int .i64 2]) Tryd.func33 ?_;(with_reducible refine (spec_l1Rd_pick.calls a7 g278 a2 ap 2 aI bG w _ ?side1 ?side2 A34.out).mono ?_);(case side1=>exact iq118 a1.out);(case side2=>exact bq118 HB.out a1.out);rintro e w37 ⟨rfl,hi,hb,hk⟩;refine ⟨_,rfl,?_⟩;refine Ya2 (hb) (hi) ?_;clear HB a1;intro HB a1;(try clear hb);(try clear hb2);(try clear hk);(try clear hi))|((with_reducible refine gc 35 rfl ?_);refine gl (some 51) _ (#[.string (⟨#[98]⟩:ByteArray),.int .i64 (wrap64 (1500+aI))]) Tryd.func35 ?_;(with_reducible refine (spec_l1Many.calls a7 (⟨#[98]⟩:ByteArray) (wrap64 (1500+aI)) af _ A35.out).mono ?_);rintro e w' ⟨rfl,⟨nd,rfl⟩⟩;refine ⟨_,rfl,?_⟩))
           go_ret3
           exact ⟨Ye2,bq118 HB.out a1.out⟩
          ·rw [if_neg aq] at H
           have bE:(a8==0)=false:=beq_eq_false_iff_ne.mpr aq;have bF:(a8 != 0)=true:=bne_iff_ne.mpr aq
           by_cases ar:a8=1
           ·rw [if_pos ar] at H
            have bH:(a8==1)=true:=beq_iff_eq.mpr ar;have bI:(a8 != 1)=false:=bne_eq_false_iff_eq.mpr ar;clear ar;replace H:=Option.bind_eq_some_iff.mp H;obtain ⟨⟨aJ,bh⟩,bA,H⟩:=H;replace H:((spec_l1Text.f a7 a2 bh).bind fun bt300=>((spec_l1Text.f a7 a2 bt300.2).bind fun bt302=>(some (aJ,bt300.1,bt302.1))))=some (r1,r2,r3):=H;have A39:=Aside0.mk bA;clear bA;replace H:=Option.bind_eq_some_iff.mp H;obtain ⟨⟨bi,bj⟩,bB,H⟩:=H;replace H:((spec_l1Text.f a7 a2 bj).bind fun bt302=>(some (aJ,bi,bt302.1)))=some (r1,r2,r3):=H;have A40:=Aside0.mk bB;clear bB;replace H:=Option.bind_eq_some_iff.mp H;obtain ⟨⟨bC,bJ⟩,bD,H⟩:=H;replace H:(some (aJ,bi,bC))=some (r1,r2,r3):=H;have A41:=Aside0.mk bD;clear bD;simp only [Option.some.injEq,Prod.mk.injEq] at H;obtain ⟨rfl,rfl,rfl⟩:=H
            go_wp2_with (first|((with_reducible refine gc 33 rfl ?_);refine gl (some 45) _ (#[.pointer (some ⟨g278,0,none⟩),.int .i64 24]) Tryd.func33 ?_;(with_reducible refine (spec_l1Rd_pick.calls a7 g278 a2 av 24 a8 ap w _ ?side1 ?side2 bg.out).mono ?_);(case side1=>exact iq118 a1.out);(case side2=>exact bq118 HB.out a1.out);rintro e w42 ⟨rfl,hi,hb,hk⟩;refine ⟨_,rfl,?_⟩;refine Ya2 (hb) (hi) ?_;clear HB a1;intro HB a1;(try clear hb);(try clear hb2);(try clear hk);(try clear hi))|((with_reducible refine gc 36 rfl ?_);refine gl (some 55) _ (#[.pointer (some ⟨g278,0,none⟩)]) Tryd.func36 ?_;(with_reducible refine (spec_l1Text.calls a7 g278 a2 ap aJ bh w _ ?side1 ?side2 A39.out).mono ?_);(case side1=>exact iq118 a1.out);(case side2=>exact bq118 HB.out a1.out);rintro e w43 ⟨rfl,hi,hb,hk⟩;refine ⟨_,rfl,?_⟩;refine Ya2 (hb) (hi) ?_;clear HB a1;intro HB a1;(try clear hb);(try clear hb2);(try clear hk);(try clear hi))|((with_reducible refine gc 36 rfl ?_);refine gl (some 57) _ (#[.pointer (some ⟨g278,0,none⟩)]) Tryd.func36 ?_;(with_reducible refine (spec_l1Text.calls a7 g278 a2 bh bi bj w _ ?side1 ?side2 A40.out).mono ?_);(case side1=>exact iq118 a1.out);(case side2=>exact bq118 HB.out a1.out);rintro e w44 ⟨rfl,hi,hb,hk⟩;refine ⟨_,rfl,?_⟩;refine Ya2 (hb) (hi) ?_;clear HB a1;intro HB a1;(try clear hb);(try clear hb2);(try clear hk);(try clear hi))|((with_reducible refine gc 36 rfl ?_);refine gl (some 59) _ (#[.pointer (some ⟨g278,0,none⟩)]) Tryd.func36 ?_;(with_reducible refine (spec_l1Text.calls a7 g278 a2 bj bC bJ w _ ?side1 ?side2 A41.out).mono ?_);(case side1=>exact iq118 a1.out);(case side2=>exact bq118 HB.out a1.out);rintro e w45 ⟨rfl,hi,hb,hk⟩;refine ⟨_,rfl,?_⟩;refine Ya2 (hb) (hi) ?_;clear HB a1;intro HB a1;(try clear hb);(try clear hb2);(try clear hk);(try clear hi)))
            go_ret3
            exact ⟨Ye2,bq118 HB.out a1.out⟩
           ·rw [if_neg ar] at H
            have bH:(a8==1)=false:=beq_eq_false_iff_ne.mpr ar;have bI:(a8 != 1)=true:=bne_iff_ne.mpr ar;simp only [Option.some.injEq,Prod.mk.injEq] at H;obtain ⟨rfl,rfl,rfl⟩:=H
            go_wp2_with (first|((with_reducible refine gc 33 rfl ?_);refine gl (some 45) _ (#[.pointer (some ⟨g278,0,none⟩),.int .i64 24]) Tryd.func33 ?_;(with_reducible refine (spec_l1Rd_pick.calls a7 g278 a2 av 24 a8 ap w _ ?side1 ?side2 bg.out).mono ?_);(case side1=>exact iq118 a1.out);(case side2=>exact bq118 HB.out a1.out);rintro e w46 ⟨rfl,hi,hb,hk⟩;refine ⟨_,rfl,?_⟩;refine Ya2 (hb) (hi) ?_;clear HB a1;intro HB a1;(try clear hb);(try clear hb2);(try clear hk);(try clear hi)))
            go_ret3
            exact ⟨Ye2,bq118 HB.out a1.out⟩

end Go.Proofs.YtkmfnmeilooogaaDoor.P


namespace Go.Proofs.YtkmfnmeilooogaaDoor.P
open Go.RowKit Go.Proofs.YtkmfnmeilooogaaDoorW.PrintWords Go.Proofs.YtkmfnmeilooogaaDoorW.PrintLast Go.Proofs.YtkmfnmeilooogaaDoorW.PrintMore
attribute [local go_sem] max2_int min2_int max_two min_two max_three min_three max_four min_four
set_option linter.unusedVariables false
set_option linter.unusedSimpArgs false

mutual
def laws_FnMergeText.j0:Nat→ByteArray→ByteArray→ByteArray→Bool→Bool→Option (Bool)
 | 0,_,_,_,_,_=>none
 | k+1,x3,x4,x5,x7,x63=>if x63=true then (some false) else (if (x3.size:Int)>1500 then (laws_FnMergeText.j1 k x3 x4 x5 x7 true) else (if (x4.size:Int)>1500 then (laws_FnMergeText.j1 k x3 x4 x5 x7 true) else (laws_FnMergeText.j1 k x3 x4 x5 x7 (decide ((x5.size:Int)>1500)))))
def laws_FnMergeText.j1:Nat→ByteArray→ByteArray→ByteArray→Bool→Bool→Option (Bool)
 | 0,_,_,_,_,_=>none
 | k+1,x3,x4,x5,x7,x76=>if x76=true then (some (!x7)) else ((impl_MergeText.f x3 x3 x5).bind fun bt313=>((impl_MergeText.f x3 x4 x4).bind fun bt315=>(if bt313.2=true then (if bt315.2=true then (if bt313.1.toList=x5.toList then (some (bt315.1.toList==x4.toList)) else (some false)) else (some false)) else (some false))))
end
def laws_FnMergeText.f (k:Nat) (l0:List Int):Option (Bool):=if (l0.length:Int)>1048576 then (some true) else ((spec_DrawMergeText.f k l0).bind fun bt304=>((impl_MergeText.f bt304.1 bt304.2.1 bt304.2.2).bind fun bt307=>((impl_MergeText.f bt304.1 bt304.2.2 bt304.2.1).bind fun bt309=>((spec_MergeText.f k bt304.1 bt304.2.1 bt304.2.2).bind fun bt311=>(if bt307.1.toList=bt309.1.toList then (if (bt307.2 != bt309.2)=true then (laws_FnMergeText.j0 k bt304.1 bt304.2.1 bt304.2.2 bt307.2 true) else (if bt307.1.toList=bt311.1.toList then (laws_FnMergeText.j0 k bt304.1 bt304.2.1 bt304.2.2 bt307.2 (bt307.2 != bt311.2)) else (laws_FnMergeText.j0 k bt304.1 bt304.2.1 bt304.2.2 bt307.2 true))) else (laws_FnMergeText.j0 k bt304.1 bt304.2.1 bt304.2.2 bt307.2 true))))))
theorem laws_FnMergeText.mono_l:∀ k,(∀ y0 y1 y2 y3 y4,LeO (laws_FnMergeText.j0 k y0 y1 y2 y3 y4) (laws_FnMergeText.j0 (k+1) y0 y1 y2 y3 y4))∧(∀ y0 y1 y2 y3 y4,LeO (laws_FnMergeText.j1 k y0 y1 y2 y3 y4) (laws_FnMergeText.j1 (k+1) y0 y1 y2 y3 y4))
 | 0=>⟨fun _ _ _ _ _ r h=>by simp [laws_FnMergeText.j0] at h,fun _ _ _ _ _ r h=>by simp [laws_FnMergeText.j1] at h⟩
 | k + 1 => by
  obtain ⟨ih0,ih1⟩:=laws_FnMergeText.mono_l k;refine ⟨?_,?_⟩
  ·intro y0 y1 y2 y3 y4
   unfold laws_FnMergeText.j0
   repeat' first
   | (with_reducible exact ih0 _ _ _ _ _)
   | (with_reducible exact ih1 _ _ _ _ _)
   | (with_reducible exact spec_DrawMergeText.mono _ _)
   | (with_reducible exact spec_MergeText.mono _ _ _ _)
   | (with_reducible exact LeO.refl _)
   | (with_reducible exact LeO.none _)
   | (with_reducible refine LeO.ite ?_ ?_)
   | (with_reducible refine LeO.bind ?_ (fun _ => ?_))
   | exact ih0 _ _ _ _ _
   | exact ih1 _ _ _ _ _
   | exact spec_DrawMergeText.mono _ _
   | exact spec_MergeText.mono _ _ _ _
   | exact LeO.none _
   | refine LeO.ite ?_ ?_
   | refine LeO.bind ?_ (fun _ => ?_)
  ·intro y0 y1 y2 y3 y4
   unfold laws_FnMergeText.j1
   repeat' first
   | (with_reducible exact ih0 _ _ _ _ _)
   | (with_reducible exact ih1 _ _ _ _ _)
   | (with_reducible exact spec_DrawMergeText.mono _ _)
   | (with_reducible exact spec_MergeText.mono _ _ _ _)
   | (with_reducible exact LeO.refl _)
   | (with_reducible exact LeO.none _)
   | (with_reducible refine LeO.ite ?_ ?_)
   | (with_reducible refine LeO.bind ?_ (fun _ => ?_))
   | exact ih0 _ _ _ _ _
   | exact ih1 _ _ _ _ _
   | exact spec_DrawMergeText.mono _ _
   | exact spec_MergeText.mono _ _ _ _
   | exact LeO.none _
   | refine LeO.ite ?_ ?_
   | refine LeO.bind ?_ (fun _ => ?_)
theorem laws_FnMergeText.mono:∀ a0 k,LeO (laws_FnMergeText.f k a0) (laws_FnMergeText.f (k+1) a0):=by
 intro a0 k;obtain ⟨ih0,ih1⟩:=laws_FnMergeText.mono_l k
 unfold laws_FnMergeText.f
 repeat' first
   | (with_reducible exact ih0 _ _ _ _ _)
   | (with_reducible exact ih1 _ _ _ _ _)
   | (with_reducible exact spec_DrawMergeText.mono _ _)
   | (with_reducible exact spec_MergeText.mono _ _ _ _)
   | (with_reducible exact LeO.refl _)
   | (with_reducible exact LeO.none _)
   | (with_reducible refine LeO.ite ?_ ?_)
   | (with_reducible refine LeO.bind ?_ (fun _ => ?_))
   | exact ih0 _ _ _ _ _
   | exact ih1 _ _ _ _ _
   | exact spec_DrawMergeText.mono _ _
   | exact spec_MergeText.mono _ _ _ _
   | exact LeO.none _
   | refine LeO.ite ?_ ?_
   | refine LeO.bind ?_ (fun _ => ?_)
set_option maxHeartbeats 8000000 in
set_option maxRecDepth 100000 in
theorem laws_FnMergeText.calls (k : Nat) (A0 : Option Addr) (c0 : Nat) (l0 : List Int) (r : Bool) (w : World) (hg : GOK w) (hr0 : Kd.C (Kd.int .u8) w A0 l0.length l0) (hc0 : l0.length ≤ c0) (h : laws_FnMergeText.f k l0 = some r) (hrt : r = true) :
  Calls Tryd.prog 4 #[.slice A0 l0.length c0] w fun e w'=>e = .returned (.bool r)∧Below w.heap.size w w':=by
 have HG:=Aside0.mk hg;clear hg;have HR0:=Aside0.mk hr0;have HC0:=Aside0.mk hc0;clear hr0 hc0;have HB:=Aside0.mk (Below.refl w.heap.size w);have H:(if (l0.length:Int)>1048576 then (some true) else ((spec_DrawMergeText.f k l0).bind fun bt304=>((impl_MergeText.f bt304.1 bt304.2.1 bt304.2.2).bind fun bt307=>((impl_MergeText.f bt304.1 bt304.2.2 bt304.2.1).bind fun bt309=>((spec_MergeText.f k bt304.1 bt304.2.1 bt304.2.2).bind fun bt311=>(if bt307.1.toList=bt309.1.toList then (if (bt307.2 != bt309.2)=true then (laws_FnMergeText.j0 k bt304.1 bt304.2.1 bt304.2.2 bt307.2 true) else (if bt307.1.toList=bt311.1.toList then (laws_FnMergeText.j0 k bt304.1 bt304.2.1 bt304.2.2 bt307.2 (bt307.2 != bt311.2)) else (laws_FnMergeText.j0 k bt304.1 bt304.2.1 bt304.2.2 bt307.2 true))) else (laws_FnMergeText.j0 k bt304.1 bt304.2.1 bt304.2.2 bt307.2 true)))))))=some r:=h;clear h
 by_cases c2:(l0.length:Int)>1048576
 ·rw [if_pos c2] at H
  have aq:decide (1048576<(l0.length:Int))=true:=decide_eq_true c2;have ar:decide (1048576<l0.length)=true:=decide_eq_true (by omega);clear c2;obtain rfl:=Option.some.inj H
  go_enter Tryd.func4,Tryd.ntmps4
  go_wp2
  go_ret
  exact ⟨Ye2,be HB.out⟩
 ·rw [if_neg c2] at H
  have aq:decide (1048576<(l0.length:Int))=false:=decide_eq_false c2;have ar:decide (1048576<l0.length)=false:=decide_eq_false (by omega);clear c2;replace H:=Option.bind_eq_some_iff.mp H;obtain ⟨⟨a2,a1,a3⟩,A30,H⟩:=H;replace H:((impl_MergeText.f a2 a1 a3).bind fun bt307=>((impl_MergeText.f a2 a3 a1).bind fun bt309=>((spec_MergeText.f k a2 a1 a3).bind fun bt311=>(if bt307.1.toList=bt309.1.toList then (if (bt307.2 != bt309.2)=true then (laws_FnMergeText.j0 k a2 a1 a3 bt307.2 true) else (if bt307.1.toList=bt311.1.toList then (laws_FnMergeText.j0 k a2 a1 a3 bt307.2 (bt307.2 != bt311.2)) else (laws_FnMergeText.j0 k a2 a1 a3 bt307.2 true))) else (laws_FnMergeText.j0 k a2 a1 a3 bt307.2 true)))))=some r:=H;have A3:=Aside0.mk A30;clear A30;replace H:=Option.bind_eq_some_iff.mp H;obtain ⟨⟨a5,a4⟩,A40,H⟩:=H;replace H:((impl_MergeText.f a2 a3 a1).bind fun bt309=>((spec_MergeText.f k a2 a1 a3).bind fun bt311=>(if a5.toList=bt309.1.toList then (if (a4 != bt309.2)=true then (laws_FnMergeText.j0 k a2 a1 a3 a4 true) else (if a5.toList=bt311.1.toList then (laws_FnMergeText.j0 k a2 a1 a3 a4 (a4 != bt311.2)) else (laws_FnMergeText.j0 k a2 a1 a3 a4 true))) else (laws_FnMergeText.j0 k a2 a1 a3 a4 true))))=some r:=H;have A4:=Aside0.mk A40;clear A40;replace H:=Option.bind_eq_some_iff.mp H;obtain ⟨⟨ab,a7⟩,A50,H⟩:=H;replace H:((spec_MergeText.f k a2 a1 a3).bind fun bt311=>(if a5.toList=ab.toList then (if (a4 != a7)=true then (laws_FnMergeText.j0 k a2 a1 a3 a4 true) else (if a5.toList=bt311.1.toList then (laws_FnMergeText.j0 k a2 a1 a3 a4 (a4 != bt311.2)) else (laws_FnMergeText.j0 k a2 a1 a3 a4 true))) else (laws_FnMergeText.j0 k a2 a1 a3 a4 true)))=some r:=H;have A5:=Aside0.mk A50;clear A50;replace H:=Option.bind_eq_some_iff.mp H;obtain ⟨⟨ac,au⟩,A60,H⟩:=H;replace H:(if a5.toList=ab.toList then (if (a4 != a7)=true then (laws_FnMergeText.j0 k a2 a1 a3 a4 true) else (if a5.toList=ac.toList then (laws_FnMergeText.j0 k a2 a1 a3 a4 (a4 != au)) else (laws_FnMergeText.j0 k a2 a1 a3 a4 true))) else (laws_FnMergeText.j0 k a2 a1 a3 a4 true))=some r:=H;have A6:=Aside0.mk A60;clear A60;have av:=Aside0.mk H;clear H
  go_enter Tryd.func4,Tryd.ntmps4
  go_upto_region 7 with (first|((with_reducible refine gc 10 rfl ?_);refine gl (some 21) _ (#[.slice A0 l0.length c0]) Tryd.func10 ?_;(with_reducible refine (spec_DrawMergeText.calls k _ _ l0 a2 a1 a3 _ ?side1 ?side2 A3.out).mono ?_);(case side1=>exact cb HR0.out);(case side2=>exact HC0.out);rintro e w8 ⟨rfl,hb⟩;refine ⟨_,rfl,?_⟩;refine Ya1 (below_step (be HB.out) hb) ?_;clear HB;intro HB;(try clear hb);(try clear hb2);(try clear hk);(try clear hi))|((with_reducible refine gc 9 rfl ?_);refine gl (some 29) _ (#[.string a2,.string a1,.string a3]) Tryd.func9 ?_;(with_reducible refine (impl_MergeText.calls a2 a1 a3 a5 a4 _ ?sideG A4.out).mono ?_);(case sideG=>exact gk HG.out HB.out);rintro e w9 ⟨rfl,hb⟩;refine ⟨_,rfl,?_⟩;refine Ya1 (below_step (be HB.out) hb) ?_;clear HB;intro HB;(try clear hb);(try clear hb2);(try clear hk);(try clear hi))|((with_reducible refine gc 9 rfl ?_);refine gl (some 36) _ (#[.string a2,.string a3,.string a1]) Tryd.func9 ?_;(with_reducible refine (impl_MergeText.calls a2 a3 a1 ab a7 _ ?sideG A5.out).mono ?_);(case sideG=>exact gk HG.out HB.out);rintro e w10 ⟨rfl,hb⟩;refine ⟨_,rfl,?_⟩;refine Ya1 (below_step (be HB.out) hb) ?_;clear HB;intro HB;(try clear hb);(try clear hb2);(try clear hk);(try clear hi))|((with_reducible refine gc 8 rfl ?_);refine gl (some 43) _ (#[.string a2,.string a1,.string a3]) Tryd.func8 ?_;(with_reducible refine (spec_MergeText.calls k a2 a1 a3 ac au _ A6.out).mono ?_);rintro e w11 ⟨rfl,hb⟩;refine ⟨_,rfl,?_⟩;refine Ya1 (below_step (be HB.out) hb) ?_;clear HB;intro HB;(try clear hb);(try clear hb2);(try clear hk);(try clear hi)))
  (try simp only [Act.put,List.setIfInBounds_toArray,List.set_cons_zero,List.set_cons_succ])
  go_cut [63] (fun v63 wc => ∃ (kq:Nat) (aj:Bool),v63 = .bool aj∧Aside0 (laws_FnMergeText.j0 kq a2 a1 a3 a4 aj=some r)∧Aside0 (kq≤k)∧Aside0 (Below w.heap.size w wc))
  case first =>
   have H:=av.out;clear av
   by_cases a9:a5.toList=ab.toList
   ·rw [if_pos a9] at H
    have ad:(a5.toList==ab.toList)=true:=beq_iff_eq.mpr a9;have aw:(a5.toList != ab.toList)=false:=bne_eq_false_iff_eq.mpr a9;clear a9;(first|rw [ad]|(simp only [i64_w,i32_w];rw [ad])|skip)
    by_cases a6:(a4 != a7)=true
    ·rw [if_pos a6] at H
     have ax:(a4 != a7)=true:=a6;(try (have ay:decide (a4=a7)=false:=by simpa using a6));(try (have az:(a4==a7)=false:=by simpa using a6));(try (have c13b3:¬ (a4=a7):=by simpa using a6));clear a6;have H':=Aside0.mk H;clear H
     go_wp2
     go_meet
     case rel=>exact ⟨_,(true),Ye1,H',⟨by first|omega|exact Nat.le_refl _⟩,⟨be HB.out⟩⟩
    ·rw [if_neg a6] at H
     have ax:(a4 != a7)=false:=by simpa using a6
     (try (have ay:decide (a4=a7)=true:=by simpa using a6));(try (have az:(a4==a7)=true:=by simpa using a6));clear a6
     by_cases aa:a5.toList=ac.toList
     ·rw [if_pos aa] at H
      have aA:(a5.toList==ac.toList)=true:=beq_iff_eq.mpr aa;have aB:(a5.toList != ac.toList)=false:=bne_eq_false_iff_eq.mpr aa;clear aa;have H':=Aside0.mk H;clear H
      go_wp2
      go_meet
      case rel=>exact ⟨_,((a4 != au)),Ye1,H',⟨by first|omega|exact Nat.le_refl _⟩,⟨be HB.out⟩⟩
     ·rw [if_neg aa] at H
      have aA:(a5.toList==ac.toList)=false:=beq_eq_false_iff_ne.mpr aa;have aB:(a5.toList != ac.toList)=true:=bne_iff_ne.mpr aa;have H':=Aside0.mk H;clear H
      go_wp2
      go_meet
      case rel=>exact ⟨_,(true),Ye1,H',⟨by first|omega|exact Nat.le_refl _⟩,⟨be HB.out⟩⟩
   ·rw [if_neg a9] at H
    have ad:(a5.toList==ab.toList)=false:=beq_eq_false_iff_ne.mpr a9;have aw:(a5.toList != ab.toList)=true:=bne_iff_ne.mpr a9;(first|rw [ad]|(simp only [i64_w,i32_w];rw [ad])|skip);have H':=Aside0.mk H;clear H
    go_wp2
    go_meet
    case rel=>exact ⟨_,(true),Ye1,H',⟨by first|omega|exact Nat.le_refl _⟩,⟨be HB.out⟩⟩
  case rest =>
   clear av;(try clear c1);(try clear c2);(try clear aq);(try clear ar);(try clear p2);(try clear c4);(try clear c8);(try clear c9);(try clear c10);(try clear a9);(try clear ad);(try clear aw);(try clear a6);(try clear ax);(try clear ay);(try clear az);(try clear aa);(try clear aA);(try clear aB);obtain ⟨kq,aj,rfl,HA,HJ6,HB⟩:=hcut
   cases kq with
   | zero=>exact absurd HA.out (by simp [laws_FnMergeText.j0])
   | succ ak =>
    have H:=HA.out;clear HA;simp only [laws_FnMergeText.j0] at H
    by_cases ai:aj=true
    ·subst ai
     have H1:(some false)=some r:=by rw [if_pos rfl] at H;exact H
     clear H;have H:=H1;clear H1;exact absurd ((Option.some.inj H).trans hrt) (by decide)
    ·replace ai:=Bool.eq_false_iff.mpr ai;subst ai
     have H1:(if (a2.size:Int)>1500 then (laws_FnMergeText.j1 ak a2 a1 a3 a4 true) else (if (a1.size:Int)>1500 then (laws_FnMergeText.j1 ak a2 a1 a3 a4 true) else (laws_FnMergeText.j1 ak a2 a1 a3 a4 (decide ((a3.size:Int)>1500)))))=some r:=by rw [if_neg (show ¬(false=true) by decide)] at H;exact H
     clear H;have H:=H1;clear H1;have aC:=Aside0.mk H;clear H
     go_upto_region 9 with (fail)
     go_cut [76] (fun v76 wc => ∃ (kq:Nat) (al:Bool),v76 = .bool al∧Aside0 (laws_FnMergeText.j1 kq a2 a1 a3 a4 al=some r)∧Aside0 (kq≤ak)∧Aside0 (Below w.heap.size w wc))
     case first =>
      have H:=aC.out;clear aC
      by_cases ae:(a2.size:Int)>1500
      ·rw [if_pos ae] at H
       have ah:decide (1500<(a2.size:Int))=true:=decide_eq_true ae;have aF:decide (1500<a2.size)=true:=decide_eq_true (by omega);clear ae;(first|rw [ah]|(simp only [i64_w,i32_w];rw [ah])|skip);have H':=Aside0.mk H;clear H
       go_wp2
       go_meet
       case rel=>exact ⟨_,(true),Ye1,H',⟨by have:=HJ6.out;first|omega|exact Nat.le_refl _⟩,⟨be HB.out⟩⟩
      ·rw [if_neg ae] at H
       have ah:decide (1500<(a2.size:Int))=false:=decide_eq_false ae;have aF:decide (1500<a2.size)=false:=decide_eq_false (by omega);clear ae;(first|rw [ah]|(simp only [i64_w,i32_w];rw [ah])|skip)
       by_cases af:(a1.size:Int)>1500
       ·rw [if_pos af] at H
        have aG:decide (1500<(a1.size:Int))=true:=decide_eq_true af;have aH:decide (1500<a1.size)=true:=decide_eq_true (by omega);clear af;have H':=Aside0.mk H;clear H
        go_wp2
        go_meet
        case rel=>exact ⟨_,(true),Ye1,H',⟨by have:=HJ6.out;first|omega|exact Nat.le_refl _⟩,⟨be HB.out⟩⟩
       ·rw [if_neg af] at H
        have aG:decide (1500<(a1.size:Int))=false:=decide_eq_false af;have aH:decide (1500<a1.size)=false:=decide_eq_false (by omega);clear af;have H':=Aside0.mk H;clear H
        go_wp2
        go_meet
        case rel=>exact ⟨_,(decide ((a3.size:Int)>1500)),Ye1,H',⟨by have:=HJ6.out;first|omega|exact Nat.le_refl _⟩,⟨be HB.out⟩⟩
     case rest =>
      clear aC;(try clear c1);(try clear c2);(try clear aq);(try clear ar);(try clear p2);(try clear c4);(try clear c8);(try clear c9);(try clear c10);(try clear a9);(try clear ad);(try clear aw);(try clear a6);(try clear ax);(try clear ay);(try clear az);(try clear aa);(try clear aA);(try clear aB);(try clear ai);(try clear ae);(try clear ah);(try clear aF);(try clear af);(try clear aG);(try clear aH);(try clear p2);obtain ⟨kq,al,rfl,HA,HJ15,HB⟩:=hcut
      cases kq with
      | zero=>exact absurd HA.out (by simp [laws_FnMergeText.j1])
      | succ kj15 =>
       have H:=HA.out;clear HA;simp only [laws_FnMergeText.j1] at H
       by_cases am:al=true
       ·subst am
        have H1:(some (!a4))=some r:=by rw [if_pos rfl] at H;exact H
        clear H;have H:=H1;clear H1;obtain rfl:=Option.some.inj H
        go_wp2
        go_ret
        exact ⟨Ye2,be HB.out⟩
       ·replace am:=Bool.eq_false_iff.mpr am;subst am
        have H1:((impl_MergeText.f a2 a2 a3).bind fun bt313=>((impl_MergeText.f a2 a1 a1).bind fun bt315=>(if bt313.2=true then (if bt315.2=true then (if bt313.1.toList=a3.toList then (some (bt315.1.toList==a1.toList)) else (some false)) else (some false)) else (some false))))=some r:=by rw [if_neg (show ¬(false=true) by decide)] at H;exact H
        clear H;have H:=H1;clear H1;replace H:=Option.bind_eq_some_iff.mp H;obtain ⟨⟨a8,aD⟩,aI,H⟩:=H;replace H:((impl_MergeText.f a2 a1 a1).bind fun bt315=>(if aD=true then (if bt315.2=true then (if a8.toList=a3.toList then (some (bt315.1.toList==a1.toList)) else (some false)) else (some false)) else (some false)))=some r:=H;have A20:=Aside0.mk aI;clear aI;replace H:=Option.bind_eq_some_iff.mp H;obtain ⟨⟨an,aE⟩,aJ,H⟩:=H;replace H:(if aD=true then (if aE=true then (if a8.toList=a3.toList then (some (an.toList==a1.toList)) else (some false)) else (some false)) else (some false))=some r:=H;have A21:=Aside0.mk aJ;clear aJ
        by_cases ao:aD=true
        ·subst ao
         have H1:(if aE=true then (if a8.toList=a3.toList then (some (an.toList==a1.toList)) else (some false)) else (some false))=some r:=by rw [if_pos rfl] at H;exact H
         clear H;have H:=H1;clear H1
         by_cases ap:aE=true
         ·subst ap
          have H1:(if a8.toList=a3.toList then (some (an.toList==a1.toList)) else (some false))=some r:=by rw [if_pos rfl] at H;exact H
          clear H;have H:=H1;clear H1
          by_cases ag:a8.toList=a3.toList
          ·rw [if_pos ag] at H
           have aK:(a8.toList==a3.toList)=true:=beq_iff_eq.mpr ag;have aL:(a8.toList != a3.toList)=false:=bne_eq_false_iff_eq.mpr ag;clear ag;obtain rfl:=Option.some.inj H
           go_wp2_with (first|((with_reducible refine gc 9 rfl ?_);refine gl (some 83) _ (#[.string a2,.string a2,.string a3]) Tryd.func9 ?_;(with_reducible refine (impl_MergeText.calls a2 a2 a3 a8 true _ ?sideG A20.out).mono ?_);(case sideG=>exact gk HG.out HB.out);rintro e w25 ⟨rfl,hb⟩;refine ⟨_,rfl,?_⟩;refine Ya1 (below_step (be HB.out) hb) ?_;clear HB;intro HB;(try clear hb);(try clear hb2);(try clear hk);(try clear hi))|((with_reducible refine gc 9 rfl ?_);refine gl (some 90) _ (#[.string a2,.string a1,.string a1]) Tryd.func9 ?_;(with_reducible refine (impl_MergeText.calls a2 a1 a1 an true _ ?sideG A21.out).mono ?_);(case sideG=>exact gk HG.out HB.out);rintro e w26 ⟨rfl,hb⟩;refine ⟨_,rfl,?_⟩;refine Ya1 (below_step (be HB.out) hb) ?_;clear HB;intro HB;(try clear hb);(try clear hb2);(try clear hk);(try clear hi)))
           go_ret
           exact ⟨Ye2,be HB.out⟩
          ·rw [if_neg ag] at H
           have aK:(a8.toList==a3.toList)=false:=beq_eq_false_iff_ne.mpr ag;have aL:(a8.toList != a3.toList)=true:=bne_iff_ne.mpr ag;exact absurd ((Option.some.inj H).trans hrt) (by decide)
         ·replace ap:=Bool.eq_false_iff.mpr ap;subst ap
          have H1:(some false)=some r:=by rw [if_neg (show ¬(false=true) by decide)] at H;exact H
          clear H;have H:=H1;clear H1;exact absurd ((Option.some.inj H).trans hrt) (by decide)
        ·replace ao:=Bool.eq_false_iff.mpr ao;subst ao
         have H1:(some false)=some r:=by rw [if_neg (show ¬(false=true) by decide)] at H;exact H
         clear H;have H:=H1;clear H1;exact absurd ((Option.some.inj H).trans hrt) (by decide)
end Go.Proofs.YtkmfnmeilooogaaDoor.P

