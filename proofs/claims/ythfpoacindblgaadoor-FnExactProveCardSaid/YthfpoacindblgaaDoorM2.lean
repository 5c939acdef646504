-- Printed for this claim by a small program of this session (kprint.py), which drives the kit's print program.
import Derived.Test.YthfpoacindblgaaDoorProg
import Derived.Below
import Derived.Deep.Draws
import Derived.Deep.AppendLies
import Derived.Maps.AppendAt
import Derived.OwnWalk
import Derived.Laws.BytesArg
import Derived.Laws.MakeOwn
import Derived.Laws.OwnMore
import Derived.Deep.OwnRows
import Derived.Tactics
import Derived.Lib.ConvBytes
import Derived.Laws.Slices
import Derived.WalkKit
import Derived.KernelRfl
import Derived.RowKit3
import Derived.Deep.LoopGhost
import Derived.Deep.QuietTactic
import Derived.BigQuiet
import Derived.WideLaws
import Derived.Deep.DeepCutAuto
import Derived.Deep.CutBlock
import Derived.Deep.RegionHeld3
import Derived.Laws.Rows
import Derived.Lib.AppendStr
import Derived.ArgAppend
import Derived.Laws.IdiomCopy
import Derived.OrdersHeld
import Derived.Laws.BitsLemmas
import Derived.RowKit
import Derived.Test.YthfpoacindblgaaDoorM1
namespace Go.Proofs.YthfpoacindblgaaDoor.P
open Go.RowKit Go.Proofs.YthfpoacindblgaaDoorW.PrintWords Go.Proofs.YthfpoacindblgaaDoorW.PrintLast Go.Proofs.YthfpoacindblgaaDoorW.PrintMore
attribute [local go_sem] max2_int min2_int max_two min_two max_three min_three max_four min_four
set_option linter.unusedVariables false
set_option linter.unusedSimpArgs false

def errW:Option Int→Value
  | none => .nilIface
  | some c => .iface 0 (.int .i64 c)
theorem errW_none:errW none = .nilIface:=rfl
theorem errW_some (c:Int):errW (some c) = .iface 0 (.int .i64 c):=rfl

/-- The library's variable holds some number. -/
def GOK (w:World):Prop:=∃ m,w.cell? ⟨0,0,none⟩=some (.int .i64 m)
theorem GOK.below {w w':World} (h:GOK w) (hb:Below w.heap.size w w'):GOK w':=by
  obtain ⟨m,hm⟩:=h
  exact ⟨m,(hb.cell (World.block_lt_of_cell? w _ hm)).trans hm⟩

theorem info5:(Tryd.prog.info? 5).map (fun i=>(i.zero,i.size,i.bytes))=some (some (.int .u8 0),1,1):=by kernel_rfl
theorem info9:(Tryd.prog.info? 9).map (fun i=>(i.zero,i.size,i.bytes))=some (some (.string ⟨#[]⟩),1,16):=by kernel_rfl
theorem info55:(Tryd.prog.info? 55).map (fun i=>(i.zero,i.size,i.bytes))=some (some (.agg #[(.string ⟨#[]⟩),(.string ⟨#[]⟩),(.bool false)]),3,40):=by kernel_rfl
-- the values' own types
structure S61 where
  f0:ByteArray
  f1:ByteArray
  f2:Bool
def z61:S61:=⟨(⟨#[]⟩:ByteArray),(⟨#[]⟩:ByteArray),false⟩
def k61:Kd S61:=Kd.iso (Kd.pair Kd.string (Kd.pair Kd.string Kd.bool)) (fun x:S61=>(x.f0,x.f1,x.f2))
theorem k61_heap:Kd.Heap k61:=Kd.heap_iso _ (Kd.heap_pair Kd.heap_string (Kd.heap_pair Kd.heap_string Kd.heap_bool))
theorem k61_open {w:World} {x:S61} {cs:List Value} (h:k61.K w x cs):cs = [.string x.f0,.string x.f1,.bool x.f2]:=by
  obtain ⟨_,_,rfl,rfl,⟨_,_,rfl,rfl,rfl⟩⟩:=h
  exact rfl
theorem k61_openM {w:World} {base:Nat} {ok:Nat→Prop} {x:S61} {cs:List Value} (h:k61.M w base ok x cs):cs = [.string x.f0,.string x.f1,.bool x.f2]:=by
  obtain ⟨_,_,rfl,rfl,⟨_,_,rfl,rfl,rfl⟩⟩:=h
  exact rfl
theorem k61_mk (w:World) (x:S61)  : k61.K w x [.string x.f0,.string x.f1,.bool x.f2]:=⟨[.string x.f0],[.string x.f1,.bool x.f2],rfl,rfl,⟨[.string x.f1],[.bool x.f2],rfl,rfl,rfl⟩⟩
theorem k61_mkM (w:World) (base:Nat) (ok:Nat→Prop) (x:S61)  : k61.M w base ok x [.string x.f0,.string x.f1,.bool x.f2]:=⟨[.string x.f0],[.string x.f1,.bool x.f2],rfl,rfl,⟨[.string x.f1],[.bool x.f2],rfl,rfl,rfl⟩⟩
theorem k61_mkF (W:World) (ok:Nat→Prop) (x:S61):Kd.FK k61 W ok x [.string x.f0,.string x.f1,.bool x.f2]:=fun W2 _=>k61_mk W2 x
def rd_T61 (xs:List S61) (i:Int):S61:=xs.getD i.toNat z61
theorem at_T61 {w:World} {A:Option Addr} {n:Nat} {xs:List S61} (h:Kd.C k61 w A n xs) (i:Int) (h0:0≤i) (h1:i<n):∃ ad , A=some ad∧w.cell? (ad.add (i.toNat*3))=some (.string (rd_T61 xs i).f0)∧w.cell? ⟨(ad.add (i.toNat*3)).block,(ad.add (i.toNat*3)).off+1,none⟩=some (.string (rd_T61 xs i).f1)∧w.cell? ⟨(ad.add (i.toNat*3)).block,(ad.add (i.toNat*3)).off+2,none⟩=some (.bool (rd_T61 xs i).f2):=by
  obtain ⟨ad,c,e,_,hK,hc0⟩:=Kd.C_get h z61 i h0 h1
  have hc:∀ j u,c[j]? = some u→w.cell? (ad.add (i.toNat*3+j))=some u:=hc0
  obtain rfl:=k61_open hK
  exact ⟨ad,e,hc 0 _ rfl,by rw [←add_field _ _ 1 (by omega)];exact hc 1 _ rfl,by rw [←add_field _ _ 2 (by omega)];exact hc 2 _ rfl⟩

structure S55 where
  f0:ByteArray
  f1:ByteArray
  f2:Bool
def z55:S55:=⟨(⟨#[]⟩:ByteArray),(⟨#[]⟩:ByteArray),false⟩
def k55:Kd S55:=Kd.iso (Kd.pair Kd.string (Kd.pair Kd.string Kd.bool)) (fun x:S55=>(x.f0,x.f1,x.f2))
theorem k55_heap:Kd.Heap k55:=Kd.heap_iso _ (Kd.heap_pair Kd.heap_string (Kd.heap_pair Kd.heap_string Kd.heap_bool))
theorem k55_open {w:World} {x:S55} {cs:List Value} (h:k55.K w x cs):cs = [.string x.f0,.string x.f1,.bool x.f2]:=by
  obtain ⟨_,_,rfl,rfl,⟨_,_,rfl,rfl,rfl⟩⟩:=h
  exact rfl
theorem k55_openM {w:World} {base:Nat} {ok:Nat→Prop} {x:S55} {cs:List Value} (h:k55.M w base ok x cs):cs = [.string x.f0,.string x.f1,.bool x.f2]:=by
  obtain ⟨_,_,rfl,rfl,⟨_,_,rfl,rfl,rfl⟩⟩:=h
  exact rfl
theorem k55_mk (w:World) (x:S55)  : k55.K w x [.string x.f0,.string x.f1,.bool x.f2]:=⟨[.string x.f0],[.string x.f1,.bool x.f2],rfl,rfl,⟨[.string x.f1],[.bool x.f2],rfl,rfl,rfl⟩⟩
theorem k55_mkM (w:World) (base:Nat) (ok:Nat→Prop) (x:S55)  : k55.M w base ok x [.string x.f0,.string x.f1,.bool x.f2]:=⟨[.string x.f0],[.string x.f1,.bool x.f2],rfl,rfl,⟨[.string x.f1],[.bool x.f2],rfl,rfl,rfl⟩⟩
theorem k55_mkF (W:World) (ok:Nat→Prop) (x:S55):Kd.FK k55 W ok x [.string x.f0,.string x.f1,.bool x.f2]:=fun W2 _=>k55_mk W2 x
def rd_T55 (xs:List S55) (i:Int):S55:=xs.getD i.toNat z55
theorem at_T55 {w:World} {A:Option Addr} {n:Nat} {xs:List S55} (h:Kd.C k55 w A n xs) (i:Int) (h0:0≤i) (h1:i<n):∃ ad , A=some ad∧w.cell? (ad.add (i.toNat*3))=some (.string (rd_T55 xs i).f0)∧w.cell? ⟨(ad.add (i.toNat*3)).block,(ad.add (i.toNat*3)).off+1,none⟩=some (.string (rd_T55 xs i).f1)∧w.cell? ⟨(ad.add (i.toNat*3)).block,(ad.add (i.toNat*3)).off+2,none⟩=some (.bool (rd_T55 xs i).f2):=by
  obtain ⟨ad,c,e,_,hK,hc0⟩:=Kd.C_get h z55 i h0 h1
  have hc:∀ j u,c[j]? = some u→w.cell? (ad.add (i.toNat*3+j))=some u:=hc0
  obtain rfl:=k55_open hK
  exact ⟨ad,e,hc 0 _ rfl,by rw [←add_field _ _ 1 (by omega)];exact hc 1 _ rfl,by rw [←add_field _ _ 2 (by omega)];exact hc 2 _ rfl⟩

def rd_L5 (xs:List (List ByteArray)) (i:Int):(List ByteArray):=xs.getD i.toNat ([]:List ByteArray)
theorem at_L5 {w:World} {A:Option Addr} {n:Nat} {xs:List (List ByteArray)} (h:Kd.C (Kd.slice 9 Kd.string) w A n xs) (i:Int) (h0:0≤i) (h1:i<n):∃ ad A0 c0,A=some ad∧w.cell? (ad.add i.toNat)=some (.slice A0 (rd_L5 xs i).length c0)∧(rd_L5 xs i).length≤c0∧Kd.string.C w A0 (rd_L5 xs i).length (rd_L5 xs i):=by
  obtain ⟨ad,c,e,_,hK,hc0⟩:=Kd.C_get h ([]:List ByteArray) i h0 h1
  have hc:∀ j u,c[j]? = some u→w.cell? (ad.add (i.toNat*1+j))=some u:=hc0
  obtain ⟨A0,c0,rfl,l0,g0⟩:=hK
  exact ⟨ad,A0,c0,e,by have hq:=hc 0 _ rfl;rwa [Nat.mul_one,Nat.add_zero] at hq,l0,g0⟩

def rd_L6 (xs:List (List S55)) (i:Int):(List S55):=xs.getD i.toNat ([]:List S55)
theorem at_L6 {w:World} {A:Option Addr} {n:Nat} {xs:List (List S55)} (h:Kd.C (Kd.slice 55 k55) w A n xs) (i:Int) (h0:0≤i) (h1:i<n):∃ ad A0 c0,A=some ad∧w.cell? (ad.add i.toNat)=some (.slice A0 (rd_L6 xs i).length c0)∧(rd_L6 xs i).length≤c0∧k55.C w A0 (rd_L6 xs i).length (rd_L6 xs i):=by
  obtain ⟨ad,c,e,_,hK,hc0⟩:=Kd.C_get h ([]:List S55) i h0 h1
  have hc:∀ j u,c[j]? = some u→w.cell? (ad.add (i.toNat*1+j))=some u:=hc0
  obtain ⟨A0,c0,rfl,l0,g0⟩:=hK
  exact ⟨ad,A0,c0,e,by have hq:=hc 0 _ rfl;rwa [Nat.mul_one,Nat.add_zero] at hq,l0,g0⟩

structure S32 where
  f0:(List S55)
def z32:S32:=⟨([]:List S55)⟩
def k32:Kd S32:=Kd.iso (Kd.slice 55 k55) (fun x:S32=>x.f0)
theorem k32_heap:Kd.Heap k32:=Kd.heap_iso _ (Kd.heap_slice 55 k55_heap)
theorem k32_open {w:World} {x:S32} {cs:List Value} (h:k32.K w x cs):∃ A0 c0,cs = [.slice A0 x.f0.length c0]∧x.f0.length≤c0∧k55.C w A0 x.f0.length x.f0:=by
  obtain ⟨A0,c0,rfl,l0,g0⟩:=h
  exact ⟨A0,c0,rfl,l0,g0⟩
theorem k32_openM {w:World} {base:Nat} {ok:Nat→Prop} {x:S32} {cs:List Value} (h:k32.M w base ok x cs):∃ v0,cs = [v0]∧k55.R 55 w base ok v0 x.f0:=by
  obtain ⟨v0,rfl,g0⟩:=h
  exact ⟨v0,rfl,g0⟩
theorem k32_mk (w:World) (x:S32) {A0:Option Addr} {c0:Nat} (l0:x.f0.length≤c0) (g0:k55.C w A0 x.f0.length x.f0):k32.K w x [.slice A0 x.f0.length c0]:=⟨A0,c0,rfl,l0,g0⟩
theorem k32_mkM (w:World) (base:Nat) (ok:Nat→Prop) (x:S32) {v0:Value} (g0:k55.R 55 w base ok v0 x.f0):k32.M w base ok x [v0]:=⟨v0,rfl,g0⟩
theorem k32_openF {W:World} {ok:Nat→Prop} {x:S32} {cs:List Value} (h:Kd.FK k32 W ok x cs):∃ A0 c0,cs = [.slice A0 x.f0.length c0]∧x.f0.length≤c0∧Kd.F k55 W ok A0 x.f0.length x.f0:=by
  obtain ⟨A0,c0,rfl,l0,_⟩:=k32_open (Kd.FK_now h)
  exact ⟨A0,c0,rfl,l0,(fun W' hW=>by obtain ⟨A0_,c0_,he,l0_,g0_⟩:=k32_open (h W' hW);injection (Option.some.inj (show some (Value.slice A0 x.f0.length c0)=some (Value.slice A0_ x.f0.length c0_) from congrArg (fun l=>l[0]?) he)) with ha_ _ _;rw [ha_];exact g0_)⟩
theorem k32_mkF (W:World) (ok:Nat→Prop) (x:S32) {A0:Option Addr} {c0:Nat} (l0:x.f0.length≤c0) (g0:Kd.F k55 W ok A0 x.f0.length x.f0):Kd.FK k32 W ok x [.slice A0 x.f0.length c0]:=fun W2 hW=>k32_mk W2 x l0 (g0 W2 hW)
def rd_T32 (xs:List S32) (i:Int):S32:=xs.getD i.toNat z32
theorem at_T32 {w:World} {A:Option Addr} {n:Nat} {xs:List S32} (h:Kd.C k32 w A n xs) (i:Int) (h0:0≤i) (h1:i<n):∃ ad A0 c0,A=some ad∧w.cell? (ad.add i.toNat)=some (.slice A0 (rd_T32 xs i).f0.length c0)∧(rd_T32 xs i).f0.length≤c0∧k55.C w A0 (rd_T32 xs i).f0.length (rd_T32 xs i).f0:=by
  obtain ⟨ad,c,e,_,hK,hc0⟩:=Kd.C_get h z32 i h0 h1
  have hc:∀ j u,c[j]? = some u→w.cell? (ad.add (i.toNat*1+j))=some u:=hc0
  obtain ⟨A0,c0,rfl,l0,g0⟩:=k32_open hK
  exact ⟨ad,A0,c0,e,by have hq:=hc 0 _ rfl;rwa [Nat.mul_one,Nat.add_zero] at hq,l0,g0⟩

structure S28 where
  f0:(List ByteArray)
  f1:Bool
  f2:ByteArray
def z28:S28:=⟨([]:List ByteArray),false,(⟨#[]⟩:ByteArray)⟩
def k28:Kd S28:=Kd.iso (Kd.pair (Kd.slice 9 Kd.string) (Kd.pair Kd.bool Kd.string)) (fun x:S28=>(x.f0,x.f1,x.f2))
theorem k28_heap:Kd.Heap k28:=Kd.heap_iso _ (Kd.heap_pair (Kd.heap_slice 9 Kd.heap_string) (Kd.heap_pair Kd.heap_bool Kd.heap_string))
theorem k28_open {w:World} {x:S28} {cs:List Value} (h:k28.K w x cs):∃ A0 c0,cs = [.slice A0 x.f0.length c0,.bool x.f1,.string x.f2]∧x.f0.length≤c0∧Kd.string.C w A0 x.f0.length x.f0:=by
  obtain ⟨_,_,rfl,⟨A0,c0,rfl,l0,g0⟩,⟨_,_,rfl,rfl,rfl⟩⟩:=h
  exact ⟨A0,c0,rfl,l0,g0⟩
theorem k28_openM {w:World} {base:Nat} {ok:Nat→Prop} {x:S28} {cs:List Value} (h:k28.M w base ok x cs):∃ v0,cs = [v0,.bool x.f1,.string x.f2]∧Kd.string.R 9 w base ok v0 x.f0:=by
  obtain ⟨_,_,rfl,⟨v0,rfl,g0⟩,⟨_,_,rfl,rfl,rfl⟩⟩:=h
  exact ⟨v0,rfl,g0⟩
theorem k28_mk (w:World) (x:S28) {A0:Option Addr} {c0:Nat} (l0:x.f0.length≤c0) (g0:Kd.string.C w A0 x.f0.length x.f0):k28.K w x [.slice A0 x.f0.length c0,.bool x.f1,.string x.f2]:=⟨[.slice A0 x.f0.length c0],[.bool x.f1,.string x.f2],rfl,⟨A0,c0,rfl,l0,g0⟩,⟨[.bool x.f1],[.string x.f2],rfl,rfl,rfl⟩⟩
theorem k28_mkM (w:World) (base:Nat) (ok:Nat→Prop) (x:S28) {v0:Value} (g0:Kd.string.R 9 w base ok v0 x.f0):k28.M w base ok x [v0,.bool x.f1,.string x.f2]:=⟨[v0],[.bool x.f1,.string x.f2],rfl,⟨v0,rfl,g0⟩,⟨[.bool x.f1],[.string x.f2],rfl,rfl,rfl⟩⟩
theorem k28_openF {W:World} {ok:Nat→Prop} {x:S28} {cs:List Value} (h:Kd.FK k28 W ok x cs):∃ A0 c0,cs = [.slice A0 x.f0.length c0,.bool x.f1,.string x.f2]∧x.f0.length≤c0∧Kd.F Kd.string W ok A0 x.f0.length x.f0:=by
  obtain ⟨A0,c0,rfl,l0,_⟩:=k28_open (Kd.FK_now h)
  exact ⟨A0,c0,rfl,l0,(fun W' hW=>by obtain ⟨A0_,c0_,he,l0_,g0_⟩:=k28_open (h W' hW);injection (Option.some.inj (show some (Value.slice A0 x.f0.length c0)=some (Value.slice A0_ x.f0.length c0_) from congrArg (fun l=>l[0]?) he)) with ha_ _ _;rw [ha_];exact g0_)⟩
theorem k28_mkF (W:World) (ok:Nat→Prop) (x:S28) {A0:Option Addr} {c0:Nat} (l0:x.f0.length≤c0) (g0:Kd.F Kd.string W ok A0 x.f0.length x.f0):Kd.FK k28 W ok x [.slice A0 x.f0.length c0,.bool x.f1,.string x.f2]:=fun W2 hW=>k28_mk W2 x l0 (g0 W2 hW)
def rd_T28 (xs:List S28) (i:Int):S28:=xs.getD i.toNat z28
theorem at_T28 {w:World} {A:Option Addr} {n:Nat} {xs:List S28} (h:Kd.C k28 w A n xs) (i:Int) (h0:0≤i) (h1:i<n):∃ ad A0 c0,A=some ad∧w.cell? (ad.add (i.toNat*3))=some (.slice A0 (rd_T28 xs i).f0.length c0)∧w.cell? ⟨(ad.add (i.toNat*3)).block,(ad.add (i.toNat*3)).off+1,none⟩=some (.bool (rd_T28 xs i).f1)∧w.cell? ⟨(ad.add (i.toNat*3)).block,(ad.add (i.toNat*3)).off+2,none⟩=some (.string (rd_T28 xs i).f2)∧(rd_T28 xs i).f0.length≤c0∧Kd.string.C w A0 (rd_T28 xs i).f0.length (rd_T28 xs i).f0:=by
  obtain ⟨ad,c,e,_,hK,hc0⟩:=Kd.C_get h z28 i h0 h1
  have hc:∀ j u,c[j]? = some u→w.cell? (ad.add (i.toNat*3+j))=some u:=hc0
  obtain ⟨A0,c0,rfl,l0,g0⟩:=k28_open hK
  exact ⟨ad,A0,c0,e,hc 0 _ rfl,by rw [←add_field _ _ 1 (by omega)];exact hc 1 _ rfl,by rw [←add_field _ _ 2 (by omega)];exact hc 2 _ rfl,l0,g0⟩

theorem bl_ {α β:Type} {y e:α} {f:α→Option β} {r:Option β} (hy:y=e) (h:(some e).bind f=r):f y=r:=by subst hy;exact h

theorem mo1 {p q0:Prop} (h0:q0) (h:q0→p:=by intro g0;repeat' first|(with_reducible apply g0)|(with_reducible exact LeO.refl _)|(with_reducible exact LeO.none _)|(with_reducible refine LeO.ite ?_ ?_)|(with_reducible refine LeO.bind ?_ (fun _ => ?_))|apply g0|exact LeO.none _|refine LeO.ite ?_ ?_|refine LeO.bind ?_ (fun _ => ?_)):p:=h h0

theorem mo2 {p q0 q1:Prop} (h0:q0) (h1:q1) (h:q0→q1→p:=by intro g0 g1;repeat' first|(with_reducible apply g0)|(with_reducible apply g1)|(with_reducible exact LeO.refl _)|(with_reducible exact LeO.none _)|(with_reducible refine LeO.ite ?_ ?_)|(with_reducible refine LeO.bind ?_ (fun _ => ?_))|apply g0|apply g1|exact LeO.none _|refine LeO.ite ?_ ?_|refine LeO.bind ?_ (fun _ => ?_)):p:=h h0 h1

theorem mo3 {p q0 q1 q2:Prop} (h0:q0) (h1:q1) (h2:q2) (h:q0→q1→q2→p:=by intro g0 g1 g2;repeat' first|(with_reducible apply g0)|(with_reducible apply g1)|(with_reducible apply g2)|(with_reducible exact LeO.refl _)|(with_reducible exact LeO.none _)|(with_reducible refine LeO.ite ?_ ?_)|(with_reducible refine LeO.bind ?_ (fun _ => ?_))|apply g0|apply g1|apply g2|exact LeO.none _|refine LeO.ite ?_ ?_|refine LeO.bind ?_ (fun _ => ?_)):p:=h h0 h1 h2

theorem mo4 {p q0 q1 q2 q3:Prop} (h0:q0) (h1:q1) (h2:q2) (h3:q3) (h:q0→q1→q2→q3→p:=by intro g0 g1 g2 g3;repeat' first|(with_reducible apply g0)|(with_reducible apply g1)|(with_reducible apply g2)|(with_reducible apply g3)|(with_reducible exact LeO.refl _)|(with_reducible exact LeO.none _)|(with_reducible refine LeO.ite ?_ ?_)|(with_reducible refine LeO.bind ?_ (fun _ => ?_))|apply g0|apply g1|apply g2|apply g3|exact LeO.none _|refine LeO.ite ?_ ?_|refine LeO.bind ?_ (fun _ => ?_)):p:=h h0 h1 h2 h3

theorem mo6 {p q0 q1 q2 q3 q4 q5:Prop} (h0:q0) (h1:q1) (h2:q2) (h3:q3) (h4:q4) (h5:q5) (h:q0→q1→q2→q3→q4→q5→p:=by intro g0 g1 g2 g3 g4 g5;repeat' first|(with_reducible apply g0)|(with_reducible apply g1)|(with_reducible apply g2)|(with_reducible apply g3)|(with_reducible apply g4)|(with_reducible apply g5)|(with_reducible exact LeO.refl _)|(with_reducible exact LeO.none _)|(with_reducible refine LeO.ite ?_ ?_)|(with_reducible refine LeO.bind ?_ (fun _ => ?_))|apply g0|apply g1|apply g2|apply g3|apply g4|apply g5|exact LeO.none _|refine LeO.ite ?_ ?_|refine LeO.bind ?_ (fun _ => ?_)):p:=h h0 h1 h2 h3 h4 h5

theorem mo8 {p q0 q1 q2 q3 q4 q5 q6 q7:Prop} (h0:q0) (h1:q1) (h2:q2) (h3:q3) (h4:q4) (h5:q5) (h6:q6) (h7:q7) (h:q0→q1→q2→q3→q4→q5→q6→q7→p:=by intro g0 g1 g2 g3 g4 g5 g6 g7;repeat' first|(with_reducible apply g0)|(with_reducible apply g1)|(with_reducible apply g2)|(with_reducible apply g3)|(with_reducible apply g4)|(with_reducible apply g5)|(with_reducible apply g6)|(with_reducible apply g7)|(with_reducible exact LeO.refl _)|(with_reducible exact LeO.none _)|(with_reducible refine LeO.ite ?_ ?_)|(with_reducible refine LeO.bind ?_ (fun _ => ?_))|apply g0|apply g1|apply g2|apply g3|apply g4|apply g5|apply g6|apply g7|exact LeO.none _|refine LeO.ite ?_ ?_|refine LeO.bind ?_ (fun _ => ?_)):p:=h h0 h1 h2 h3 h4 h5 h6 h7

theorem mo9 {p q0 q1 q2 q3 q4 q5 q6 q7 q8:Prop} (h0:q0) (h1:q1) (h2:q2) (h3:q3) (h4:q4) (h5:q5) (h6:q6) (h7:q7) (h8:q8) (h:q0→q1→q2→q3→q4→q5→q6→q7→q8→p:=by intro g0 g1 g2 g3 g4 g5 g6 g7 g8;repeat' first|(with_reducible apply g0)|(with_reducible apply g1)|(with_reducible apply g2)|(with_reducible apply g3)|(with_reducible apply g4)|(with_reducible apply g5)|(with_reducible apply g6)|(with_reducible apply g7)|(with_reducible apply g8)|(with_reducible exact LeO.refl _)|(with_reducible exact LeO.none _)|(with_reducible refine LeO.ite ?_ ?_)|(with_reducible refine LeO.bind ?_ (fun _ => ?_))|apply g0|apply g1|apply g2|apply g3|apply g4|apply g5|apply g6|apply g7|apply g8|exact LeO.none _|refine LeO.ite ?_ ?_|refine LeO.bind ?_ (fun _ => ?_)):p:=h h0 h1 h2 h3 h4 h5 h6 h7 h8

theorem own_len (A:Option Addr) (n m c d:Nat):(Value.slice A n c).ownBlock=(Value.slice A m d).ownBlock:=by cases A <;> rfl

theorem less_turn : ∀ x y : List UInt8, (Op.bytesLess x y || (x == y)) = !(Op.bytesLess y x)
  | [],[]=>by simp [Op.bytesLess]
  | [],_ :: _=>by simp [Op.bytesLess]
  | _ :: _,[]=>by simp [Op.bytesLess]
  | a :: x, b :: y => by
    have ih:=less_turn x y
    simp only [Op.bytesLess]
    by_cases h:a=b
    · subst h
      simpa using ih
    · by_cases h1 : a < b
      · have h2 : ¬ b < a := by simp only [UInt8.lt_iff_toNat_lt] at h1 ⊢; omega
        have h3:¬ b=a:=fun e=>h e.symm
        simp [h1,h2,h3]
      · have h2 : b < a := by
          have:a.toNat≠b.toNat:=fun e=>h (UInt8.toNat_inj.1 e)
          simp only [UInt8.lt_iff_toNat_lt] at h1 ⊢; omega
        simp [h,h1,h2]
@[go_sem] theorem binOp_string_geq_ (t:TypeId) (a b:ByteArray):binOp .geq t (.string a) (.string b)=pure (.bool !(Op.bytesLess a.toList b.toList)):=by simp [binOp,Op.stringOp]
@[go_sem] theorem binOp_string_leq_ (t:TypeId) (a b:ByteArray):binOp .leq t (.string a) (.string b)=pure (.bool !(Op.bytesLess b.toList a.toList)):=by simp [binOp,Op.stringOp,less_turn]
@[go_sem] theorem binOp_string_gtr_ (t:TypeId) (a b:ByteArray):binOp .gtr t (.string a) (.string b)=pure (.bool (Op.bytesLess b.toList a.toList)):=by simp [binOp,Op.stringOp,less_turn]

end Go.Proofs.YthfpoacindblgaaDoor.P
