/- Several texts of this claim in one file: YtknagppkeodggaaDoorP0, YtknagppkeodggaaDoorP0Eq27. -/
import Derived.Test.YtknagppkeodggaaDoorProg
import Derived.Below
import Derived.Deep.Draws
import Derived.Deep.AppendLies
import Derived.Maps.AppendAt
import Derived.OwnWalk
import Derived.Laws.BytesArg
import Derived.Laws.MakeOwn
import Derived.Laws.OwnMore
import Derived.Deep.OwnRows
import Derived.Tactics
import Derived.Lib.ConvBytes
import Derived.Laws.Slices
import Derived.WalkKit
import Derived.KernelRfl
import Derived.RowKit3
import Derived.Deep.LoopGhost
import Derived.Deep.QuietTactic
import Derived.BigQuiet
import Derived.WideLaws
import Derived.Deep.DeepCutAuto
import Derived.Deep.CutBlock
import Derived.Deep.RegionHeld3
import Derived.Laws.Rows
import Derived.Lib.AppendStr
import Derived.ArgAppend
import Derived.Laws.IdiomCopy
import Derived.OrdersHeld
import Derived.Laws.BitsLemmas
import Derived.RowKit
import Derived.Test.YtknagppkeodggaaDoorM1
namespace Go.Proofs.YtknagppkeodggaaDoor.P
open Go.RowKit Go.Proofs.YtknagppkeodggaaDoorW.PrintWords Go.Proofs.YtknagppkeodggaaDoorW.PrintLast Go.Proofs.YtknagppkeodggaaDoorW.PrintMore
attribute [local go_sem] max2_int min2_int max_two min_two max_three min_three max_four min_four
set_option linter.unusedVariables false
set_option linter.unusedSimpArgs false

def errW:Option Int→Value
  | none => .nilIface
  | some c => .iface 0 (.int .i64 c)
theorem errW_none:errW none = .nilIface:=rfl
theorem errW_some (c:Int):errW (some c) = .iface 0 (.int .i64 c):=rfl

/-- The library's variable holds some number. -/
def GOK (w:World):Prop:=∃ m,w.cell? ⟨0,0,none⟩=some (.int .i64 m)
theorem GOK.below {w w':World} (h:GOK w) (hb:Below w.heap.size w w'):GOK w':=by
  obtain ⟨m,hm⟩:=h
  exact ⟨m,(hb.cell (World.block_lt_of_cell? w _ hm)).trans hm⟩

theorem info3:(Tryd.prog.info? 3).map (fun i=>(i.zero,i.size,i.bytes))=some (some (.int .i64 0),1,8):=by kernel_rfl
theorem info4:(Tryd.prog.info? 4).map (fun i=>(i.zero,i.size,i.bytes))=some (some (.bool false),1,1):=by kernel_rfl
theorem info5:(Tryd.prog.info? 5).map (fun i=>(i.zero,i.size,i.bytes))=some (some (.int .u8 0),1,1):=by kernel_rfl
theorem info9:(Tryd.prog.info? 9).map (fun i=>(i.zero,i.size,i.bytes))=some (some (.string ⟨#[]⟩),1,16):=by kernel_rfl
theorem info25:(Tryd.prog.info? 25).map (fun i=>(i.zero,i.size,i.bytes))=some (some (.agg #[(.slice none 0 0)]),1,24):=by kernel_rfl
theorem info27:(Tryd.prog.info? 27).map (fun i=>(i.zero,i.size,i.bytes))=some (some (.agg #[(.string ⟨#[]⟩),(.string ⟨#[]⟩),(.bool false)]),3,40):=by kernel_rfl
theorem info120:(Tryd.prog.info? 120).map (fun i=>(i.zero,i.size,i.bytes))=some (some (.agg #[(.string ⟨#[]⟩),(.bool false),(.string ⟨#[]⟩),(.bool false),(.bool false),(.string ⟨#[]⟩),(.bool false)]),7,80):=by kernel_rfl
theorem info147:(Tryd.prog.info? 147).map (fun i=>(i.zero,i.size,i.bytes))=some (some (.agg #[(.int .i64 0),(.int .i64 0)]),2,16):=by kernel_rfl
theorem info157:(Tryd.prog.info? 157).map (fun i=>(i.zero,i.size,i.bytes))=some (some (.slice none 0 0),1,24):=by kernel_rfl
theorem info161:(Tryd.prog.info? 161).map (fun i=>(i.zero,i.size,i.bytes))=some (some (.agg #[(.int .u8 0),(.string ⟨#[]⟩),(.string ⟨#[]⟩)]),3,40):=by kernel_rfl
theorem info194:(Tryd.prog.info? 194).map (fun i=>(i.zero,i.size,i.bytes))=some (some (.slice none 0 0),1,24):=by kernel_rfl
-- the values' own types
structure S27 where
  f0:ByteArray
  f1:ByteArray
  f2:Bool
def z27:S27:=⟨(⟨#[]⟩:ByteArray),(⟨#[]⟩:ByteArray),false⟩
def k27:Kd S27:=Kd.iso (Kd.pair Kd.string (Kd.pair Kd.string Kd.bool)) (fun x:S27=>(x.f0,x.f1,x.f2))
theorem k27_heap:Kd.Heap k27:=Kd.heap_iso _ (Kd.heap_pair Kd.heap_string (Kd.heap_pair Kd.heap_string Kd.heap_bool))
theorem k27_open {w:World} {x:S27} {cs:List Value} (h:k27.K w x cs):cs = [.string x.f0,.string x.f1,.bool x.f2]:=by
  obtain ⟨_,_,rfl,rfl,⟨_,_,rfl,rfl,rfl⟩⟩:=h
  exact rfl
theorem k27_openM {w:World} {base:Nat} {ok:Nat→Prop} {x:S27} {cs:List Value} (h:k27.M w base ok x cs):cs = [.string x.f0,.string x.f1,.bool x.f2]:=by
  obtain ⟨_,_,rfl,rfl,⟨_,_,rfl,rfl,rfl⟩⟩:=h
  exact rfl
theorem k27_mk (w:World) (x:S27)  : k27.K w x [.string x.f0,.string x.f1,.bool x.f2]:=⟨[.string x.f0],[.string x.f1,.bool x.f2],rfl,rfl,⟨[.string x.f1],[.bool x.f2],rfl,rfl,rfl⟩⟩
theorem k27_mkM (w:World) (base:Nat) (ok:Nat→Prop) (x:S27)  : k27.M w base ok x [.string x.f0,.string x.f1,.bool x.f2]:=⟨[.string x.f0],[.string x.f1,.bool x.f2],rfl,rfl,⟨[.string x.f1],[.bool x.f2],rfl,rfl,rfl⟩⟩
theorem k27_mkF (W:World) (ok:Nat→Prop) (x:S27):Kd.FK k27 W ok x [.string x.f0,.string x.f1,.bool x.f2]:=fun W2 _=>k27_mk W2 x
def rd_T27 (xs:List S27) (i:Int):S27:=xs.getD i.toNat z27
theorem at_T27 {w:World} {A:Option Addr} {n:Nat} {xs:List S27} (h:Kd.C k27 w A n xs) (i:Int) (h0:0≤i) (h1:i<n):∃ ad , A=some ad∧w.cell? (ad.add (i.toNat*3))=some (.string (rd_T27 xs i).f0)∧w.cell? ⟨(ad.add (i.toNat*3)).block,(ad.add (i.toNat*3)).off+1,none⟩=some (.string (rd_T27 xs i).f1)∧w.cell? ⟨(ad.add (i.toNat*3)).block,(ad.add (i.toNat*3)).off+2,none⟩=some (.bool (rd_T27 xs i).f2):=by
  obtain ⟨ad,c,e,_,hK,hc0⟩:=Kd.C_get h z27 i h0 h1
  have hc:∀ j u,c[j]? = some u→w.cell? (ad.add (i.toNat*3+j))=some u:=hc0
  obtain rfl:=k27_open hK
  exact ⟨ad,e,hc 0 _ rfl,by rw [←add_field _ _ 1 (by omega)];exact hc 1 _ rfl,by rw [←add_field _ _ 2 (by omega)];exact hc 2 _ rfl⟩

def rd_L4 (xs:List (List ByteArray)) (i:Int):(List ByteArray):=xs.getD i.toNat ([]:List ByteArray)
theorem at_L4 {w:World} {A:Option Addr} {n:Nat} {xs:List (List ByteArray)} (h:Kd.C (Kd.slice 9 Kd.string) w A n xs) (i:Int) (h0:0≤i) (h1:i<n):∃ ad A0 c0,A=some ad∧w.cell? (ad.add i.toNat)=some (.slice A0 (rd_L4 xs i).length c0)∧(rd_L4 xs i).length≤c0∧Kd.string.C w A0 (rd_L4 xs i).length (rd_L4 xs i):=by
  obtain ⟨ad,c,e,_,hK,hc0⟩:=Kd.C_get h ([]:List ByteArray) i h0 h1
  have hc:∀ j u,c[j]? = some u→w.cell? (ad.add (i.toNat*1+j))=some u:=hc0
  obtain ⟨A0,c0,rfl,l0,g0⟩:=hK
  exact ⟨ad,A0,c0,e,by have hq:=hc 0 _ rfl;rwa [Nat.mul_one,Nat.add_zero] at hq,l0,g0⟩

def rd_L5 (xs:List (List S27)) (i:Int):(List S27):=xs.getD i.toNat ([]:List S27)
theorem at_L5 {w:World} {A:Option Addr} {n:Nat} {xs:List (List S27)} (h:Kd.C (Kd.slice 27 k27) w A n xs) (i:Int) (h0:0≤i) (h1:i<n):∃ ad A0 c0,A=some ad∧w.cell? (ad.add i.toNat)=some (.slice A0 (rd_L5 xs i).length c0)∧(rd_L5 xs i).length≤c0∧k27.C w A0 (rd_L5 xs i).length (rd_L5 xs i):=by
  obtain ⟨ad,c,e,_,hK,hc0⟩:=Kd.C_get h ([]:List S27) i h0 h1
  have hc:∀ j u,c[j]? = some u→w.cell? (ad.add (i.toNat*1+j))=some u:=hc0
  obtain ⟨A0,c0,rfl,l0,g0⟩:=hK
  exact ⟨ad,A0,c0,e,by have hq:=hc 0 _ rfl;rwa [Nat.mul_one,Nat.add_zero] at hq,l0,g0⟩

structure S25 where
  f0:(List S27)
def z25:S25:=⟨([]:List S27)⟩
def k25:Kd S25:=Kd.iso (Kd.slice 27 k27) (fun x:S25=>x.f0)
theorem k25_heap:Kd.Heap k25:=Kd.heap_iso _ (Kd.heap_slice 27 k27_heap)
theorem k25_open {w:World} {x:S25} {cs:List Value} (h:k25.K w x cs):∃ A0 c0,cs = [.slice A0 x.f0.length c0]∧x.f0.length≤c0∧k27.C w A0 x.f0.length x.f0:=by
  obtain ⟨A0,c0,rfl,l0,g0⟩:=h
  exact ⟨A0,c0,rfl,l0,g0⟩
theorem k25_openM {w:World} {base:Nat} {ok:Nat→Prop} {x:S25} {cs:List Value} (h:k25.M w base ok x cs):∃ v0,cs = [v0]∧k27.R 27 w base ok v0 x.f0:=by
  obtain ⟨v0,rfl,g0⟩:=h
  exact ⟨v0,rfl,g0⟩
theorem k25_mk (w:World) (x:S25) {A0:Option Addr} {c0:Nat} (l0:x.f0.length≤c0) (g0:k27.C w A0 x.f0.length x.f0):k25.K w x [.slice A0 x.f0.length c0]:=⟨A0,c0,rfl,l0,g0⟩
theorem k25_mkM (w:World) (base:Nat) (ok:Nat→Prop) (x:S25) {v0:Value} (g0:k27.R 27 w base ok v0 x.f0):k25.M w base ok x [v0]:=⟨v0,rfl,g0⟩
theorem k25_openF {W:World} {ok:Nat→Prop} {x:S25} {cs:List Value} (h:Kd.FK k25 W ok x cs):∃ A0 c0,cs = [.slice A0 x.f0.length c0]∧x.f0.length≤c0∧Kd.F k27 W ok A0 x.f0.length x.f0:=by
  obtain ⟨A0,c0,rfl,l0,_⟩:=k25_open (Kd.FK_now h)
  exact ⟨A0,c0,rfl,l0,(fun W' hW=>by obtain ⟨A0_,c0_,he,l0_,g0_⟩:=k25_open (h W' hW);injection (Option.some.inj (show some (Value.slice A0 x.f0.length c0)=some (Value.slice A0_ x.f0.length c0_) from congrArg (fun l=>l[0]?) he)) with ha_ _ _;rw [ha_];exact g0_)⟩
theorem k25_mkF (W:World) (ok:Nat→Prop) (x:S25) {A0:Option Addr} {c0:Nat} (l0:x.f0.length≤c0) (g0:Kd.F k27 W ok A0 x.f0.length x.f0):Kd.FK k25 W ok x [.slice A0 x.f0.length c0]:=fun W2 hW=>k25_mk W2 x l0 (g0 W2 hW)
def rd_T25 (xs:List S25) (i:Int):S25:=xs.getD i.toNat z25
theorem at_T25 {w:World} {A:Option Addr} {n:Nat} {xs:List S25} (h:Kd.C k25 w A n xs) (i:Int) (h0:0≤i) (h1:i<n):∃ ad A0 c0,A=some ad∧w.cell? (ad.add i.toNat)=some (.slice A0 (rd_T25 xs i).f0.length c0)∧(rd_T25 xs i).f0.length≤c0∧k27.C w A0 (rd_T25 xs i).f0.length (rd_T25 xs i).f0:=by
  obtain ⟨ad,c,e,_,hK,hc0⟩:=Kd.C_get h z25 i h0 h1
  have hc:∀ j u,c[j]? = some u→w.cell? (ad.add (i.toNat*1+j))=some u:=hc0
  obtain ⟨A0,c0,rfl,l0,g0⟩:=k25_open hK
  exact ⟨ad,A0,c0,e,by have hq:=hc 0 _ rfl;rwa [Nat.mul_one,Nat.add_zero] at hq,l0,g0⟩

structure S181 where
  f0:Bool
  f1:ByteArray
  f2:Bool
def z181:S181:=⟨false,(⟨#[]⟩:ByteArray),false⟩
def k181:Kd S181:=Kd.iso (Kd.pair Kd.bool (Kd.pair Kd.string Kd.bool)) (fun x:S181=>(x.f0,x.f1,x.f2))
theorem k181_heap:Kd.Heap k181:=Kd.heap_iso _ (Kd.heap_pair Kd.heap_bool (Kd.heap_pair Kd.heap_string Kd.heap_bool))
theorem k181_open {w:World} {x:S181} {cs:List Value} (h:k181.K w x cs):cs = [.bool x.f0,.string x.f1,.bool x.f2]:=by
  obtain ⟨_,_,rfl,rfl,⟨_,_,rfl,rfl,rfl⟩⟩:=h
  exact rfl
theorem k181_openM {w:World} {base:Nat} {ok:Nat→Prop} {x:S181} {cs:List Value} (h:k181.M w base ok x cs):cs = [.bool x.f0,.string x.f1,.bool x.f2]:=by
  obtain ⟨_,_,rfl,rfl,⟨_,_,rfl,rfl,rfl⟩⟩:=h
  exact rfl
theorem k181_mk (w:World) (x:S181)  : k181.K w x [.bool x.f0,.string x.f1,.bool x.f2]:=⟨[.bool x.f0],[.string x.f1,.bool x.f2],rfl,rfl,⟨[.string x.f1],[.bool x.f2],rfl,rfl,rfl⟩⟩
theorem k181_mkM (w:World) (base:Nat) (ok:Nat→Prop) (x:S181)  : k181.M w base ok x [.bool x.f0,.string x.f1,.bool x.f2]:=⟨[.bool x.f0],[.string x.f1,.bool x.f2],rfl,rfl,⟨[.string x.f1],[.bool x.f2],rfl,rfl,rfl⟩⟩
theorem k181_mkF (W:World) (ok:Nat→Prop) (x:S181):Kd.FK k181 W ok x [.bool x.f0,.string x.f1,.bool x.f2]:=fun W2 _=>k181_mk W2 x
def rd_T181 (xs:List S181) (i:Int):S181:=xs.getD i.toNat z181
theorem at_T181 {w:World} {A:Option Addr} {n:Nat} {xs:List S181} (h:Kd.C k181 w A n xs) (i:Int) (h0:0≤i) (h1:i<n):∃ ad , A=some ad∧w.cell? (ad.add (i.toNat*3))=some (.bool (rd_T181 xs i).f0)∧w.cell? ⟨(ad.add (i.toNat*3)).block,(ad.add (i.toNat*3)).off+1,none⟩=some (.string (rd_T181 xs i).f1)∧w.cell? ⟨(ad.add (i.toNat*3)).block,(ad.add (i.toNat*3)).off+2,none⟩=some (.bool (rd_T181 xs i).f2):=by
  obtain ⟨ad,c,e,_,hK,hc0⟩:=Kd.C_get h z181 i h0 h1
  have hc:∀ j u,c[j]? = some u→w.cell? (ad.add (i.toNat*3+j))=some u:=hc0
  obtain rfl:=k181_open hK
  exact ⟨ad,e,hc 0 _ rfl,by rw [←add_field _ _ 1 (by omega)];exact hc 1 _ rfl,by rw [←add_field _ _ 2 (by omega)];exact hc 2 _ rfl⟩

structure S183 where
  f0:ByteArray
  f1:S181
  f2:S181
def z183:S183:=⟨(⟨#[]⟩:ByteArray),z181,z181⟩
def k183:Kd S183:=Kd.iso (Kd.pair Kd.string (Kd.pair k181 k181)) (fun x:S183=>(x.f0,x.f1,x.f2))
theorem k183_heap:Kd.Heap k183:=Kd.heap_iso _ (Kd.heap_pair Kd.heap_string (Kd.heap_pair k181_heap k181_heap))
theorem k183_open {w:World} {x:S183} {cs:List Value} (h:k183.K w x cs):cs = [.string x.f0,.bool x.f1.f0,.string x.f1.f1,.bool x.f1.f2,.bool x.f2.f0,.string x.f2.f1,.bool x.f2.f2]:=by
  obtain ⟨_,_,rfl,rfl,⟨_,_,rfl,s1,s4⟩⟩:=h
  obtain rfl:=k181_open s1
  obtain rfl:=k181_open s4
  exact rfl
theorem k183_openM {w:World} {base:Nat} {ok:Nat→Prop} {x:S183} {cs:List Value} (h:k183.M w base ok x cs):cs = [.string x.f0,.bool x.f1.f0,.string x.f1.f1,.bool x.f1.f2,.bool x.f2.f0,.string x.f2.f1,.bool x.f2.f2]:=by
  obtain ⟨_,_,rfl,rfl,⟨_,_,rfl,s1,s4⟩⟩:=h
  obtain rfl:=k181_openM s1
  obtain rfl:=k181_openM s4
  exact rfl
theorem k183_mk (w:World) (x:S183)  : k183.K w x [.string x.f0,.bool x.f1.f0,.string x.f1.f1,.bool x.f1.f2,.bool x.f2.f0,.string x.f2.f1,.bool x.f2.f2]:=⟨[.string x.f0],[.bool x.f1.f0,.string x.f1.f1,.bool x.f1.f2,.bool x.f2.f0,.string x.f2.f1,.bool x.f2.f2],rfl,rfl,⟨[.bool x.f1.f0,.string x.f1.f1,.bool x.f1.f2],[.bool x.f2.f0,.string x.f2.f1,.bool x.f2.f2],rfl,(k181_mk w x.f1 ),(k181_mk w x.f2 )⟩⟩
theorem k183_mkM (w:World) (base:Nat) (ok:Nat→Prop) (x:S183)  : k183.M w base ok x [.string x.f0,.bool x.f1.f0,.string x.f1.f1,.bool x.f1.f2,.bool x.f2.f0,.string x.f2.f1,.bool x.f2.f2]:=⟨[.string x.f0],[.bool x.f1.f0,.string x.f1.f1,.bool x.f1.f2,.bool x.f2.f0,.string x.f2.f1,.bool x.f2.f2],rfl,rfl,⟨[.bool x.f1.f0,.string x.f1.f1,.bool x.f1.f2],[.bool x.f2.f0,.string x.f2.f1,.bool x.f2.f2],rfl,(k181_mkM w base ok x.f1 ),(k181_mkM w base ok x.f2 )⟩⟩
theorem k183_mkF (W:World) (ok:Nat→Prop) (x:S183):Kd.FK k183 W ok x [.string x.f0,.bool x.f1.f0,.string x.f1.f1,.bool x.f1.f2,.bool x.f2.f0,.string x.f2.f1,.bool x.f2.f2]:=fun W2 _=>k183_mk W2 x
def rd_T183 (xs:List S183) (i:Int):S183:=xs.getD i.toNat z183
theorem at_T183 {w:World} {A:Option Addr} {n:Nat} {xs:List S183} (h:Kd.C k183 w A n xs) (i:Int) (h0:0≤i) (h1:i<n):∃ ad , A=some ad∧w.cell? (ad.add (i.toNat*7))=some (.string (rd_T183 xs i).f0)∧w.cell? ⟨(ad.add (i.toNat*7)).block,(ad.add (i.toNat*7)).off+1,none⟩=some (.bool (rd_T183 xs i).f1.f0)∧w.cell? ⟨(ad.add (i.toNat*7)).block,(ad.add (i.toNat*7)).off+2,none⟩=some (.string (rd_T183 xs i).f1.f1)∧w.cell? ⟨(ad.add (i.toNat*7)).block,(ad.add (i.toNat*7)).off+3,none⟩=some (.bool (rd_T183 xs i).f1.f2)∧w.cell? ⟨(ad.add (i.toNat*7)).block,(ad.add (i.toNat*7)).off+4,none⟩=some (.bool (rd_T183 xs i).f2.f0)∧w.cell? ⟨(ad.add (i.toNat*7)).block,(ad.add (i.toNat*7)).off+5,none⟩=some (.string (rd_T183 xs i).f2.f1)∧w.cell? ⟨(ad.add (i.toNat*7)).block,(ad.add (i.toNat*7)).off+6,none⟩=some (.bool (rd_T183 xs i).f2.f2):=by
  obtain ⟨ad,c,e,_,hK,hc0⟩:=Kd.C_get h z183 i h0 h1
  have hc:∀ j u,c[j]? = some u→w.cell? (ad.add (i.toNat*7+j))=some u:=hc0
  obtain rfl:=k183_open hK
  exact ⟨ad,e,hc 0 _ rfl,by rw [←add_field _ _ 1 (by omega)];exact hc 1 _ rfl,by rw [←add_field _ _ 2 (by omega)];exact hc 2 _ rfl,by rw [←add_field _ _ 3 (by omega)];exact hc 3 _ rfl,by rw [←add_field _ _ 4 (by omega)];exact hc 4 _ rfl,by rw [←add_field _ _ 5 (by omega)];exact hc 5 _ rfl,by rw [←add_field _ _ 6 (by omega)];exact hc 6 _ rfl⟩

structure S118 where
  f0:Bool
  f1:ByteArray
  f2:Bool
def z118:S118:=⟨false,(⟨#[]⟩:ByteArray),false⟩
def k118:Kd S118:=Kd.iso (Kd.pair Kd.bool (Kd.pair Kd.string Kd.bool)) (fun x:S118=>(x.f0,x.f1,x.f2))
theorem k118_heap:Kd.Heap k118:=Kd.heap_iso _ (Kd.heap_pair Kd.heap_bool (Kd.heap_pair Kd.heap_string Kd.heap_bool))
theorem k118_open {w:World} {x:S118} {cs:List Value} (h:k118.K w x cs):cs = [.bool x.f0,.string x.f1,.bool x.f2]:=by
  obtain ⟨_,_,rfl,rfl,⟨_,_,rfl,rfl,rfl⟩⟩:=h
  exact rfl
theorem k118_openM {w:World} {base:Nat} {ok:Nat→Prop} {x:S118} {cs:List Value} (h:k118.M w base ok x cs):cs = [.bool x.f0,.string x.f1,.bool x.f2]:=by
  obtain ⟨_,_,rfl,rfl,⟨_,_,rfl,rfl,rfl⟩⟩:=h
  exact rfl
theorem k118_mk (w:World) (x:S118)  : k118.K w x [.bool x.f0,.string x.f1,.bool x.f2]:=⟨[.bool x.f0],[.string x.f1,.bool x.f2],rfl,rfl,⟨[.string x.f1],[.bool x.f2],rfl,rfl,rfl⟩⟩
theorem k118_mkM (w:World) (base:Nat) (ok:Nat→Prop) (x:S118)  : k118.M w base ok x [.bool x.f0,.string x.f1,.bool x.f2]:=⟨[.bool x.f0],[.string x.f1,.bool x.f2],rfl,rfl,⟨[.string x.f1],[.bool x.f2],rfl,rfl,rfl⟩⟩
theorem k118_mkF (W:World) (ok:Nat→Prop) (x:S118):Kd.FK k118 W ok x [.bool x.f0,.string x.f1,.bool x.f2]:=fun W2 _=>k118_mk W2 x
def rd_T118 (xs:List S118) (i:Int):S118:=xs.getD i.toNat z118
theorem at_T118 {w:World} {A:Option Addr} {n:Nat} {xs:List S118} (h:Kd.C k118 w A n xs) (i:Int) (h0:0≤i) (h1:i<n):∃ ad , A=some ad∧w.cell? (ad.add (i.toNat*3))=some (.bool (rd_T118 xs i).f0)∧w.cell? ⟨(ad.add (i.toNat*3)).block,(ad.add (i.toNat*3)).off+1,none⟩=some (.string (rd_T118 xs i).f1)∧w.cell? ⟨(ad.add (i.toNat*3)).block,(ad.add (i.toNat*3)).off+2,none⟩=some (.bool (rd_T118 xs i).f2):=by
  obtain ⟨ad,c,e,_,hK,hc0⟩:=Kd.C_get h z118 i h0 h1
  have hc:∀ j u,c[j]? = some u→w.cell? (ad.add (i.toNat*3+j))=some u:=hc0
  obtain rfl:=k118_open hK
  exact ⟨ad,e,hc 0 _ rfl,by rw [←add_field _ _ 1 (by omega)];exact hc 1 _ rfl,by rw [←add_field _ _ 2 (by omega)];exact hc 2 _ rfl⟩

structure S120 where
  f0:ByteArray
  f1:S118
  f2:S118
def z120:S120:=⟨(⟨#[]⟩:ByteArray),z118,z118⟩
def k120:Kd S120:=Kd.iso (Kd.pair Kd.string (Kd.pair k118 k118)) (fun x:S120=>(x.f0,x.f1,x.f2))
theorem k120_heap:Kd.Heap k120:=Kd.heap_iso _ (Kd.heap_pair Kd.heap_string (Kd.heap_pair k118_heap k118_heap))
theorem k120_open {w:World} {x:S120} {cs:List Value} (h:k120.K w x cs):cs = [.string x.f0,.bool x.f1.f0,.string x.f1.f1,.bool x.f1.f2,.bool x.f2.f0,.string x.f2.f1,.bool x.f2.f2]:=by
  obtain ⟨_,_,rfl,rfl,⟨_,_,rfl,s1,s4⟩⟩:=h
  obtain rfl:=k118_open s1
  obtain rfl:=k118_open s4
  exact rfl
theorem k120_openM {w:World} {base:Nat} {ok:Nat→Prop} {x:S120} {cs:List Value} (h:k120.M w base ok x cs):cs = [.string x.f0,.bool x.f1.f0,.string x.f1.f1,.bool x.f1.f2,.bool x.f2.f0,.string x.f2.f1,.bool x.f2.f2]:=by
  obtain ⟨_,_,rfl,rfl,⟨_,_,rfl,s1,s4⟩⟩:=h
  obtain rfl:=k118_openM s1
  obtain rfl:=k118_openM s4
  exact rfl
theorem k120_mk (w:World) (x:S120)  : k120.K w x [.string x.f0,.bool x.f1.f0,.string x.f1.f1,.bool x.f1.f2,.bool x.f2.f0,.string x.f2.f1,.bool x.f2.f2]:=⟨[.string x.f0],[.bool x.f1.f0,.string x.f1.f1,.bool x.f1.f2,.bool x.f2.f0,.string x.f2.f1,.bool x.f2.f2],rfl,rfl,⟨[.bool x.f1.f0,.string x.f1.f1,.bool x.f1.f2],[.bool x.f2.f0,.string x.f2.f1,.bool x.f2.f2],rfl,(k118_mk w x.f1 ),(k118_mk w x.f2 )⟩⟩
theorem k120_mkM (w:World) (base:Nat) (ok:Nat→Prop) (x:S120)  : k120.M w base ok x [.string x.f0,.bool x.f1.f0,.string x.f1.f1,.bool x.f1.f2,.bool x.f2.f0,.string x.f2.f1,.bool x.f2.f2]:=⟨[.string x.f0],[.bool x.f1.f0,.string x.f1.f1,.bool x.f1.f2,.bool x.f2.f0,.string x.f2.f1,.bool x.f2.f2],rfl,rfl,⟨[.bool x.f1.f0,.string x.f1.f1,.bool x.f1.f2],[.bool x.f2.f0,.string x.f2.f1,.bool x.f2.f2],rfl,(k118_mkM w base ok x.f1 ),(k118_mkM w base ok x.f2 )⟩⟩
theorem k120_mkF (W:World) (ok:Nat→Prop) (x:S120):Kd.FK k120 W ok x [.string x.f0,.bool x.f1.f0,.string x.f1.f1,.bool x.f1.f2,.bool x.f2.f0,.string x.f2.f1,.bool x.f2.f2]:=fun W2 _=>k120_mk W2 x
def rd_T120 (xs:List S120) (i:Int):S120:=xs.getD i.toNat z120
theorem at_T120 {w:World} {A:Option Addr} {n:Nat} {xs:List S120} (h:Kd.C k120 w A n xs) (i:Int) (h0:0≤i) (h1:i<n):∃ ad , A=some ad∧w.cell? (ad.add (i.toNat*7))=some (.string (rd_T120 xs i).f0)∧w.cell? ⟨(ad.add (i.toNat*7)).block,(ad.add (i.toNat*7)).off+1,none⟩=some (.bool (rd_T120 xs i).f1.f0)∧w.cell? ⟨(ad.add (i.toNat*7)).block,(ad.add (i.toNat*7)).off+2,none⟩=some (.string (rd_T120 xs i).f1.f1)∧w.cell? ⟨(ad.add (i.toNat*7)).block,(ad.add (i.toNat*7)).off+3,none⟩=some (.bool (rd_T120 xs i).f1.f2)∧w.cell? ⟨(ad.add (i.toNat*7)).block,(ad.add (i.toNat*7)).off+4,none⟩=some (.bool (rd_T120 xs i).f2.f0)∧w.cell? ⟨(ad.add (i.toNat*7)).block,(ad.add (i.toNat*7)).off+5,none⟩=some (.string (rd_T120 xs i).f2.f1)∧w.cell? ⟨(ad.add (i.toNat*7)).block,(ad.add (i.toNat*7)).off+6,none⟩=some (.bool (rd_T120 xs i).f2.f2):=by
  obtain ⟨ad,c,e,_,hK,hc0⟩:=Kd.C_get h z120 i h0 h1
  have hc:∀ j u,c[j]? = some u→w.cell? (ad.add (i.toNat*7+j))=some u:=hc0
  obtain rfl:=k120_open hK
  exact ⟨ad,e,hc 0 _ rfl,by rw [←add_field _ _ 1 (by omega)];exact hc 1 _ rfl,by rw [←add_field _ _ 2 (by omega)];exact hc 2 _ rfl,by rw [←add_field _ _ 3 (by omega)];exact hc 3 _ rfl,by rw [←add_field _ _ 4 (by omega)];exact hc 4 _ rfl,by rw [←add_field _ _ 5 (by omega)];exact hc 5 _ rfl,by rw [←add_field _ _ 6 (by omega)];exact hc 6 _ rfl⟩

def rd_L12 (xs:List (List S120)) (i:Int):(List S120):=xs.getD i.toNat ([]:List S120)
theorem at_L12 {w:World} {A:Option Addr} {n:Nat} {xs:List (List S120)} (h:Kd.C (Kd.slice 120 k120) w A n xs) (i:Int) (h0:0≤i) (h1:i<n):∃ ad A0 c0,A=some ad∧w.cell? (ad.add i.toNat)=some (.slice A0 (rd_L12 xs i).length c0)∧(rd_L12 xs i).length≤c0∧k120.C w A0 (rd_L12 xs i).length (rd_L12 xs i):=by
  obtain ⟨ad,c,e,_,hK,hc0⟩:=Kd.C_get h ([]:List S120) i h0 h1
  have hc:∀ j u,c[j]? = some u→w.cell? (ad.add (i.toNat*1+j))=some u:=hc0
  obtain ⟨A0,c0,rfl,l0,g0⟩:=hK
  exact ⟨ad,A0,c0,e,by have hq:=hc 0 _ rfl;rwa [Nat.mul_one,Nat.add_zero] at hq,l0,g0⟩

structure S52 where
  f0:(List S120)
def z52:S52:=⟨([]:List S120)⟩
def k52:Kd S52:=Kd.iso (Kd.slice 120 k120) (fun x:S52=>x.f0)
theorem k52_heap:Kd.Heap k52:=Kd.heap_iso _ (Kd.heap_slice 120 k120_heap)
theorem k52_open {w:World} {x:S52} {cs:List Value} (h:k52.K w x cs):∃ A0 c0,cs = [.slice A0 x.f0.length c0]∧x.f0.length≤c0∧k120.C w A0 x.f0.length x.f0:=by
  obtain ⟨A0,c0,rfl,l0,g0⟩:=h
  exact ⟨A0,c0,rfl,l0,g0⟩
theorem k52_openM {w:World} {base:Nat} {ok:Nat→Prop} {x:S52} {cs:List Value} (h:k52.M w base ok x cs):∃ v0,cs = [v0]∧k120.R 120 w base ok v0 x.f0:=by
  obtain ⟨v0,rfl,g0⟩:=h
  exact ⟨v0,rfl,g0⟩
theorem k52_mk (w:World) (x:S52) {A0:Option Addr} {c0:Nat} (l0:x.f0.length≤c0) (g0:k120.C w A0 x.f0.length x.f0):k52.K w x [.slice A0 x.f0.length c0]:=⟨A0,c0,rfl,l0,g0⟩
theorem k52_mkM (w:World) (base:Nat) (ok:Nat→Prop) (x:S52) {v0:Value} (g0:k120.R 120 w base ok v0 x.f0):k52.M w base ok x [v0]:=⟨v0,rfl,g0⟩
theorem k52_openF {W:World} {ok:Nat→Prop} {x:S52} {cs:List Value} (h:Kd.FK k52 W ok x cs):∃ A0 c0,cs = [.slice A0 x.f0.length c0]∧x.f0.length≤c0∧Kd.F k120 W ok A0 x.f0.length x.f0:=by
  obtain ⟨A0,c0,rfl,l0,_⟩:=k52_open (Kd.FK_now h)
  exact ⟨A0,c0,rfl,l0,(fun W' hW=>by obtain ⟨A0_,c0_,he,l0_,g0_⟩:=k52_open (h W' hW);injection (Option.some.inj (show some (Value.slice A0 x.f0.length c0)=some (Value.slice A0_ x.f0.length c0_) from congrArg (fun l=>l[0]?) he)) with ha_ _ _;rw [ha_];exact g0_)⟩
theorem k52_mkF (W:World) (ok:Nat→Prop) (x:S52) {A0:Option Addr} {c0:Nat} (l0:x.f0.length≤c0) (g0:Kd.F k120 W ok A0 x.f0.length x.f0):Kd.FK k52 W ok x [.slice A0 x.f0.length c0]:=fun W2 hW=>k52_mk W2 x l0 (g0 W2 hW)
def rd_T52 (xs:List S52) (i:Int):S52:=xs.getD i.toNat z52
theorem at_T52 {w:World} {A:Option Addr} {n:Nat} {xs:List S52} (h:Kd.C k52 w A n xs) (i:Int) (h0:0≤i) (h1:i<n):∃ ad A0 c0,A=some ad∧w.cell? (ad.add i.toNat)=some (.slice A0 (rd_T52 xs i).f0.length c0)∧(rd_T52 xs i).f0.length≤c0∧k120.C w A0 (rd_T52 xs i).f0.length (rd_T52 xs i).f0:=by
  obtain ⟨ad,c,e,_,hK,hc0⟩:=Kd.C_get h z52 i h0 h1
  have hc:∀ j u,c[j]? = some u→w.cell? (ad.add (i.toNat*1+j))=some u:=hc0
  obtain ⟨A0,c0,rfl,l0,g0⟩:=k52_open hK
  exact ⟨ad,A0,c0,e,by have hq:=hc 0 _ rfl;rwa [Nat.mul_one,Nat.add_zero] at hq,l0,g0⟩

def rd_L14 (xs:List (List Int)) (i:Int):(List Int):=xs.getD i.toNat ([]:List Int)
theorem at_L14 {w:World} {A:Option Addr} {n:Nat} {xs:List (List Int)} (h:Kd.C (Kd.slice 3 (Kd.int .i64)) w A n xs) (i:Int) (h0:0≤i) (h1:i<n):∃ ad A0 c0,A=some ad∧w.cell? (ad.add i.toNat)=some (.slice A0 (rd_L14 xs i).length c0)∧(rd_L14 xs i).length≤c0∧(Kd.int .i64).C w A0 (rd_L14 xs i).length (rd_L14 xs i):=by
  obtain ⟨ad,c,e,_,hK,hc0⟩:=Kd.C_get h ([]:List Int) i h0 h1
  have hc:∀ j u,c[j]? = some u→w.cell? (ad.add (i.toNat*1+j))=some u:=hc0
  obtain ⟨A0,c0,rfl,l0,g0⟩:=hK
  exact ⟨ad,A0,c0,e,by have hq:=hc 0 _ rfl;rwa [Nat.mul_one,Nat.add_zero] at hq,l0,g0⟩

structure S147 where
  f0:Int
  f1:Int
def z147:S147:=⟨(0:Int),(0:Int)⟩
def k147:Kd S147:=Kd.iso (Kd.pair (Kd.int .i64) (Kd.int .i64)) (fun x:S147=>(x.f0,x.f1))
theorem k147_heap:Kd.Heap k147:=Kd.heap_iso _ (Kd.heap_pair (Kd.heap_int .i64) (Kd.heap_int .i64))
theorem k147_open {w:World} {x:S147} {cs:List Value} (h:k147.K w x cs):cs = [.int .i64 x.f0,.int .i64 x.f1]:=by
  obtain ⟨_,_,rfl,rfl,rfl⟩:=h
  exact rfl
theorem k147_openM {w:World} {base:Nat} {ok:Nat→Prop} {x:S147} {cs:List Value} (h:k147.M w base ok x cs):cs = [.int .i64 x.f0,.int .i64 x.f1]:=by
  obtain ⟨_,_,rfl,rfl,rfl⟩:=h
  exact rfl
theorem k147_mk (w:World) (x:S147)  : k147.K w x [.int .i64 x.f0,.int .i64 x.f1]:=⟨[.int .i64 x.f0],[.int .i64 x.f1],rfl,rfl,rfl⟩
theorem k147_mkM (w:World) (base:Nat) (ok:Nat→Prop) (x:S147)  : k147.M w base ok x [.int .i64 x.f0,.int .i64 x.f1]:=⟨[.int .i64 x.f0],[.int .i64 x.f1],rfl,rfl,rfl⟩
theorem k147_mkF (W:World) (ok:Nat→Prop) (x:S147):Kd.FK k147 W ok x [.int .i64 x.f0,.int .i64 x.f1]:=fun W2 _=>k147_mk W2 x
def rd_T147 (xs:List S147) (i:Int):S147:=xs.getD i.toNat z147
theorem at_T147 {w:World} {A:Option Addr} {n:Nat} {xs:List S147} (h:Kd.C k147 w A n xs) (i:Int) (h0:0≤i) (h1:i<n):∃ ad , A=some ad∧w.cell? (ad.add (i.toNat*2))=some (.int .i64 (rd_T147 xs i).f0)∧w.cell? ⟨(ad.add (i.toNat*2)).block,(ad.add (i.toNat*2)).off+1,none⟩=some (.int .i64 (rd_T147 xs i).f1):=by
  obtain ⟨ad,c,e,_,hK,hc0⟩:=Kd.C_get h z147 i h0 h1
  have hc:∀ j u,c[j]? = some u→w.cell? (ad.add (i.toNat*2+j))=some u:=hc0
  obtain rfl:=k147_open hK
  exact ⟨ad,e,hc 0 _ rfl,by rw [←add_field _ _ 1 (by omega)];exact hc 1 _ rfl⟩

def rd_L16 (xs:List (List S147)) (i:Int):(List S147):=xs.getD i.toNat ([]:List S147)
theorem at_L16 {w:World} {A:Option Addr} {n:Nat} {xs:List (List S147)} (h:Kd.C (Kd.slice 147 k147) w A n xs) (i:Int) (h0:0≤i) (h1:i<n):∃ ad A0 c0,A=some ad∧w.cell? (ad.add i.toNat)=some (.slice A0 (rd_L16 xs i).length c0)∧(rd_L16 xs i).length≤c0∧k147.C w A0 (rd_L16 xs i).length (rd_L16 xs i):=by
  obtain ⟨ad,c,e,_,hK,hc0⟩:=Kd.C_get h ([]:List S147) i h0 h1
  have hc:∀ j u,c[j]? = some u→w.cell? (ad.add (i.toNat*1+j))=some u:=hc0
  obtain ⟨A0,c0,rfl,l0,g0⟩:=hK
  exact ⟨ad,A0,c0,e,by have hq:=hc 0 _ rfl;rwa [Nat.mul_one,Nat.add_zero] at hq,l0,g0⟩

structure S210 where
  f0:ByteArray
  f1:ByteArray
  f2:Bool
def z210:S210:=⟨(⟨#[]⟩:ByteArray),(⟨#[]⟩:ByteArray),false⟩
def k210:Kd S210:=Kd.iso (Kd.pair Kd.string (Kd.pair Kd.string Kd.bool)) (fun x:S210=>(x.f0,x.f1,x.f2))
theorem k210_heap:Kd.Heap k210:=Kd.heap_iso _ (Kd.heap_pair Kd.heap_string (Kd.heap_pair Kd.heap_string Kd.heap_bool))
theorem k210_open {w:World} {x:S210} {cs:List Value} (h:k210.K w x cs):cs = [.string x.f0,.string x.f1,.bool x.f2]:=by
  obtain ⟨_,_,rfl,rfl,⟨_,_,rfl,rfl,rfl⟩⟩:=h
  exact rfl
theorem k210_openM {w:World} {base:Nat} {ok:Nat→Prop} {x:S210} {cs:List Value} (h:k210.M w base ok x cs):cs = [.string x.f0,.string x.f1,.bool x.f2]:=by
  obtain ⟨_,_,rfl,rfl,⟨_,_,rfl,rfl,rfl⟩⟩:=h
  exact rfl
theorem k210_mk (w:World) (x:S210)  : k210.K w x [.string x.f0,.string x.f1,.bool x.f2]:=⟨[.string x.f0],[.string x.f1,.bool x.f2],rfl,rfl,⟨[.string x.f1],[.bool x.f2],rfl,rfl,rfl⟩⟩
theorem k210_mkM (w:World) (base:Nat) (ok:Nat→Prop) (x:S210)  : k210.M w base ok x [.string x.f0,.string x.f1,.bool x.f2]:=⟨[.string x.f0],[.string x.f1,.bool x.f2],rfl,rfl,⟨[.string x.f1],[.bool x.f2],rfl,rfl,rfl⟩⟩
theorem k210_mkF (W:World) (ok:Nat→Prop) (x:S210):Kd.FK k210 W ok x [.string x.f0,.string x.f1,.bool x.f2]:=fun W2 _=>k210_mk W2 x
def rd_T210 (xs:List S210) (i:Int):S210:=xs.getD i.toNat z210
theorem at_T210 {w:World} {A:Option Addr} {n:Nat} {xs:List S210} (h:Kd.C k210 w A n xs) (i:Int) (h0:0≤i) (h1:i<n):∃ ad , A=some ad∧w.cell? (ad.add (i.toNat*3))=some (.string (rd_T210 xs i).f0)∧w.cell? ⟨(ad.add (i.toNat*3)).block,(ad.add (i.toNat*3)).off+1,none⟩=some (.string (rd_T210 xs i).f1)∧w.cell? ⟨(ad.add (i.toNat*3)).block,(ad.add (i.toNat*3)).off+2,none⟩=some (.bool (rd_T210 xs i).f2):=by
  obtain ⟨ad,c,e,_,hK,hc0⟩:=Kd.C_get h z210 i h0 h1
  have hc:∀ j u,c[j]? = some u→w.cell? (ad.add (i.toNat*3+j))=some u:=hc0
  obtain rfl:=k210_open hK
  exact ⟨ad,e,hc 0 _ rfl,by rw [←add_field _ _ 1 (by omega)];exact hc 1 _ rfl,by rw [←add_field _ _ 2 (by omega)];exact hc 2 _ rfl⟩

structure S161 where
  f0:Int
  f1:ByteArray
  f2:ByteArray
def z161:S161:=⟨(0:Int),(⟨#[]⟩:ByteArray),(⟨#[]⟩:ByteArray)⟩
def k161:Kd S161:=Kd.iso (Kd.pair (Kd.int .u8) (Kd.pair Kd.string Kd.string)) (fun x:S161=>(x.f0,x.f1,x.f2))
theorem k161_heap:Kd.Heap k161:=Kd.heap_iso _ (Kd.heap_pair (Kd.heap_int .u8) (Kd.heap_pair Kd.heap_string Kd.heap_string))
theorem k161_open {w:World} {x:S161} {cs:List Value} (h:k161.K w x cs):cs = [.int .u8 x.f0,.string x.f1,.string x.f2]:=by
  obtain ⟨_,_,rfl,rfl,⟨_,_,rfl,rfl,rfl⟩⟩:=h
  exact rfl
theorem k161_openM {w:World} {base:Nat} {ok:Nat→Prop} {x:S161} {cs:List Value} (h:k161.M w base ok x cs):cs = [.int .u8 x.f0,.string x.f1,.string x.f2]:=by
  obtain ⟨_,_,rfl,rfl,⟨_,_,rfl,rfl,rfl⟩⟩:=h
  exact rfl
theorem k161_mk (w:World) (x:S161)  : k161.K w x [.int .u8 x.f0,.string x.f1,.string x.f2]:=⟨[.int .u8 x.f0],[.string x.f1,.string x.f2],rfl,rfl,⟨[.string x.f1],[.string x.f2],rfl,rfl,rfl⟩⟩
theorem k161_mkM (w:World) (base:Nat) (ok:Nat→Prop) (x:S161)  : k161.M w base ok x [.int .u8 x.f0,.string x.f1,.string x.f2]:=⟨[.int .u8 x.f0],[.string x.f1,.string x.f2],rfl,rfl,⟨[.string x.f1],[.string x.f2],rfl,rfl,rfl⟩⟩
theorem k161_mkF (W:World) (ok:Nat→Prop) (x:S161):Kd.FK k161 W ok x [.int .u8 x.f0,.string x.f1,.string x.f2]:=fun W2 _=>k161_mk W2 x
def rd_T161 (xs:List S161) (i:Int):S161:=xs.getD i.toNat z161
theorem at_T161 {w:World} {A:Option Addr} {n:Nat} {xs:List S161} (h:Kd.C k161 w A n xs) (i:Int) (h0:0≤i) (h1:i<n):∃ ad , A=some ad∧w.cell? (ad.add (i.toNat*3))=some (.int .u8 (rd_T161 xs i).f0)∧w.cell? ⟨(ad.add (i.toNat*3)).block,(ad.add (i.toNat*3)).off+1,none⟩=some (.string (rd_T161 xs i).f1)∧w.cell? ⟨(ad.add (i.toNat*3)).block,(ad.add (i.toNat*3)).off+2,none⟩=some (.string (rd_T161 xs i).f2):=by
  obtain ⟨ad,c,e,_,hK,hc0⟩:=Kd.C_get h z161 i h0 h1
  have hc:∀ j u,c[j]? = some u→w.cell? (ad.add (i.toNat*3+j))=some u:=hc0
  obtain rfl:=k161_open hK
  exact ⟨ad,e,hc 0 _ rfl,by rw [←add_field _ _ 1 (by omega)];exact hc 1 _ rfl,by rw [←add_field _ _ 2 (by omega)];exact hc 2 _ rfl⟩

def rd_L19 (xs:List (List S161)) (i:Int):(List S161):=xs.getD i.toNat ([]:List S161)
theorem at_L19 {w:World} {A:Option Addr} {n:Nat} {xs:List (List S161)} (h:Kd.C (Kd.slice 161 k161) w A n xs) (i:Int) (h0:0≤i) (h1:i<n):∃ ad A0 c0,A=some ad∧w.cell? (ad.add i.toNat)=some (.slice A0 (rd_L19 xs i).length c0)∧(rd_L19 xs i).length≤c0∧k161.C w A0 (rd_L19 xs i).length (rd_L19 xs i):=by
  obtain ⟨ad,c,e,_,hK,hc0⟩:=Kd.C_get h ([]:List S161) i h0 h1
  have hc:∀ j u,c[j]? = some u→w.cell? (ad.add (i.toNat*1+j))=some u:=hc0
  obtain ⟨A0,c0,rfl,l0,g0⟩:=hK
  exact ⟨ad,A0,c0,e,by have hq:=hc 0 _ rfl;rwa [Nat.mul_one,Nat.add_zero] at hq,l0,g0⟩

theorem own_len (A:Option Addr) (n m c d:Nat):(Value.slice A n c).ownBlock=(Value.slice A m d).ownBlock:=by cases A <;> rfl

theorem less_turn : ∀ x y : List UInt8, (Op.bytesLess x y || (x == y)) = !(Op.bytesLess y x)
  | [],[]=>by simp [Op.bytesLess]
  | [],_ :: _=>by simp [Op.bytesLess]
  | _ :: _,[]=>by simp [Op.bytesLess]
  | a :: x, b :: y => by
    have ih:=less_turn x y
    simp only [Op.bytesLess]
    by_cases h:a=b
    · subst h
      simpa using ih
    · by_cases h1 : a < b
      · have h2 : ¬ b < a := by simp only [UInt8.lt_iff_toNat_lt] at h1 ⊢; omega
        have h3:¬ b=a:=fun e=>h e.symm
        simp [h1,h2,h3]
      · have h2 : b < a := by
          have:a.toNat≠b.toNat:=fun e=>h (UInt8.toNat_inj.1 e)
          simp only [UInt8.lt_iff_toNat_lt] at h1 ⊢; omega
        simp [h,h1,h2]
@[go_sem] theorem binOp_string_geq_ (t:TypeId) (a b:ByteArray):binOp .geq t (.string a) (.string b)=pure (.bool !(Op.bytesLess a.toList b.toList)):=by simp [binOp,Op.stringOp]
@[go_sem] theorem binOp_string_leq_ (t:TypeId) (a b:ByteArray):binOp .leq t (.string a) (.string b)=pure (.bool !(Op.bytesLess b.toList a.toList)):=by simp [binOp,Op.stringOp,less_turn]
@[go_sem] theorem binOp_string_gtr_ (t:TypeId) (a b:ByteArray):binOp .gtr t (.string a) (.string b)=pure (.bool (Op.bytesLess b.toList a.toList)):=by simp [binOp,Op.stringOp,less_turn]

end Go.Proofs.YtknagppkeodggaaDoor.P


namespace Go.Proofs.YtknagppkeodggaaDoor.P
open Go.RowKit Go.Proofs.YtknagppkeodggaaDoorW.PrintWords Go.Proofs.YtknagppkeodggaaDoorW.PrintLast Go.Proofs.YtknagppkeodggaaDoorW.PrintMore
attribute [local go_sem] max2_int min2_int max_two min_two max_three min_three max_four min_four
set_option linter.unusedVariables false
set_option linter.unusedSimpArgs false

theorem eqA27 (d:Nat) (w:World) (x0 y0:ByteArray) (x1 y1:ByteArray) (x2 y2:Bool) :
  (Op.equalIn (d+2) 27 (.agg #[.string x0,.string x1,.bool x2]) (.agg #[.string y0,.string y1,.bool y2])).run Tryd.prog w = .ok (x0.toList==y0.toList&&(x1.toList==y1.toList&&(x2==y2))) w:=by
 refine eqA_of Tryd.underlying27 (by kernel_rfl) ?_
 refine eqf_cons (by rfl) (by go_simp;rfl) (by go_simp;rfl) (by go_simp) ?_
 refine eqf_cons (by rfl) (by go_simp;rfl) (by go_simp;rfl) (by go_simp) ?_
 exact eqf_last (by rfl) (by go_simp;rfl) (by go_simp;rfl) (by go_simp)
end Go.Proofs.YtknagppkeodggaaDoor.P

