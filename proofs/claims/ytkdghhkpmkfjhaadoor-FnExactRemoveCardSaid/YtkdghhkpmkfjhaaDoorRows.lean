/-
  NARROWER THAN 'FOR EVERY INPUT', by the rows' own cells (each row's printed sentence says how): FnExactValidTree: laid · FnExactValidPatch: laid · FnExactGet: laid · FnExactUnder: laid · FnExactUndo: laid · FnExactRemove: laid · FnExactPick: laid · FnExactPut: laid · FnExactMount: laid.
  DERIVED. THE GIVEN ROWS OF THIS SEAT. 9 by the template 'for every input the law returns true; each argument reads behind the call as it read before'; 0 by the template 'total and deterministic' (their statements: YtkdghhkpmkfjhaaDoorTotals.lean).
  GIVEN WITH THE SEED: the statements are not yours to turn. If you find one false, say at which input.
  Laid BY PROGRAM, IN A SANDBOX (cutbox-rows.mjs): the forced cells as the released guide's own fill.sh prints them over the translation dfb1f3d00535f30f… (all of the seat's roots in one cut). By AI agents, Wed Nov 11 2026. No macro, syntax, notation, axiom, sorry.
-/
import Derived.Test.YtkdghhkpmkfjhaaDoorChecked
import GoSem.PinnedTables
import GoSem.Claim
import GoSem.ClaimJoined
import GoSem.ClaimMapViews
import Derived.JoinedTies
import Derived.KernelRfl
namespace Go.Proofs.YtkdghhkpmkfjhaaDoor
/- THE CELL 'sum', in the pinned program and in every row, IS THE sha256 OF THE DUMP (.gsa) THAT YtkdghhkpmkfjhaaDoorProg.lean LOADS. Nothing in Lean hashes anything: it is a label: what it is worth is what the hold of that sum in a sandbox is worth. -/
noncomputable def Tryd.pinned : Pinned := { name := "ytkdghhkpmkfjhaadoor", sum := "dfb1f3d00535f30f92bf83cc8275ce5ab1cca05ab71c9c70bf33762fa2dccff1", checked := Tryd.checked }
namespace Rows
def none {H : Type} : Left H := { results := [], args := [] }

/- WHAT THE LISTED PACKAGE-LEVEL VARIABLES READ AS WHEN THE CALL BEGINS. Each datum BY PROGRAM (the guide's laid-datum.mjs) off the statement by which the dump's own 'gosem.cut.vars' lays the variable. In a bare row this is a premise. The card (YtkdghhkpmkfjhaaDoorCards.lean) ties it to the program's text. -/
def laid_unicode_utf8_acceptRanges {H : Type} : DataW H := .agg [.agg [.lit (.int .u8 128), .lit (.int .u8 191)], .agg [.lit (.int .u8 160), .lit (.int .u8 191)], .agg [.lit (.int .u8 128), .lit (.int .u8 159)], .agg [.lit (.int .u8 144), .lit (.int .u8 191)], .agg [.lit (.int .u8 128), .lit (.int .u8 143)], .agg [.lit (.int .u8 0), .lit (.int .u8 0)], .agg [.lit (.int .u8 0), .lit (.int .u8 0)], .agg [.lit (.int .u8 0), .lit (.int .u8 0)], .agg [.lit (.int .u8 0), .lit (.int .u8 0)], .agg [.lit (.int .u8 0), .lit (.int .u8 0)], .agg [.lit (.int .u8 0), .lit (.int .u8 0)], .agg [.lit (.int .u8 0), .lit (.int .u8 0)], .agg [.lit (.int .u8 0), .lit (.int .u8 0)], .agg [.lit (.int .u8 0), .lit (.int .u8 0)], .agg [.lit (.int .u8 0), .lit (.int .u8 0)], .agg [.lit (.int .u8 0), .lit (.int .u8 0)]]
/-- One of Go's own tables, pinned by name: the form's constant. -/
def laid_unicode_utf8_first : DataW Unit := Go.Pinned.utf8First

/-- 'laws.FnExactValidTree': WHATEVER THE INPUT: true; the input reads as it did. -/
def fnExactValidTreeSpec : ChangeSpec := { name := "fnExactValidTree", fn := fun _ => fun
  | [d] => { results := [.lit (.bool true)], args := [d] }
  | _ => none }
def fnExactValidTreeRow : OpenClaim := { program := "ytkdghhkpmkfjhaadoor", sum := "dfb1f3d00535f30f92bf83cc8275ce5ab1cca05ab71c9c70bf33762fa2dccff1", func := "loop.example/kilntree/laws.FnExactValidTree", spec := "fnExactValidTree", inPlace := ["internal/bytealg.CountString", "internal/bytealg.IndexByteString", "internal/bytealg.IndexString"], named := ["unicode/utf8.first", "unicode/utf8.acceptRanges", "internal/bytealg.MaxLen"], apart := false, laid := [("unicode/utf8.acceptRanges", laid_unicode_utf8_acceptRanges), ("unicode/utf8.first", laid_unicode_utf8_first)] }
def FnExactValidTreeSaid : Prop := fnExactValidTreeRow.holds Tryd.pinned (OpenSpec.ofChange fnExactValidTreeSpec)

/-- ITS FALSE NEIGHBOUR: 'it returns false'. Refute it at one input. -/
def fnExactValidTreeWrong : ChangeSpec := { name := "fnExactValidTree", fn := fun _ => fun
  | [d] => { results := [.lit (.bool false)], args := [d] }
  | _ => none }
def FnExactValidTreeWrongFalsely : Prop := fnExactValidTreeRow.holds Tryd.pinned (OpenSpec.ofChange fnExactValidTreeWrong)

/-- 'laws.FnExactValidPatch': WHATEVER THE INPUT: true; the input reads as it did. -/
def fnExactValidPatchSpec : ChangeSpec := { name := "fnExactValidPatch", fn := fun _ => fun
  | [d] => { results := [.lit (.bool true)], args := [d] }
  | _ => none }
def fnExactValidPatchRow : OpenClaim := { program := "ytkdghhkpmkfjhaadoor", sum := "dfb1f3d00535f30f92bf83cc8275ce5ab1cca05ab71c9c70bf33762fa2dccff1", func := "loop.example/kilntree/laws.FnExactValidPatch", spec := "fnExactValidPatch", inPlace := ["internal/bytealg.CountString", "internal/bytealg.IndexByteString", "internal/bytealg.IndexString"], named := ["unicode/utf8.first", "unicode/utf8.acceptRanges", "internal/bytealg.MaxLen"], apart := false, laid := [("unicode/utf8.acceptRanges", laid_unicode_utf8_acceptRanges), ("unicode/utf8.first", laid_unicode_utf8_first)] }
def FnExactValidPatchSaid : Prop := fnExactValidPatchRow.holds Tryd.pinned (OpenSpec.ofChange fnExactValidPatchSpec)

/-- ITS FALSE NEIGHBOUR: 'it returns false'. Refute it at one input. -/
def fnExactValidPatchWrong : ChangeSpec := { name := "fnExactValidPatch", fn := fun _ => fun
  | [d] => { results := [.lit (.bool false)], args := [d] }
  | _ => none }
def FnExactValidPatchWrongFalsely : Prop := fnExactValidPatchRow.holds Tryd.pinned (OpenSpec.ofChange fnExactValidPatchWrong)

/-- 'laws.FnExactGet': WHATEVER THE INPUT: true; the input reads as it did. -/
def fnExactGetSpec : ChangeSpec := { name := "fnExactGet", fn := fun _ => fun
  | [d1, d2] => { results := [.lit (.bool true)], args := [d1, d2] }
  | _ => none }
def fnExactGetRow : OpenClaim := { program := "ytkdghhkpmkfjhaadoor", sum := "dfb1f3d00535f30f92bf83cc8275ce5ab1cca05ab71c9c70bf33762fa2dccff1", func := "loop.example/kilntree/laws.FnExactGet", spec := "fnExactGet", inPlace := ["internal/bytealg.CountString", "internal/bytealg.IndexByteString", "internal/bytealg.IndexString", "internal/bytealg.abigen_runtime_cmpstring"], unfollowed := true, recurses := true, named := ["unicode/utf8.first", "unicode/utf8.acceptRanges", "internal/bytealg.MaxLen"], apart := false, laid := [("unicode/utf8.acceptRanges", laid_unicode_utf8_acceptRanges), ("unicode/utf8.first", laid_unicode_utf8_first)] }
def FnExactGetSaid : Prop := fnExactGetRow.holds Tryd.pinned (OpenSpec.ofChange fnExactGetSpec)

/-- ITS FALSE NEIGHBOUR: 'it returns false'. Refute it at one input. -/
def fnExactGetWrong : ChangeSpec := { name := "fnExactGet", fn := fun _ => fun
  | [d1, d2] => { results := [.lit (.bool false)], args := [d1, d2] }
  | _ => none }
def FnExactGetWrongFalsely : Prop := fnExactGetRow.holds Tryd.pinned (OpenSpec.ofChange fnExactGetWrong)

/-- 'laws.FnExactUnder': WHATEVER THE INPUT: true; the input reads as it did. -/
def fnExactUnderSpec : ChangeSpec := { name := "fnExactUnder", fn := fun _ => fun
  | [d1, d2] => { results := [.lit (.bool true)], args := [d1, d2] }
  | _ => none }
def fnExactUnderRow : OpenClaim := { program := "ytkdghhkpmkfjhaadoor", sum := "dfb1f3d00535f30f92bf83cc8275ce5ab1cca05ab71c9c70bf33762fa2dccff1", func := "loop.example/kilntree/laws.FnExactUnder", spec := "fnExactUnder", inPlace := ["internal/bytealg.CountString", "internal/bytealg.IndexByteString", "internal/bytealg.IndexString"], named := ["unicode/utf8.first", "unicode/utf8.acceptRanges", "internal/bytealg.MaxLen"], apart := false, laid := [("unicode/utf8.acceptRanges", laid_unicode_utf8_acceptRanges), ("unicode/utf8.first", laid_unicode_utf8_first)] }
def FnExactUnderSaid : Prop := fnExactUnderRow.holds Tryd.pinned (OpenSpec.ofChange fnExactUnderSpec)

/-- ITS FALSE NEIGHBOUR: 'it returns false'. Refute it at one input. -/
def fnExactUnderWrong : ChangeSpec := { name := "fnExactUnder", fn := fun _ => fun
  | [d1, d2] => { results := [.lit (.bool false)], args := [d1, d2] }
  | _ => none }
def FnExactUnderWrongFalsely : Prop := fnExactUnderRow.holds Tryd.pinned (OpenSpec.ofChange fnExactUnderWrong)

/-- 'laws.FnExactUndo': WHATEVER THE INPUT: true; the input reads as it did. -/
def fnExactUndoSpec : ChangeSpec := { name := "fnExactUndo", fn := fun _ => fun
  | [d] => { results := [.lit (.bool true)], args := [d] }
  | _ => none }
def fnExactUndoRow : OpenClaim := { program := "ytkdghhkpmkfjhaadoor", sum := "dfb1f3d00535f30f92bf83cc8275ce5ab1cca05ab71c9c70bf33762fa2dccff1", func := "loop.example/kilntree/laws.FnExactUndo", spec := "fnExactUndo", inPlace := ["internal/bytealg.CountString", "internal/bytealg.IndexByteString", "internal/bytealg.IndexString"], named := ["unicode/utf8.first", "unicode/utf8.acceptRanges", "internal/bytealg.MaxLen"], apart := false, laid := [("unicode/utf8.acceptRanges", laid_unicode_utf8_acceptRanges), ("unicode/utf8.first", laid_unicode_utf8_first)] }
def FnExactUndoSaid : Prop := fnExactUndoRow.holds Tryd.pinned (OpenSpec.ofChange fnExactUndoSpec)

/-- ITS FALSE NEIGHBOUR: 'it returns false'. Refute it at one input. -/
def fnExactUndoWrong : ChangeSpec := { name := "fnExactUndo", fn := fun _ => fun
  | [d] => { results := [.lit (.bool false)], args := [d] }
  | _ => none }
def FnExactUndoWrongFalsely : Prop := fnExactUndoRow.holds Tryd.pinned (OpenSpec.ofChange fnExactUndoWrong)

/-- 'laws.FnExactRemove': WHATEVER THE INPUT: true; the input reads as it did. -/
def fnExactRemoveSpec : ChangeSpec := { name := "fnExactRemove", fn := fun _ => fun
  | [d1, d2] => { results := [.lit (.bool true)], args := [d1, d2] }
  | _ => none }
def fnExactRemoveRow : OpenClaim := { program := "ytkdghhkpmkfjhaadoor", sum := "dfb1f3d00535f30f92bf83cc8275ce5ab1cca05ab71c9c70bf33762fa2dccff1", func := "loop.example/kilntree/laws.FnExactRemove", spec := "fnExactRemove", inPlace := ["internal/bytealg.CountString", "internal/bytealg.IndexByteString", "internal/bytealg.IndexString", "internal/bytealg.abigen_runtime_cmpstring"], unfollowed := true, recurses := true, named := ["unicode/utf8.first", "unicode/utf8.acceptRanges", "internal/bytealg.MaxLen"], apart := false, laid := [("unicode/utf8.acceptRanges", laid_unicode_utf8_acceptRanges), ("unicode/utf8.first", laid_unicode_utf8_first)] }
def FnExactRemoveSaid : Prop := fnExactRemoveRow.holds Tryd.pinned (OpenSpec.ofChange fnExactRemoveSpec)

/-- ITS FALSE NEIGHBOUR: 'it returns false'. Refute it at one input. -/
def fnExactRemoveWrong : ChangeSpec := { name := "fnExactRemove", fn := fun _ => fun
  | [d1, d2] => { results := [.lit (.bool false)], args := [d1, d2] }
  | _ => none }
def FnExactRemoveWrongFalsely : Prop := fnExactRemoveRow.holds Tryd.pinned (OpenSpec.ofChange fnExactRemoveWrong)

/-- 'laws.FnExactPick': WHATEVER THE INPUT: true; the input reads as it did. -/
def fnExactPickSpec : ChangeSpec := { name := "fnExactPick", fn := fun _ => fun
  | [d1, d2] => { results := [.lit (.bool true)], args := [d1, d2] }
  | _ => none }
def fnExactPickRow : OpenClaim := { program := "ytkdghhkpmkfjhaadoor", sum := "dfb1f3d00535f30f92bf83cc8275ce5ab1cca05ab71c9c70bf33762fa2dccff1", func := "loop.example/kilntree/laws.FnExactPick", spec := "fnExactPick", inPlace := ["internal/bytealg.CountString", "internal/bytealg.IndexByteString", "internal/bytealg.IndexString"], unfollowed := true, recurses := true, named := ["unicode/utf8.first", "unicode/utf8.acceptRanges", "internal/bytealg.MaxLen"], apart := false, laid := [("unicode/utf8.acceptRanges", laid_unicode_utf8_acceptRanges), ("unicode/utf8.first", laid_unicode_utf8_first)] }
def FnExactPickSaid : Prop := fnExactPickRow.holds Tryd.pinned (OpenSpec.ofChange fnExactPickSpec)

/-- ITS FALSE NEIGHBOUR: 'it returns false'. Refute it at one input. -/
def fnExactPickWrong : ChangeSpec := { name := "fnExactPick", fn := fun _ => fun
  | [d1, d2] => { results := [.lit (.bool false)], args := [d1, d2] }
  | _ => none }
def FnExactPickWrongFalsely : Prop := fnExactPickRow.holds Tryd.pinned (OpenSpec.ofChange fnExactPickWrong)

/-- 'laws.FnExactPut': WHATEVER THE INPUT: true; the input reads as it did. -/
def fnExactPutSpec : ChangeSpec := { name := "fnExactPut", fn := fun _ => fun
  | [d1, d2] => { results := [.lit (.bool true)], args := [d1, d2] }
  | _ => none }
def fnExactPutRow : OpenClaim := { program := "ytkdghhkpmkfjhaadoor", sum := "dfb1f3d00535f30f92bf83cc8275ce5ab1cca05ab71c9c70bf33762fa2dccff1", func := "loop.example/kilntree/laws.FnExactPut", spec := "fnExactPut", inPlace := ["internal/bytealg.CountString", "internal/bytealg.IndexByteString", "internal/bytealg.IndexString", "internal/reflectlite.ValueOf", "internal/reflectlite.Swapper", "(internal/reflectlite.Value).Len"], unfollowed := true, recurses := true, named := ["unicode/utf8.first", "unicode/utf8.acceptRanges", "internal/bytealg.MaxLen"], apart := false, laid := [("unicode/utf8.acceptRanges", laid_unicode_utf8_acceptRanges), ("unicode/utf8.first", laid_unicode_utf8_first)] }
def FnExactPutSaid : Prop := fnExactPutRow.holds Tryd.pinned (OpenSpec.ofChange fnExactPutSpec)

/-- ITS FALSE NEIGHBOUR: 'it returns false'. Refute it at one input. -/
def fnExactPutWrong : ChangeSpec := { name := "fnExactPut", fn := fun _ => fun
  | [d1, d2] => { results := [.lit (.bool false)], args := [d1, d2] }
  | _ => none }
def FnExactPutWrongFalsely : Prop := fnExactPutRow.holds Tryd.pinned (OpenSpec.ofChange fnExactPutWrong)

/-- 'laws.FnExactMount': WHATEVER THE INPUT: true; the input reads as it did. -/
def fnExactMountSpec : ChangeSpec := { name := "fnExactMount", fn := fun _ => fun
  | [d1, d2, d3] => { results := [.lit (.bool true)], args := [d1, d2, d3] }
  | _ => none }
def fnExactMountRow : OpenClaim := { program := "ytkdghhkpmkfjhaadoor", sum := "dfb1f3d00535f30f92bf83cc8275ce5ab1cca05ab71c9c70bf33762fa2dccff1", func := "loop.example/kilntree/laws.FnExactMount", spec := "fnExactMount", inPlace := ["internal/bytealg.CountString", "internal/bytealg.IndexByteString", "internal/bytealg.IndexString", "internal/reflectlite.ValueOf", "internal/reflectlite.Swapper", "(internal/reflectlite.Value).Len"], unfollowed := true, recurses := true, named := ["unicode/utf8.first", "unicode/utf8.acceptRanges", "internal/bytealg.MaxLen"], apart := false, laid := [("unicode/utf8.acceptRanges", laid_unicode_utf8_acceptRanges), ("unicode/utf8.first", laid_unicode_utf8_first)] }
def FnExactMountSaid : Prop := fnExactMountRow.holds Tryd.pinned (OpenSpec.ofChange fnExactMountSpec)

/-- ITS FALSE NEIGHBOUR: 'it returns false'. Refute it at one input. -/
def fnExactMountWrong : ChangeSpec := { name := "fnExactMount", fn := fun _ => fun
  | [d1, d2, d3] => { results := [.lit (.bool false)], args := [d1, d2, d3] }
  | _ => none }
def FnExactMountWrongFalsely : Prop := fnExactMountRow.holds Tryd.pinned (OpenSpec.ofChange fnExactMountWrong)

/- THE SECOND FORM. 'bulk': how many values and letters a reading holds, each counted each time it is reached (what is shared counts as often as it is met; a slice's spare places count too). A statement '..UptoSaid' is the law's where the arguments, and the package variables that the reading takes, are together of bulk at most 1048576: NARROWER than '..Said'. Prove '..Said' where nothing that the law and all that it calls make is longer than what came in: it says more and counts as full. Else prove '..UptoSaid'. A law counts once. -/
mutual
def uptoBulk {H : Type} : DataW H → Nat
  | .lit (.string bytes) => bytes.length + 1
  | .lit _ => 1
  | .nil => 1
  | .ptr d => uptoBulk d + 1
  | .slice elems spare => uptoBulkAll elems + uptoBulkAll spare + 1
  | .agg parts => uptoBulkAll parts + 1
  | .iface _ d => uptoBulk d + 1
  | .map entries => uptoBulkEntries entries + 1
  | .held _ => 1
def uptoBulkAll {H : Type} : List (DataW H) → Nat
  | [] => 0
  | d :: r => uptoBulk d + uptoBulkAll r
def uptoBulkEntries {H : Type} : List (Lit × DataW H) → Nat
  | [] => 0
  | x :: r => uptoBulkEntry x + uptoBulkEntries r
def uptoBulkEntry {H : Type} : Lit × DataW H → Nat
  | (.string bytes, d) => bytes.length + uptoBulk d + 1
  | (_, d) => uptoBulk d + 1
 end
def uptoSmall : (H : Type) → List (DataW H) → Bool := fun _ ds => decide (uptoBulkAll ds ≤ 1048576)
def OpenSpec.upto (s : _root_.Go.ChangeSpec) : _root_.Go.OpenSpec := { _root_.Go.OpenSpec.ofChange s with cond := some uptoSmall }

/-- 'laws.FnExactValidTree', WHERE WHAT IT READS IS OF BULK AT MOST 1048576: true; the input reads as it did. -/
def fnExactValidTreeUptoRow : OpenClaim := { program := "ytkdghhkpmkfjhaadoor", sum := "dfb1f3d00535f30f92bf83cc8275ce5ab1cca05ab71c9c70bf33762fa2dccff1", func := "loop.example/kilntree/laws.FnExactValidTree", spec := "fnExactValidTree", inPlace := ["internal/bytealg.CountString", "internal/bytealg.IndexByteString", "internal/bytealg.IndexString"], named := ["unicode/utf8.first", "unicode/utf8.acceptRanges", "internal/bytealg.MaxLen"], apart := false, laid := [("unicode/utf8.acceptRanges", laid_unicode_utf8_acceptRanges), ("unicode/utf8.first", laid_unicode_utf8_first)], narrowed := true }
def FnExactValidTreeUptoSaid : Prop := fnExactValidTreeUptoRow.holds Tryd.pinned (OpenSpec.upto fnExactValidTreeSpec)

/-- 'laws.FnExactValidPatch', WHERE WHAT IT READS IS OF BULK AT MOST 1048576: true; the input reads as it did. -/
def fnExactValidPatchUptoRow : OpenClaim := { program := "ytkdghhkpmkfjhaadoor", sum := "dfb1f3d00535f30f92bf83cc8275ce5ab1cca05ab71c9c70bf33762fa2dccff1", func := "loop.example/kilntree/laws.FnExactValidPatch", spec := "fnExactValidPatch", inPlace := ["internal/bytealg.CountString", "internal/bytealg.IndexByteString", "internal/bytealg.IndexString"], named := ["unicode/utf8.first", "unicode/utf8.acceptRanges", "internal/bytealg.MaxLen"], apart := false, laid := [("unicode/utf8.acceptRanges", laid_unicode_utf8_acceptRanges), ("unicode/utf8.first", laid_unicode_utf8_first)], narrowed := true }
def FnExactValidPatchUptoSaid : Prop := fnExactValidPatchUptoRow.holds Tryd.pinned (OpenSpec.upto fnExactValidPatchSpec)

/-- 'laws.FnExactGet', WHERE WHAT IT READS IS OF BULK AT MOST 1048576: true; the input reads as it did. -/
def fnExactGetUptoRow : OpenClaim := { program := "ytkdghhkpmkfjhaadoor", sum := "dfb1f3d00535f30f92bf83cc8275ce5ab1cca05ab71c9c70bf33762fa2dccff1", func := "loop.example/kilntree/laws.FnExactGet", spec := "fnExactGet", inPlace := ["internal/bytealg.CountString", "internal/bytealg.IndexByteString", "internal/bytealg.IndexString", "internal/bytealg.abigen_runtime_cmpstring"], unfollowed := true, recurses := true, named := ["unicode/utf8.first", "unicode/utf8.acceptRanges", "internal/bytealg.MaxLen"], apart := false, laid := [("unicode/utf8.acceptRanges", laid_unicode_utf8_acceptRanges), ("unicode/utf8.first", laid_unicode_utf8_first)], narrowed := true }
def FnExactGetUptoSaid : Prop := fnExactGetUptoRow.holds Tryd.pinned (OpenSpec.upto fnExactGetSpec)

/-- 'laws.FnExactUnder', WHERE WHAT IT READS IS OF BULK AT MOST 1048576: true; the input reads as it did. -/
def fnExactUnderUptoRow : OpenClaim := { program := "ytkdghhkpmkfjhaadoor", sum := "dfb1f3d00535f30f92bf83cc8275ce5ab1cca05ab71c9c70bf33762fa2dccff1", func := "loop.example/kilntree/laws.FnExactUnder", spec := "fnExactUnder", inPlace := ["internal/bytealg.CountString", "internal/bytealg.IndexByteString", "internal/bytealg.IndexString"], named := ["unicode/utf8.first", "unicode/utf8.acceptRanges", "internal/bytealg.MaxLen"], apart := false, laid := [("unicode/utf8.acceptRanges", laid_unicode_utf8_acceptRanges), ("unicode/utf8.first", laid_unicode_utf8_first)], narrowed := true }
def FnExactUnderUptoSaid : Prop := fnExactUnderUptoRow.holds Tryd.pinned (OpenSpec.upto fnExactUnderSpec)

/-- 'laws.FnExactUndo', WHERE WHAT IT READS IS OF BULK AT MOST 1048576: true; the input reads as it did. -/
def fnExactUndoUptoRow : OpenClaim := { program := "ytkdghhkpmkfjhaadoor", sum := "dfb1f3d00535f30f92bf83cc8275ce5ab1cca05ab71c9c70bf33762fa2dccff1", func := "loop.example/kilntree/laws.FnExactUndo", spec := "fnExactUndo", inPlace := ["internal/bytealg.CountString", "internal/bytealg.IndexByteString", "internal/bytealg.IndexString"], named := ["unicode/utf8.first", "unicode/utf8.acceptRanges", "internal/bytealg.MaxLen"], apart := false, laid := [("unicode/utf8.acceptRanges", laid_unicode_utf8_acceptRanges), ("unicode/utf8.first", laid_unicode_utf8_first)], narrowed := true }
def FnExactUndoUptoSaid : Prop := fnExactUndoUptoRow.holds Tryd.pinned (OpenSpec.upto fnExactUndoSpec)

/-- 'laws.FnExactRemove', WHERE WHAT IT READS IS OF BULK AT MOST 1048576: true; the input reads as it did. -/
def fnExactRemoveUptoRow : OpenClaim := { program := "ytkdghhkpmkfjhaadoor", sum := "dfb1f3d00535f30f92bf83cc8275ce5ab1cca05ab71c9c70bf33762fa2dccff1", func := "loop.example/kilntree/laws.FnExactRemove", spec := "fnExactRemove", inPlace := ["internal/bytealg.CountString", "internal/bytealg.IndexByteString", "internal/bytealg.IndexString", "internal/bytealg.abigen_runtime_cmpstring"], unfollowed := true, recurses := true, named := ["unicode/utf8.first", "unicode/utf8.acceptRanges", "internal/bytealg.MaxLen"], apart := false, laid := [("unicode/utf8.acceptRanges", laid_unicode_utf8_acceptRanges), ("unicode/utf8.first", laid_unicode_utf8_first)], narrowed := true }
def FnExactRemoveUptoSaid : Prop := fnExactRemoveUptoRow.holds Tryd.pinned (OpenSpec.upto fnExactRemoveSpec)

/-- 'laws.FnExactPick', WHERE WHAT IT READS IS OF BULK AT MOST 1048576: true; the input reads as it did. -/
def fnExactPickUptoRow : OpenClaim := { program := "ytkdghhkpmkfjhaadoor", sum := "dfb1f3d00535f30f92bf83cc8275ce5ab1cca05ab71c9c70bf33762fa2dccff1", func := "loop.example/kilntree/laws.FnExactPick", spec := "fnExactPick", inPlace := ["internal/bytealg.CountString", "internal/bytealg.IndexByteString", "internal/bytealg.IndexString"], unfollowed := true, recurses := true, named := ["unicode/utf8.first", "unicode/utf8.acceptRanges", "internal/bytealg.MaxLen"], apart := false, laid := [("unicode/utf8.acceptRanges", laid_unicode_utf8_acceptRanges), ("unicode/utf8.first", laid_unicode_utf8_first)], narrowed := true }
def FnExactPickUptoSaid : Prop := fnExactPickUptoRow.holds Tryd.pinned (OpenSpec.upto fnExactPickSpec)

/-- 'laws.FnExactPut', WHERE WHAT IT READS IS OF BULK AT MOST 1048576: true; the input reads as it did. -/
def fnExactPutUptoRow : OpenClaim := { program := "ytkdghhkpmkfjhaadoor", sum := "dfb1f3d00535f30f92bf83cc8275ce5ab1cca05ab71c9c70bf33762fa2dccff1", func := "loop.example/kilntree/laws.FnExactPut", spec := "fnExactPut", inPlace := ["internal/bytealg.CountString", "internal/bytealg.IndexByteString", "internal/bytealg.IndexString", "internal/reflectlite.ValueOf", "internal/reflectlite.Swapper", "(internal/reflectlite.Value).Len"], unfollowed := true, recurses := true, named := ["unicode/utf8.first", "unicode/utf8.acceptRanges", "internal/bytealg.MaxLen"], apart := false, laid := [("unicode/utf8.acceptRanges", laid_unicode_utf8_acceptRanges), ("unicode/utf8.first", laid_unicode_utf8_first)], narrowed := true }
def FnExactPutUptoSaid : Prop := fnExactPutUptoRow.holds Tryd.pinned (OpenSpec.upto fnExactPutSpec)

/-- 'laws.FnExactMount', WHERE WHAT IT READS IS OF BULK AT MOST 1048576: true; the input reads as it did. -/
def fnExactMountUptoRow : OpenClaim := { program := "ytkdghhkpmkfjhaadoor", sum := "dfb1f3d00535f30f92bf83cc8275ce5ab1cca05ab71c9c70bf33762fa2dccff1", func := "loop.example/kilntree/laws.FnExactMount", spec := "fnExactMount", inPlace := ["internal/bytealg.CountString", "internal/bytealg.IndexByteString", "internal/bytealg.IndexString", "internal/reflectlite.ValueOf", "internal/reflectlite.Swapper", "(internal/reflectlite.Value).Len"], unfollowed := true, recurses := true, named := ["unicode/utf8.first", "unicode/utf8.acceptRanges", "internal/bytealg.MaxLen"], apart := false, laid := [("unicode/utf8.acceptRanges", laid_unicode_utf8_acceptRanges), ("unicode/utf8.first", laid_unicode_utf8_first)], narrowed := true }
def FnExactMountUptoSaid : Prop := fnExactMountUptoRow.holds Tryd.pinned (OpenSpec.upto fnExactMountSpec)

end Rows
end Go.Proofs.YtkdghhkpmkfjhaaDoor
