/-
  NARROWER THAN 'FOR EVERY INPUT', by the rows' own cells (each row's printed sentence says how): FnExactMergeText: laid · FnMergeText: laid · FnExactShow: laid · FnExactTreeSum: laid · FnExactDirText: laid.
  DERIVED. THE GIVEN ROWS OF THIS SEAT. 5 by the template 'for every input the law returns true; each argument reads behind the call as it read before'; 0 by the template 'total and deterministic' (their statements: YtkmfnmeilooogaaDoorTotals.lean).
  GIVEN WITH THE SEED: the statements are not yours to turn. If you find one false, say at which input.
  Laid BY PROGRAM, IN A SANDBOX (cutbox-rows.mjs): the forced cells as the released guide's own fill.sh prints them over the translation e8c74f5a5b1d2556… (all of the seat's roots in one cut). By AI agents, Wed Nov 11 2026. No macro, syntax, notation, axiom, sorry.
-/
import Derived.Test.YtkmfnmeilooogaaDoorChecked
import GoSem.PinnedTables
import GoSem.Claim
import GoSem.ClaimJoined
import GoSem.ClaimMapViews
import Derived.JoinedTies
import Derived.KernelRfl
namespace Go.Proofs.YtkmfnmeilooogaaDoor
/- THE CELL 'sum', in the pinned program and in every row, IS THE sha256 OF THE DUMP (.gsa) THAT YtkmfnmeilooogaaDoorProg.lean LOADS. Nothing in Lean hashes anything: it is a label: what it is worth is what the hold of that sum in a sandbox is worth. -/
noncomputable def Tryd.pinned : Pinned := { name := "ytkmfnmeilooogaadoor", sum := "e8c74f5a5b1d2556b2c2cdb3ee90a205a7450c371f5bd5a1fdc06b45f3261374", checked := Tryd.checked }
namespace Rows
def none {H : Type} : Left H := { results := [], args := [] }

/- WHAT THE LISTED PACKAGE-LEVEL VARIABLES READ AS WHEN THE CALL BEGINS. Each datum BY PROGRAM (the guide's laid-datum.mjs) off the statement by which the dump's own 'gosem.cut.vars' lays the variable. In a bare row this is a premise. The card (YtkmfnmeilooogaaDoorCards.lean) ties it to the program's text. -/
def laid_unicode_utf8_acceptRanges {H : Type} : DataW H := .agg [.agg [.lit (.int .u8 128), .lit (.int .u8 191)], .agg [.lit (.int .u8 160), .lit (.int .u8 191)], .agg [.lit (.int .u8 128), .lit (.int .u8 159)], .agg [.lit (.int .u8 144), .lit (.int .u8 191)], .agg [.lit (.int .u8 128), .lit (.int .u8 143)], .agg [.lit (.int .u8 0), .lit (.int .u8 0)], .agg [.lit (.int .u8 0), .lit (.int .u8 0)], .agg [.lit (.int .u8 0), .lit (.int .u8 0)], .agg [.lit (.int .u8 0), .lit (.int .u8 0)], .agg [.lit (.int .u8 0), .lit (.int .u8 0)], .agg [.lit (.int .u8 0), .lit (.int .u8 0)], .agg [.lit (.int .u8 0), .lit (.int .u8 0)], .agg [.lit (.int .u8 0), .lit (.int .u8 0)], .agg [.lit (.int .u8 0), .lit (.int .u8 0)], .agg [.lit (.int .u8 0), .lit (.int .u8 0)], .agg [.lit (.int .u8 0), .lit (.int .u8 0)]]
/-- One of Go's own tables, pinned by name: the form's constant. -/
def laid_unicode_utf8_first : DataW Unit := Go.Pinned.utf8First
def laid_encoding_hex_ErrLength {H : Type} : DataW H := .iface "*errors.errorString" (.ptr (.agg [.lit (.string [101, 110, 99, 111, 100, 105, 110, 103, 47, 104, 101, 120, 58, 32, 111, 100, 100, 32, 108, 101, 110, 103, 116, 104, 32, 104, 101, 120, 32, 115, 116, 114, 105, 110, 103])]))

/-- 'laws.FnExactMergeText': WHATEVER THE INPUT: true; the input reads as it did. -/
def fnExactMergeTextSpec : ChangeSpec := { name := "fnExactMergeText", fn := fun _ => fun
  | [d1, d2, d3] => { results := [.lit (.bool true)], args := [d1, d2, d3] }
  | _ => none }
def fnExactMergeTextRow : OpenClaim := { program := "ytkmfnmeilooogaadoor", sum := "e8c74f5a5b1d2556b2c2cdb3ee90a205a7450c371f5bd5a1fdc06b45f3261374", func := "loop.example/kilntree/laws.FnExactMergeText", spec := "fnExactMergeText", inPlace := ["internal/bytealg.CountString", "internal/bytealg.IndexByteString", "internal/bytealg.IndexString", "internal/abi.NoEscape", "internal/bytealg.MakeNoZero"], unfollowed := true, recurses := true, named := ["unicode/utf8.first", "unicode/utf8.acceptRanges", "internal/bytealg.MaxLen"], apart := false, laid := [("unicode/utf8.acceptRanges", laid_unicode_utf8_acceptRanges), ("unicode/utf8.first", laid_unicode_utf8_first)] }
def FnExactMergeTextSaid : Prop := fnExactMergeTextRow.holds Tryd.pinned (OpenSpec.ofChange fnExactMergeTextSpec)

/-- ITS FALSE NEIGHBOUR: 'it returns false'. Refute it at one input. -/
def fnExactMergeTextWrong : ChangeSpec := { name := "fnExactMergeText", fn := fun _ => fun
  | [d1, d2, d3] => { results := [.lit (.bool false)], args := [d1, d2, d3] }
  | _ => none }
def FnExactMergeTextWrongFalsely : Prop := fnExactMergeTextRow.holds Tryd.pinned (OpenSpec.ofChange fnExactMergeTextWrong)

/-- 'laws.FnMergeText': WHATEVER THE INPUT: true; the input reads as it did. -/
def fnMergeTextSpec : ChangeSpec := { name := "fnMergeText", fn := fun _ => fun
  | [d] => { results := [.lit (.bool true)], args := [d] }
  | _ => none }
def fnMergeTextRow : OpenClaim := { program := "ytkmfnmeilooogaadoor", sum := "e8c74f5a5b1d2556b2c2cdb3ee90a205a7450c371f5bd5a1fdc06b45f3261374", func := "loop.example/kilntree/laws.FnMergeText", spec := "fnMergeText", inPlace := ["internal/bytealg.CountString", "internal/bytealg.IndexByteString", "internal/bytealg.IndexString", "internal/abi.NoEscape", "internal/bytealg.MakeNoZero"], unfollowed := true, recurses := true, named := ["unicode/utf8.first", "unicode/utf8.acceptRanges", "internal/bytealg.MaxLen"], apart := false, laid := [("unicode/utf8.acceptRanges", laid_unicode_utf8_acceptRanges), ("unicode/utf8.first", laid_unicode_utf8_first)] }
def FnMergeTextSaid : Prop := fnMergeTextRow.holds Tryd.pinned (OpenSpec.ofChange fnMergeTextSpec)

/-- ITS FALSE NEIGHBOUR: 'it returns false'. Refute it at one input. -/
def fnMergeTextWrong : ChangeSpec := { name := "fnMergeText", fn := fun _ => fun
  | [d] => { results := [.lit (.bool false)], args := [d] }
  | _ => none }
def FnMergeTextWrongFalsely : Prop := fnMergeTextRow.holds Tryd.pinned (OpenSpec.ofChange fnMergeTextWrong)

/-- 'laws.FnExactShow': WHATEVER THE INPUT: true; the input reads as it did. -/
def fnExactShowSpec : ChangeSpec := { name := "fnExactShow", fn := fun _ => fun
  | [d1, d2, d3, d4] => { results := [.lit (.bool true)], args := [d1, d2, d3, d4] }
  | _ => none }
def fnExactShowRow : OpenClaim := { program := "ytkmfnmeilooogaadoor", sum := "e8c74f5a5b1d2556b2c2cdb3ee90a205a7450c371f5bd5a1fdc06b45f3261374", func := "loop.example/kilntree/laws.FnExactShow", spec := "fnExactShow", inPlace := ["internal/bytealg.CountString", "internal/bytealg.IndexByteString", "internal/bytealg.IndexString"], named := ["unicode/utf8.first", "unicode/utf8.acceptRanges", "internal/bytealg.MaxLen", "encoding/hex.ErrLength"], apart := false, laid := [("unicode/utf8.acceptRanges", laid_unicode_utf8_acceptRanges), ("encoding/hex.ErrLength", laid_encoding_hex_ErrLength), ("unicode/utf8.first", laid_unicode_utf8_first)] }
def FnExactShowSaid : Prop := fnExactShowRow.holds Tryd.pinned (OpenSpec.ofChange fnExactShowSpec)

/-- ITS FALSE NEIGHBOUR: 'it returns false'. Refute it at one input. -/
def fnExactShowWrong : ChangeSpec := { name := "fnExactShow", fn := fun _ => fun
  | [d1, d2, d3, d4] => { results := [.lit (.bool false)], args := [d1, d2, d3, d4] }
  | _ => none }
def FnExactShowWrongFalsely : Prop := fnExactShowRow.holds Tryd.pinned (OpenSpec.ofChange fnExactShowWrong)

/-- 'laws.FnExactTreeSum': WHATEVER THE INPUT: true; the input reads as it did. -/
def fnExactTreeSumSpec : ChangeSpec := { name := "fnExactTreeSum", fn := fun _ => fun
  | [d1, d2] => { results := [.lit (.bool true)], args := [d1, d2] }
  | _ => none }
def fnExactTreeSumRow : OpenClaim := { program := "ytkmfnmeilooogaadoor", sum := "e8c74f5a5b1d2556b2c2cdb3ee90a205a7450c371f5bd5a1fdc06b45f3261374", func := "loop.example/kilntree/laws.FnExactTreeSum", spec := "fnExactTreeSum", inPlace := ["internal/bytealg.CountString", "internal/bytealg.IndexByteString", "internal/bytealg.IndexString"], recurses := true, named := ["unicode/utf8.first", "unicode/utf8.acceptRanges", "internal/bytealg.MaxLen"], apart := false, laid := [("unicode/utf8.acceptRanges", laid_unicode_utf8_acceptRanges), ("unicode/utf8.first", laid_unicode_utf8_first)] }
def FnExactTreeSumSaid : Prop := fnExactTreeSumRow.holds Tryd.pinned (OpenSpec.ofChange fnExactTreeSumSpec)

/-- ITS FALSE NEIGHBOUR: 'it returns false'. Refute it at one input. -/
def fnExactTreeSumWrong : ChangeSpec := { name := "fnExactTreeSum", fn := fun _ => fun
  | [d1, d2] => { results := [.lit (.bool false)], args := [d1, d2] }
  | _ => none }
def FnExactTreeSumWrongFalsely : Prop := fnExactTreeSumRow.holds Tryd.pinned (OpenSpec.ofChange fnExactTreeSumWrong)

/-- 'laws.FnExactDirText': WHATEVER THE INPUT: true; the input reads as it did. -/
def fnExactDirTextSpec : ChangeSpec := { name := "fnExactDirText", fn := fun _ => fun
  | [d1, d2, d3] => { results := [.lit (.bool true)], args := [d1, d2, d3] }
  | _ => none }
def fnExactDirTextRow : OpenClaim := { program := "ytkmfnmeilooogaadoor", sum := "e8c74f5a5b1d2556b2c2cdb3ee90a205a7450c371f5bd5a1fdc06b45f3261374", func := "loop.example/kilntree/laws.FnExactDirText", spec := "fnExactDirText", inPlace := ["internal/bytealg.CountString", "internal/bytealg.IndexByteString", "internal/bytealg.IndexString"], recurses := true, named := ["unicode/utf8.first", "unicode/utf8.acceptRanges", "internal/bytealg.MaxLen"], apart := false, laid := [("unicode/utf8.acceptRanges", laid_unicode_utf8_acceptRanges), ("unicode/utf8.first", laid_unicode_utf8_first)] }
def FnExactDirTextSaid : Prop := fnExactDirTextRow.holds Tryd.pinned (OpenSpec.ofChange fnExactDirTextSpec)

/-- ITS FALSE NEIGHBOUR: 'it returns false'. Refute it at one input. -/
def fnExactDirTextWrong : ChangeSpec := { name := "fnExactDirText", fn := fun _ => fun
  | [d1, d2, d3] => { results := [.lit (.bool false)], args := [d1, d2, d3] }
  | _ => none }
def FnExactDirTextWrongFalsely : Prop := fnExactDirTextRow.holds Tryd.pinned (OpenSpec.ofChange fnExactDirTextWrong)

/- THE SECOND FORM. 'bulk': how many values and letters a reading holds, each counted each time it is reached (what is shared counts as often as it is met; a slice's spare places count too). A statement '..UptoSaid' is the law's where the arguments, and the package variables that the reading takes, are together of bulk at most 1048576: NARROWER than '..Said'. Prove '..Said' where nothing that the law and all that it calls make is longer than what came in: it says more and counts as full. Else prove '..UptoSaid'. A law counts once. -/
mutual
def uptoBulk {H : Type} : DataW H → Nat
  | .lit (.string bytes) => bytes.length + 1
  | .lit _ => 1
  | .nil => 1
  | .ptr d => uptoBulk d + 1
  | .slice elems spare => uptoBulkAll elems + uptoBulkAll spare + 1
  | .agg parts => uptoBulkAll parts + 1
  | .iface _ d => uptoBulk d + 1
  | .map entries => uptoBulkEntries entries + 1
  | .held _ => 1
def uptoBulkAll {H : Type} : List (DataW H) → Nat
  | [] => 0
  | d :: r => uptoBulk d + uptoBulkAll r
def uptoBulkEntries {H : Type} : List (Lit × DataW H) → Nat
  | [] => 0
  | x :: r => uptoBulkEntry x + uptoBulkEntries r
def uptoBulkEntry {H : Type} : Lit × DataW H → Nat
  | (.string bytes, d) => bytes.length + uptoBulk d + 1
  | (_, d) => uptoBulk d + 1
 end
def uptoSmall : (H : Type) → List (DataW H) → Bool := fun _ ds => decide (uptoBulkAll ds ≤ 1048576)
def OpenSpec.upto (s : _root_.Go.ChangeSpec) : _root_.Go.OpenSpec := { _root_.Go.OpenSpec.ofChange s with cond := some uptoSmall }

/-- 'laws.FnExactMergeText', WHERE WHAT IT READS IS OF BULK AT MOST 1048576: true; the input reads as it did. -/
def fnExactMergeTextUptoRow : OpenClaim := { program := "ytkmfnmeilooogaadoor", sum := "e8c74f5a5b1d2556b2c2cdb3ee90a205a7450c371f5bd5a1fdc06b45f3261374", func := "loop.example/kilntree/laws.FnExactMergeText", spec := "fnExactMergeText", inPlace := ["internal/bytealg.CountString", "internal/bytealg.IndexByteString", "internal/bytealg.IndexString", "internal/abi.NoEscape", "internal/bytealg.MakeNoZero"], unfollowed := true, recurses := true, named := ["unicode/utf8.first", "unicode/utf8.acceptRanges", "internal/bytealg.MaxLen"], apart := false, laid := [("unicode/utf8.acceptRanges", laid_unicode_utf8_acceptRanges), ("unicode/utf8.first", laid_unicode_utf8_first)], narrowed := true }
def FnExactMergeTextUptoSaid : Prop := fnExactMergeTextUptoRow.holds Tryd.pinned (OpenSpec.upto fnExactMergeTextSpec)

/-- 'laws.FnMergeText', WHERE WHAT IT READS IS OF BULK AT MOST 1048576: true; the input reads as it did. -/
def fnMergeTextUptoRow : OpenClaim := { program := "ytkmfnmeilooogaadoor", sum := "e8c74f5a5b1d2556b2c2cdb3ee90a205a7450c371f5bd5a1fdc06b45f3261374", func := "loop.example/kilntree/laws.FnMergeText", spec := "fnMergeText", inPlace := ["internal/bytealg.CountString", "internal/bytealg.IndexByteString", "internal/bytealg.IndexString", "internal/abi.NoEscape", "internal/bytealg.MakeNoZero"], unfollowed := true, recurses := true, named := ["unicode/utf8.first", "unicode/utf8.acceptRanges", "internal/bytealg.MaxLen"], apart := false, laid := [("unicode/utf8.acceptRanges", laid_unicode_utf8_acceptRanges), ("unicode/utf8.first", laid_unicode_utf8_first)], narrowed := true }
def FnMergeTextUptoSaid : Prop := fnMergeTextUptoRow.holds Tryd.pinned (OpenSpec.upto fnMergeTextSpec)

/-- 'laws.FnExactShow', WHERE WHAT IT READS IS OF BULK AT MOST 1048576: true; the input reads as it did. -/
def fnExactShowUptoRow : OpenClaim := { program := "ytkmfnmeilooogaadoor", sum := "e8c74f5a5b1d2556b2c2cdb3ee90a205a7450c371f5bd5a1fdc06b45f3261374", func := "loop.example/kilntree/laws.FnExactShow", spec := "fnExactShow", inPlace := ["internal/bytealg.CountString", "internal/bytealg.IndexByteString", "internal/bytealg.IndexString"], named := ["unicode/utf8.first", "unicode/utf8.acceptRanges", "internal/bytealg.MaxLen", "encoding/hex.ErrLength"], apart := false, laid := [("unicode/utf8.acceptRanges", laid_unicode_utf8_acceptRanges), ("encoding/hex.ErrLength", laid_encoding_hex_ErrLength), ("unicode/utf8.first", laid_unicode_utf8_first)], narrowed := true }
def FnExactShowUptoSaid : Prop := fnExactShowUptoRow.holds Tryd.pinned (OpenSpec.upto fnExactShowSpec)

/-- 'laws.FnExactTreeSum', WHERE WHAT IT READS IS OF BULK AT MOST 1048576: true; the input reads as it did. -/
def fnExactTreeSumUptoRow : OpenClaim := { program := "ytkmfnmeilooogaadoor", sum := "e8c74f5a5b1d2556b2c2cdb3ee90a205a7450c371f5bd5a1fdc06b45f3261374", func := "loop.example/kilntree/laws.FnExactTreeSum", spec := "fnExactTreeSum", inPlace := ["internal/bytealg.CountString", "internal/bytealg.IndexByteString", "internal/bytealg.IndexString"], recurses := true, named := ["unicode/utf8.first", "unicode/utf8.acceptRanges", "internal/bytealg.MaxLen"], apart := false, laid := [("unicode/utf8.acceptRanges", laid_unicode_utf8_acceptRanges), ("unicode/utf8.first", laid_unicode_utf8_first)], narrowed := true }
def FnExactTreeSumUptoSaid : Prop := fnExactTreeSumUptoRow.holds Tryd.pinned (OpenSpec.upto fnExactTreeSumSpec)

/-- 'laws.FnExactDirText', WHERE WHAT IT READS IS OF BULK AT MOST 1048576: true; the input reads as it did. -/
def fnExactDirTextUptoRow : OpenClaim := { program := "ytkmfnmeilooogaadoor", sum := "e8c74f5a5b1d2556b2c2cdb3ee90a205a7450c371f5bd5a1fdc06b45f3261374", func := "loop.example/kilntree/laws.FnExactDirText", spec := "fnExactDirText", inPlace := ["internal/bytealg.CountString", "internal/bytealg.IndexByteString", "internal/bytealg.IndexString"], recurses := true, named := ["unicode/utf8.first", "unicode/utf8.acceptRanges", "internal/bytealg.MaxLen"], apart := false, laid := [("unicode/utf8.acceptRanges", laid_unicode_utf8_acceptRanges), ("unicode/utf8.first", laid_unicode_utf8_first)], narrowed := true }
def FnExactDirTextUptoSaid : Prop := fnExactDirTextUptoRow.holds Tryd.pinned (OpenSpec.upto fnExactDirTextSpec)

end Rows
end Go.Proofs.YtkmfnmeilooogaaDoor
