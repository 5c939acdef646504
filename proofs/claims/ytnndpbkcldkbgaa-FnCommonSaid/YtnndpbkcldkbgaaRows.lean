/-
  No cell of these rows narrows 'for every input' (looked for: loops, veiled, ifaces, maps, wideKeys, modest, calm, conditions, laid).
  DERIVED. THE GIVEN ROWS OF THIS SEAT. 7 by the template 'for every input the law returns true; each argument reads behind the call as it read before'; 0 by the template 'total and deterministic' (their statements: YtnndpbkcldkbgaaTotals.lean).
  GIVEN WITH THE SEED: the statements are not yours to turn. If you find one false, say at which input.
  Laid BY PROGRAM, IN A SANDBOX (cutbox-rows.mjs): the forced cells as the released guide's own fill.sh prints them over the translation 3af65cd23c4f3746… (all of the seat's roots in one cut). By AI agents, Wed Nov 11 2026. No macro, syntax, notation, axiom, sorry.
-/
import Derived.Test.YtnndpbkcldkbgaaChecked
import GoSem.Claim
import GoSem.ClaimJoined
import GoSem.ClaimMapViews
import Derived.JoinedTies
import Derived.KernelRfl
namespace Go.Proofs.Ytnndpbkcldkbgaa
/- THE CELL 'sum', in the pinned program and in every row, IS THE sha256 OF THE DUMP (.gsa) THAT YtnndpbkcldkbgaaProg.lean LOADS. Nothing in Lean hashes anything: it is a label: what it is worth is what the hold of that sum in a sandbox is worth. -/
noncomputable def Try.pinned : Pinned := { name := "ytnndpbkcldkbgaa", sum := "3af65cd23c4f37466c547d8a432b5d70ae06d46afce2deb93d39b558bcfb535d", checked := Try.checked }
namespace Rows
def none {H : Type} : Left H := { results := [], args := [] }

/-- 'laws.FnExactFormValue': WHATEVER THE INPUT: true; the input reads as it did. -/
def fnExactFormValueSpec : ChangeSpec := { name := "fnExactFormValue", fn := fun _ => fun
  | [d] => { results := [.lit (.bool true)], args := [d] }
  | _ => none }
def fnExactFormValueRow : OpenClaim := { program := "ytnndpbkcldkbgaa", sum := "3af65cd23c4f37466c547d8a432b5d70ae06d46afce2deb93d39b558bcfb535d", func := "loop.example/kilntree/laws.FnExactFormValue", spec := "fnExactFormValue", inPlace := ["internal/abi.NoEscape"], unfollowed := true, recurses := true, apart := false }
def FnExactFormValueSaid : Prop := fnExactFormValueRow.holds Try.pinned (OpenSpec.ofChange fnExactFormValueSpec)

/-- ITS FALSE NEIGHBOUR: 'it returns false'. Refute it at one input. -/
def fnExactFormValueWrong : ChangeSpec := { name := "fnExactFormValue", fn := fun _ => fun
  | [d] => { results := [.lit (.bool false)], args := [d] }
  | _ => none }
def FnExactFormValueWrongFalsely : Prop := fnExactFormValueRow.holds Try.pinned (OpenSpec.ofChange fnExactFormValueWrong)

/-- 'laws.FnExactReadValue': WHATEVER THE INPUT: true; the input reads as it did. -/
def fnExactReadValueSpec : ChangeSpec := { name := "fnExactReadValue", fn := fun _ => fun
  | [d] => { results := [.lit (.bool true)], args := [d] }
  | _ => none }
def fnExactReadValueRow : OpenClaim := { program := "ytnndpbkcldkbgaa", sum := "3af65cd23c4f37466c547d8a432b5d70ae06d46afce2deb93d39b558bcfb535d", func := "loop.example/kilntree/laws.FnExactReadValue", spec := "fnExactReadValue", inPlace := ["internal/abi.NoEscape"], unfollowed := true, recurses := true, apart := false }
def FnExactReadValueSaid : Prop := fnExactReadValueRow.holds Try.pinned (OpenSpec.ofChange fnExactReadValueSpec)

/-- ITS FALSE NEIGHBOUR: 'it returns false'. Refute it at one input. -/
def fnExactReadValueWrong : ChangeSpec := { name := "fnExactReadValue", fn := fun _ => fun
  | [d] => { results := [.lit (.bool false)], args := [d] }
  | _ => none }
def FnExactReadValueWrongFalsely : Prop := fnExactReadValueRow.holds Try.pinned (OpenSpec.ofChange fnExactReadValueWrong)

/-- 'laws.FnValues': WHATEVER THE INPUT: true; the input reads as it did. -/
def fnValuesSpec : ChangeSpec := { name := "fnValues", fn := fun _ => fun
  | [d] => { results := [.lit (.bool true)], args := [d] }
  | _ => none }
def fnValuesRow : OpenClaim := { program := "ytnndpbkcldkbgaa", sum := "3af65cd23c4f37466c547d8a432b5d70ae06d46afce2deb93d39b558bcfb535d", func := "loop.example/kilntree/laws.FnValues", spec := "fnValues", inPlace := ["internal/abi.NoEscape"], unfollowed := true, recurses := true, apart := false }
def FnValuesSaid : Prop := fnValuesRow.holds Try.pinned (OpenSpec.ofChange fnValuesSpec)

/-- ITS FALSE NEIGHBOUR: 'it returns false'. Refute it at one input. -/
def fnValuesWrong : ChangeSpec := { name := "fnValues", fn := fun _ => fun
  | [d] => { results := [.lit (.bool false)], args := [d] }
  | _ => none }
def FnValuesWrongFalsely : Prop := fnValuesRow.holds Try.pinned (OpenSpec.ofChange fnValuesWrong)

/-- 'laws.FnExactFeed': WHATEVER THE INPUT: true; the input reads as it did. -/
def fnExactFeedSpec : ChangeSpec := { name := "fnExactFeed", fn := fun _ => fun
  | [d1, d2] => { results := [.lit (.bool true)], args := [d1, d2] }
  | _ => none }
def fnExactFeedRow : OpenClaim := { program := "ytnndpbkcldkbgaa", sum := "3af65cd23c4f37466c547d8a432b5d70ae06d46afce2deb93d39b558bcfb535d", func := "loop.example/kilntree/laws.FnExactFeed", spec := "fnExactFeed", apart := false }
def FnExactFeedSaid : Prop := fnExactFeedRow.holds Try.pinned (OpenSpec.ofChange fnExactFeedSpec)

/-- ITS FALSE NEIGHBOUR: 'it returns false'. Refute it at one input. -/
def fnExactFeedWrong : ChangeSpec := { name := "fnExactFeed", fn := fun _ => fun
  | [d1, d2] => { results := [.lit (.bool false)], args := [d1, d2] }
  | _ => none }
def FnExactFeedWrongFalsely : Prop := fnExactFeedRow.holds Try.pinned (OpenSpec.ofChange fnExactFeedWrong)

/-- 'laws.FnFrames': WHATEVER THE INPUT: true; the input reads as it did. -/
def fnFramesSpec : ChangeSpec := { name := "fnFrames", fn := fun _ => fun
  | [d1, d2] => { results := [.lit (.bool true)], args := [d1, d2] }
  | _ => none }
def fnFramesRow : OpenClaim := { program := "ytnndpbkcldkbgaa", sum := "3af65cd23c4f37466c547d8a432b5d70ae06d46afce2deb93d39b558bcfb535d", func := "loop.example/kilntree/laws.FnFrames", spec := "fnFrames", inPlace := ["internal/abi.NoEscape"], apart := false }
def FnFramesSaid : Prop := fnFramesRow.holds Try.pinned (OpenSpec.ofChange fnFramesSpec)

/-- ITS FALSE NEIGHBOUR: 'it returns false'. Refute it at one input. -/
def fnFramesWrong : ChangeSpec := { name := "fnFrames", fn := fun _ => fun
  | [d1, d2] => { results := [.lit (.bool false)], args := [d1, d2] }
  | _ => none }
def FnFramesWrongFalsely : Prop := fnFramesRow.holds Try.pinned (OpenSpec.ofChange fnFramesWrong)

/-- 'laws.FnExactCommon': WHATEVER THE INPUT: true; the input reads as it did. -/
def fnExactCommonSpec : ChangeSpec := { name := "fnExactCommon", fn := fun _ => fun
  | [d1, d2] => { results := [.lit (.bool true)], args := [d1, d2] }
  | _ => none }
def fnExactCommonRow : OpenClaim := { program := "ytnndpbkcldkbgaa", sum := "3af65cd23c4f37466c547d8a432b5d70ae06d46afce2deb93d39b558bcfb535d", func := "loop.example/kilntree/laws.FnExactCommon", spec := "fnExactCommon", unfollowed := true, recurses := true, apart := false }
def FnExactCommonSaid : Prop := fnExactCommonRow.holds Try.pinned (OpenSpec.ofChange fnExactCommonSpec)

/-- ITS FALSE NEIGHBOUR: 'it returns false'. Refute it at one input. -/
def fnExactCommonWrong : ChangeSpec := { name := "fnExactCommon", fn := fun _ => fun
  | [d1, d2] => { results := [.lit (.bool false)], args := [d1, d2] }
  | _ => none }
def FnExactCommonWrongFalsely : Prop := fnExactCommonRow.holds Try.pinned (OpenSpec.ofChange fnExactCommonWrong)

/-- 'laws.FnCommon': WHATEVER THE INPUT: true; the input reads as it did. -/
def fnCommonSpec : ChangeSpec := { name := "fnCommon", fn := fun _ => fun
  | [d] => { results := [.lit (.bool true)], args := [d] }
  | _ => none }
def fnCommonRow : OpenClaim := { program := "ytnndpbkcldkbgaa", sum := "3af65cd23c4f37466c547d8a432b5d70ae06d46afce2deb93d39b558bcfb535d", func := "loop.example/kilntree/laws.FnCommon", spec := "fnCommon", unfollowed := true, recurses := true, apart := false }
def FnCommonSaid : Prop := fnCommonRow.holds Try.pinned (OpenSpec.ofChange fnCommonSpec)

/-- ITS FALSE NEIGHBOUR: 'it returns false'. Refute it at one input. -/
def fnCommonWrong : ChangeSpec := { name := "fnCommon", fn := fun _ => fun
  | [d] => { results := [.lit (.bool false)], args := [d] }
  | _ => none }
def FnCommonWrongFalsely : Prop := fnCommonRow.holds Try.pinned (OpenSpec.ofChange fnCommonWrong)

/- THE SECOND FORM. 'bulk': how many values and letters a reading holds, each counted each time it is reached (what is shared counts as often as it is met; a slice's spare places count too). A statement '..UptoSaid' is the law's where the arguments, and the package variables that the reading takes, are together of bulk at most 1048576: NARROWER than '..Said'. Prove '..Said' where nothing that the law and all that it calls make is longer than what came in: it says more and counts as full. Else prove '..UptoSaid'. A law counts once. -/
mutual
def uptoBulk {H : Type} : DataW H → Nat
  | .lit (.string bytes) => bytes.length + 1
  | .lit _ => 1
  | .nil => 1
  | .ptr d => uptoBulk d + 1
  | .slice elems spare => uptoBulkAll elems + uptoBulkAll spare + 1
  | .agg parts => uptoBulkAll parts + 1
  | .iface _ d => uptoBulk d + 1
  | .map entries => uptoBulkEntries entries + 1
  | .held _ => 1
def uptoBulkAll {H : Type} : List (DataW H) → Nat
  | [] => 0
  | d :: r => uptoBulk d + uptoBulkAll r
def uptoBulkEntries {H : Type} : List (Lit × DataW H) → Nat
  | [] => 0
  | x :: r => uptoBulkEntry x + uptoBulkEntries r
def uptoBulkEntry {H : Type} : Lit × DataW H → Nat
  | (.string bytes, d) => bytes.length + uptoBulk d + 1
  | (_, d) => uptoBulk d + 1
 end
def uptoSmall : (H : Type) → List (DataW H) → Bool := fun _ ds => decide (uptoBulkAll ds ≤ 1048576)
def OpenSpec.upto (s : _root_.Go.ChangeSpec) : _root_.Go.OpenSpec := { _root_.Go.OpenSpec.ofChange s with cond := some uptoSmall }

/-- 'laws.FnExactFormValue', WHERE WHAT IT READS IS OF BULK AT MOST 1048576: true; the input reads as it did. -/
def fnExactFormValueUptoRow : OpenClaim := { program := "ytnndpbkcldkbgaa", sum := "3af65cd23c4f37466c547d8a432b5d70ae06d46afce2deb93d39b558bcfb535d", func := "loop.example/kilntree/laws.FnExactFormValue", spec := "fnExactFormValue", inPlace := ["internal/abi.NoEscape"], unfollowed := true, recurses := true, apart := false, narrowed := true }
def FnExactFormValueUptoSaid : Prop := fnExactFormValueUptoRow.holds Try.pinned (OpenSpec.upto fnExactFormValueSpec)

/-- 'laws.FnExactReadValue', WHERE WHAT IT READS IS OF BULK AT MOST 1048576: true; the input reads as it did. -/
def fnExactReadValueUptoRow : OpenClaim := { program := "ytnndpbkcldkbgaa", sum := "3af65cd23c4f37466c547d8a432b5d70ae06d46afce2deb93d39b558bcfb535d", func := "loop.example/kilntree/laws.FnExactReadValue", spec := "fnExactReadValue", inPlace := ["internal/abi.NoEscape"], unfollowed := true, recurses := true, apart := false, narrowed := true }
def FnExactReadValueUptoSaid : Prop := fnExactReadValueUptoRow.holds Try.pinned (OpenSpec.upto fnExactReadValueSpec)

/-- 'laws.FnValues', WHERE WHAT IT READS IS OF BULK AT MOST 1048576: true; the input reads as it did. -/
def fnValuesUptoRow : OpenClaim := { program := "ytnndpbkcldkbgaa", sum := "3af65cd23c4f37466c547d8a432b5d70ae06d46afce2deb93d39b558bcfb535d", func := "loop.example/kilntree/laws.FnValues", spec := "fnValues", inPlace := ["internal/abi.NoEscape"], unfollowed := true, recurses := true, apart := false, narrowed := true }
def FnValuesUptoSaid : Prop := fnValuesUptoRow.holds Try.pinned (OpenSpec.upto fnValuesSpec)

/-- 'laws.FnExactFeed', WHERE WHAT IT READS IS OF BULK AT MOST 1048576: true; the input reads as it did. -/
def fnExactFeedUptoRow : OpenClaim := { program := "ytnndpbkcldkbgaa", sum := "3af65cd23c4f37466c547d8a432b5d70ae06d46afce2deb93d39b558bcfb535d", func := "loop.example/kilntree/laws.FnExactFeed", spec := "fnExactFeed", apart := false, narrowed := true }
def FnExactFeedUptoSaid : Prop := fnExactFeedUptoRow.holds Try.pinned (OpenSpec.upto fnExactFeedSpec)

/-- 'laws.FnFrames', WHERE WHAT IT READS IS OF BULK AT MOST 1048576: true; the input reads as it did. -/
def fnFramesUptoRow : OpenClaim := { program := "ytnndpbkcldkbgaa", sum := "3af65cd23c4f37466c547d8a432b5d70ae06d46afce2deb93d39b558bcfb535d", func := "loop.example/kilntree/laws.FnFrames", spec := "fnFrames", inPlace := ["internal/abi.NoEscape"], apart := false, narrowed := true }
def FnFramesUptoSaid : Prop := fnFramesUptoRow.holds Try.pinned (OpenSpec.upto fnFramesSpec)

/-- 'laws.FnExactCommon', WHERE WHAT IT READS IS OF BULK AT MOST 1048576: true; the input reads as it did. -/
def fnExactCommonUptoRow : OpenClaim := { program := "ytnndpbkcldkbgaa", sum := "3af65cd23c4f37466c547d8a432b5d70ae06d46afce2deb93d39b558bcfb535d", func := "loop.example/kilntree/laws.FnExactCommon", spec := "fnExactCommon", unfollowed := true, recurses := true, apart := false, narrowed := true }
def FnExactCommonUptoSaid : Prop := fnExactCommonUptoRow.holds Try.pinned (OpenSpec.upto fnExactCommonSpec)

/-- 'laws.FnCommon', WHERE WHAT IT READS IS OF BULK AT MOST 1048576: true; the input reads as it did. -/
def fnCommonUptoRow : OpenClaim := { program := "ytnndpbkcldkbgaa", sum := "3af65cd23c4f37466c547d8a432b5d70ae06d46afce2deb93d39b558bcfb535d", func := "loop.example/kilntree/laws.FnCommon", spec := "fnCommon", unfollowed := true, recurses := true, apart := false, narrowed := true }
def FnCommonUptoSaid : Prop := fnCommonUptoRow.holds Try.pinned (OpenSpec.upto fnCommonSpec)

end Rows
end Go.Proofs.Ytnndpbkcldkbgaa
