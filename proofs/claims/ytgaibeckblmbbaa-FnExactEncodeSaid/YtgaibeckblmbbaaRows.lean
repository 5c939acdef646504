/-
  No cell of these rows narrows 'for every input' (looked for: loops, veiled, ifaces, maps, wideKeys, modest, calm, conditions, laid).
  DERIVED. THE GIVEN ROWS OF THIS SEAT. 8 by the template 'for every input the law returns true; each argument reads behind the call as it read before'; 0 by the template 'total and deterministic' (their statements: YtgaibeckblmbbaaTotals.lean).
  GIVEN WITH THE SEED: the statements are not yours to turn. If you find one false, say at which input.
  Laid BY PROGRAM, IN A SANDBOX (cutbox-rows.mjs): the forced cells as the released guide's own fill.sh prints them over the translation f7569fb39acb8223… (all of the seat's roots in one cut). By AI agents, Wed Nov 11 2026. No macro, syntax, notation, axiom, sorry.
-/
import Derived.Test.YtgaibeckblmbbaaChecked
import GoSem.Claim
import GoSem.ClaimJoined
import GoSem.ClaimMapViews
import Derived.JoinedTies
import Derived.KernelRfl
namespace Go.Proofs.Ytgaibeckblmbbaa
/- THE CELL 'sum', in the pinned program and in every row, IS THE sha256 OF THE DUMP (.gsa) THAT YtgaibeckblmbbaaProg.lean LOADS. Nothing in Lean hashes anything: it is a label: what it is worth is what the hold of that sum in a sandbox is worth. -/
noncomputable def Try.pinned : Pinned := { name := "ytgaibeckblmbbaa", sum := "f7569fb39acb8223f71dd2f76524071cabfdbccdaa747f24870cb80f839f93be", checked := Try.checked }
namespace Rows
def none {H : Type} : Left H := { results := [], args := [] }

/-- 'laws.FnExactConstants': WHATEVER THE INPUT: true; the input reads as it did. -/
def fnExactConstantsSpec : ChangeSpec := { name := "fnExactConstants", fn := fun _ => fun
  | [] => { results := [.lit (.bool true)], args := [] }
  | _ => none }
def fnExactConstantsRow : OpenClaim := { program := "ytgaibeckblmbbaa", sum := "f7569fb39acb8223f71dd2f76524071cabfdbccdaa747f24870cb80f839f93be", func := "loop.example/kilntree/laws.FnExactConstants", spec := "fnExactConstants", apart := false }
def FnExactConstantsSaid : Prop := fnExactConstantsRow.holds Try.pinned (OpenSpec.ofChange fnExactConstantsSpec)

/-- ITS FALSE NEIGHBOUR: 'it returns false'. Refute it at one input. -/
def fnExactConstantsWrong : ChangeSpec := { name := "fnExactConstants", fn := fun _ => fun
  | [] => { results := [.lit (.bool false)], args := [] }
  | _ => none }
def FnExactConstantsWrongFalsely : Prop := fnExactConstantsRow.holds Try.pinned (OpenSpec.ofChange fnExactConstantsWrong)

/-- 'laws.FnExactSum': WHATEVER THE INPUT: true; the input reads as it did. -/
def fnExactSumSpec : ChangeSpec := { name := "fnExactSum", fn := fun _ => fun
  | [d1, d2] => { results := [.lit (.bool true)], args := [d1, d2] }
  | _ => none }
def fnExactSumRow : OpenClaim := { program := "ytgaibeckblmbbaa", sum := "f7569fb39acb8223f71dd2f76524071cabfdbccdaa747f24870cb80f839f93be", func := "loop.example/kilntree/laws.FnExactSum", spec := "fnExactSum", apart := false }
def FnExactSumSaid : Prop := fnExactSumRow.holds Try.pinned (OpenSpec.ofChange fnExactSumSpec)

/-- ITS FALSE NEIGHBOUR: 'it returns false'. Refute it at one input. -/
def fnExactSumWrong : ChangeSpec := { name := "fnExactSum", fn := fun _ => fun
  | [d1, d2] => { results := [.lit (.bool false)], args := [d1, d2] }
  | _ => none }
def FnExactSumWrongFalsely : Prop := fnExactSumRow.holds Try.pinned (OpenSpec.ofChange fnExactSumWrong)

/-- 'laws.FnExactClash': WHATEVER THE INPUT: true; the input reads as it did. -/
def fnExactClashSpec : ChangeSpec := { name := "fnExactClash", fn := fun _ => fun
  | [d1, d2] => { results := [.lit (.bool true)], args := [d1, d2] }
  | _ => none }
def fnExactClashRow : OpenClaim := { program := "ytgaibeckblmbbaa", sum := "f7569fb39acb8223f71dd2f76524071cabfdbccdaa747f24870cb80f839f93be", func := "loop.example/kilntree/laws.FnExactClash", spec := "fnExactClash", apart := false }
def FnExactClashSaid : Prop := fnExactClashRow.holds Try.pinned (OpenSpec.ofChange fnExactClashSpec)

/-- ITS FALSE NEIGHBOUR: 'it returns false'. Refute it at one input. -/
def fnExactClashWrong : ChangeSpec := { name := "fnExactClash", fn := fun _ => fun
  | [d1, d2] => { results := [.lit (.bool false)], args := [d1, d2] }
  | _ => none }
def FnExactClashWrongFalsely : Prop := fnExactClashRow.holds Try.pinned (OpenSpec.ofChange fnExactClashWrong)

/-- 'laws.FnClash': WHATEVER THE INPUT: true; the input reads as it did. -/
def fnClashSpec : ChangeSpec := { name := "fnClash", fn := fun _ => fun
  | [d] => { results := [.lit (.bool true)], args := [d] }
  | _ => none }
def fnClashRow : OpenClaim := { program := "ytgaibeckblmbbaa", sum := "f7569fb39acb8223f71dd2f76524071cabfdbccdaa747f24870cb80f839f93be", func := "loop.example/kilntree/laws.FnClash", spec := "fnClash", apart := false }
def FnClashSaid : Prop := fnClashRow.holds Try.pinned (OpenSpec.ofChange fnClashSpec)

/-- ITS FALSE NEIGHBOUR: 'it returns false'. Refute it at one input. -/
def fnClashWrong : ChangeSpec := { name := "fnClash", fn := fun _ => fun
  | [d] => { results := [.lit (.bool false)], args := [d] }
  | _ => none }
def FnClashWrongFalsely : Prop := fnClashRow.holds Try.pinned (OpenSpec.ofChange fnClashWrong)

/-- 'laws.FnExactEncode': WHATEVER THE INPUT: true; the input reads as it did. -/
def fnExactEncodeSpec : ChangeSpec := { name := "fnExactEncode", fn := fun _ => fun
  | [d1, d2] => { results := [.lit (.bool true)], args := [d1, d2] }
  | _ => none }
def fnExactEncodeRow : OpenClaim := { program := "ytgaibeckblmbbaa", sum := "f7569fb39acb8223f71dd2f76524071cabfdbccdaa747f24870cb80f839f93be", func := "loop.example/kilntree/laws.FnExactEncode", spec := "fnExactEncode", inPlace := ["internal/abi.NoEscape"], apart := false }
def FnExactEncodeSaid : Prop := fnExactEncodeRow.holds Try.pinned (OpenSpec.ofChange fnExactEncodeSpec)

/-- ITS FALSE NEIGHBOUR: 'it returns false'. Refute it at one input. -/
def fnExactEncodeWrong : ChangeSpec := { name := "fnExactEncode", fn := fun _ => fun
  | [d1, d2] => { results := [.lit (.bool false)], args := [d1, d2] }
  | _ => none }
def FnExactEncodeWrongFalsely : Prop := fnExactEncodeRow.holds Try.pinned (OpenSpec.ofChange fnExactEncodeWrong)

/-- 'laws.FnExactEvidence': WHATEVER THE INPUT: true; the input reads as it did. -/
def fnExactEvidenceSpec : ChangeSpec := { name := "fnExactEvidence", fn := fun _ => fun
  | [d1, d2, d3] => { results := [.lit (.bool true)], args := [d1, d2, d3] }
  | _ => none }
def fnExactEvidenceRow : OpenClaim := { program := "ytgaibeckblmbbaa", sum := "f7569fb39acb8223f71dd2f76524071cabfdbccdaa747f24870cb80f839f93be", func := "loop.example/kilntree/laws.FnExactEvidence", spec := "fnExactEvidence", apart := false }
def FnExactEvidenceSaid : Prop := fnExactEvidenceRow.holds Try.pinned (OpenSpec.ofChange fnExactEvidenceSpec)

/-- ITS FALSE NEIGHBOUR: 'it returns false'. Refute it at one input. -/
def fnExactEvidenceWrong : ChangeSpec := { name := "fnExactEvidence", fn := fun _ => fun
  | [d1, d2, d3] => { results := [.lit (.bool false)], args := [d1, d2, d3] }
  | _ => none }
def FnExactEvidenceWrongFalsely : Prop := fnExactEvidenceRow.holds Try.pinned (OpenSpec.ofChange fnExactEvidenceWrong)

/-- 'laws.FnExactValidDecoder': WHATEVER THE INPUT: true; the input reads as it did. -/
def fnExactValidDecoderSpec : ChangeSpec := { name := "fnExactValidDecoder", fn := fun _ => fun
  | [d] => { results := [.lit (.bool true)], args := [d] }
  | _ => none }
def fnExactValidDecoderRow : OpenClaim := { program := "ytgaibeckblmbbaa", sum := "f7569fb39acb8223f71dd2f76524071cabfdbccdaa747f24870cb80f839f93be", func := "loop.example/kilntree/laws.FnExactValidDecoder", spec := "fnExactValidDecoder", apart := false }
def FnExactValidDecoderSaid : Prop := fnExactValidDecoderRow.holds Try.pinned (OpenSpec.ofChange fnExactValidDecoderSpec)

/-- ITS FALSE NEIGHBOUR: 'it returns false'. Refute it at one input. -/
def fnExactValidDecoderWrong : ChangeSpec := { name := "fnExactValidDecoder", fn := fun _ => fun
  | [d] => { results := [.lit (.bool false)], args := [d] }
  | _ => none }
def FnExactValidDecoderWrongFalsely : Prop := fnExactValidDecoderRow.holds Try.pinned (OpenSpec.ofChange fnExactValidDecoderWrong)

/-- 'laws.FnExactValidValue': WHATEVER THE INPUT: true; the input reads as it did. -/
def fnExactValidValueSpec : ChangeSpec := { name := "fnExactValidValue", fn := fun _ => fun
  | [d] => { results := [.lit (.bool true)], args := [d] }
  | _ => none }
def fnExactValidValueRow : OpenClaim := { program := "ytgaibeckblmbbaa", sum := "f7569fb39acb8223f71dd2f76524071cabfdbccdaa747f24870cb80f839f93be", func := "loop.example/kilntree/laws.FnExactValidValue", spec := "fnExactValidValue", apart := false }
def FnExactValidValueSaid : Prop := fnExactValidValueRow.holds Try.pinned (OpenSpec.ofChange fnExactValidValueSpec)

/-- ITS FALSE NEIGHBOUR: 'it returns false'. Refute it at one input. -/
def fnExactValidValueWrong : ChangeSpec := { name := "fnExactValidValue", fn := fun _ => fun
  | [d] => { results := [.lit (.bool false)], args := [d] }
  | _ => none }
def FnExactValidValueWrongFalsely : Prop := fnExactValidValueRow.holds Try.pinned (OpenSpec.ofChange fnExactValidValueWrong)

/- THE SECOND FORM. 'bulk': how many values and letters a reading holds, each counted each time it is reached (what is shared counts as often as it is met; a slice's spare places count too). A statement '..UptoSaid' is the law's where the arguments, and the package variables that the reading takes, are together of bulk at most 1048576: NARROWER than '..Said'. Prove '..Said' where nothing that the law and all that it calls make is longer than what came in: it says more and counts as full. Else prove '..UptoSaid'. A law counts once. -/
mutual
def uptoBulk {H : Type} : DataW H → Nat
  | .lit (.string bytes) => bytes.length + 1
  | .lit _ => 1
  | .nil => 1
  | .ptr d => uptoBulk d + 1
  | .slice elems spare => uptoBulkAll elems + uptoBulkAll spare + 1
  | .agg parts => uptoBulkAll parts + 1
  | .iface _ d => uptoBulk d + 1
  | .map entries => uptoBulkEntries entries + 1
  | .held _ => 1
def uptoBulkAll {H : Type} : List (DataW H) → Nat
  | [] => 0
  | d :: r => uptoBulk d + uptoBulkAll r
def uptoBulkEntries {H : Type} : List (Lit × DataW H) → Nat
  | [] => 0
  | x :: r => uptoBulkEntry x + uptoBulkEntries r
def uptoBulkEntry {H : Type} : Lit × DataW H → Nat
  | (.string bytes, d) => bytes.length + uptoBulk d + 1
  | (_, d) => uptoBulk d + 1
 end
def uptoSmall : (H : Type) → List (DataW H) → Bool := fun _ ds => decide (uptoBulkAll ds ≤ 1048576)
def OpenSpec.upto (s : _root_.Go.ChangeSpec) : _root_.Go.OpenSpec := { _root_.Go.OpenSpec.ofChange s with cond := some uptoSmall }

/-- 'laws.FnExactConstants', WHERE WHAT IT READS IS OF BULK AT MOST 1048576: true; the input reads as it did. -/
def fnExactConstantsUptoRow : OpenClaim := { program := "ytgaibeckblmbbaa", sum := "f7569fb39acb8223f71dd2f76524071cabfdbccdaa747f24870cb80f839f93be", func := "loop.example/kilntree/laws.FnExactConstants", spec := "fnExactConstants", apart := false, narrowed := true }
def FnExactConstantsUptoSaid : Prop := fnExactConstantsUptoRow.holds Try.pinned (OpenSpec.upto fnExactConstantsSpec)

/-- 'laws.FnExactSum', WHERE WHAT IT READS IS OF BULK AT MOST 1048576: true; the input reads as it did. -/
def fnExactSumUptoRow : OpenClaim := { program := "ytgaibeckblmbbaa", sum := "f7569fb39acb8223f71dd2f76524071cabfdbccdaa747f24870cb80f839f93be", func := "loop.example/kilntree/laws.FnExactSum", spec := "fnExactSum", apart := false, narrowed := true }
def FnExactSumUptoSaid : Prop := fnExactSumUptoRow.holds Try.pinned (OpenSpec.upto fnExactSumSpec)

/-- 'laws.FnExactClash', WHERE WHAT IT READS IS OF BULK AT MOST 1048576: true; the input reads as it did. -/
def fnExactClashUptoRow : OpenClaim := { program := "ytgaibeckblmbbaa", sum := "f7569fb39acb8223f71dd2f76524071cabfdbccdaa747f24870cb80f839f93be", func := "loop.example/kilntree/laws.FnExactClash", spec := "fnExactClash", apart := false, narrowed := true }
def FnExactClashUptoSaid : Prop := fnExactClashUptoRow.holds Try.pinned (OpenSpec.upto fnExactClashSpec)

/-- 'laws.FnClash', WHERE WHAT IT READS IS OF BULK AT MOST 1048576: true; the input reads as it did. -/
def fnClashUptoRow : OpenClaim := { program := "ytgaibeckblmbbaa", sum := "f7569fb39acb8223f71dd2f76524071cabfdbccdaa747f24870cb80f839f93be", func := "loop.example/kilntree/laws.FnClash", spec := "fnClash", apart := false, narrowed := true }
def FnClashUptoSaid : Prop := fnClashUptoRow.holds Try.pinned (OpenSpec.upto fnClashSpec)

/-- 'laws.FnExactEncode', WHERE WHAT IT READS IS OF BULK AT MOST 1048576: true; the input reads as it did. -/
def fnExactEncodeUptoRow : OpenClaim := { program := "ytgaibeckblmbbaa", sum := "f7569fb39acb8223f71dd2f76524071cabfdbccdaa747f24870cb80f839f93be", func := "loop.example/kilntree/laws.FnExactEncode", spec := "fnExactEncode", inPlace := ["internal/abi.NoEscape"], apart := false, narrowed := true }
def FnExactEncodeUptoSaid : Prop := fnExactEncodeUptoRow.holds Try.pinned (OpenSpec.upto fnExactEncodeSpec)

/-- 'laws.FnExactEvidence', WHERE WHAT IT READS IS OF BULK AT MOST 1048576: true; the input reads as it did. -/
def fnExactEvidenceUptoRow : OpenClaim := { program := "ytgaibeckblmbbaa", sum := "f7569fb39acb8223f71dd2f76524071cabfdbccdaa747f24870cb80f839f93be", func := "loop.example/kilntree/laws.FnExactEvidence", spec := "fnExactEvidence", apart := false, narrowed := true }
def FnExactEvidenceUptoSaid : Prop := fnExactEvidenceUptoRow.holds Try.pinned (OpenSpec.upto fnExactEvidenceSpec)

/-- 'laws.FnExactValidDecoder', WHERE WHAT IT READS IS OF BULK AT MOST 1048576: true; the input reads as it did. -/
def fnExactValidDecoderUptoRow : OpenClaim := { program := "ytgaibeckblmbbaa", sum := "f7569fb39acb8223f71dd2f76524071cabfdbccdaa747f24870cb80f839f93be", func := "loop.example/kilntree/laws.FnExactValidDecoder", spec := "fnExactValidDecoder", apart := false, narrowed := true }
def FnExactValidDecoderUptoSaid : Prop := fnExactValidDecoderUptoRow.holds Try.pinned (OpenSpec.upto fnExactValidDecoderSpec)

/-- 'laws.FnExactValidValue', WHERE WHAT IT READS IS OF BULK AT MOST 1048576: true; the input reads as it did. -/
def fnExactValidValueUptoRow : OpenClaim := { program := "ytgaibeckblmbbaa", sum := "f7569fb39acb8223f71dd2f76524071cabfdbccdaa747f24870cb80f839f93be", func := "loop.example/kilntree/laws.FnExactValidValue", spec := "fnExactValidValue", apart := false, narrowed := true }
def FnExactValidValueUptoSaid : Prop := fnExactValidValueUptoRow.holds Try.pinned (OpenSpec.upto fnExactValidValueSpec)

end Rows
end Go.Proofs.Ytgaibeckblmbbaa
