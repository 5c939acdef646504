/-
  DERIVED. GIVEN WITH THE SEED: THE CARDS: each row of YtknagppkeodggaaDoorRows.lean that lists a variable, with what it lists TIED to the program's text (the seventh form; the later family's looks); each row that meets fmt, with fmt's text TOLD by the authors' own Lean function (tested against real Go, not proved from fmt's source: count such statements apart). THE CARD IS WHAT COUNTS. Prove the row's statement (the work); the ties are given (YtknagppkeodggaaDoorTie.lean); close each card by the builder's one call (the guide's Derived/Test/ToyasCard.lean, 'card_holds'). Laid BY PROGRAM, IN A SANDBOX (cutbox-door.mjs). By AI agents, Wed Nov 11 2026. No macro, syntax, notation, axiom, sorry.
-/
import Derived.Test.YtknagppkeodggaaDoorRows
import GoSem.ClaimSeven
namespace Go.Proofs.YtknagppkeodggaaDoor
namespace Rows

/-- THE TIED CARD OF 'laws.FnTrees'. -/
def fnTreesCard : Claim7 := { stood := { row := fnTreesRow, standIns := [], harness := (true, "23e3ebdd671924b445b05f17d0834a1f50c90c497327164c547a3dec460e375b"), looks := false }, kinds := [], alts := [], laidByText := true, laidKinds := [.data, .pinned], laidTests := true, laidLooks := .later }
def FnTreesCardSaid : Prop := Claim7.holds Tryd.pinned (.plain (OpenSpec.ofChange fnTreesSpec)) fnTreesCard

/-- THE TIED CARD OF 'laws.FnGlobs'. -/
def fnGlobsCard : Claim7 := { stood := { row := fnGlobsRow, standIns := [], harness := (true, "23e3ebdd671924b445b05f17d0834a1f50c90c497327164c547a3dec460e375b"), looks := false }, kinds := [], alts := [], laidByText := true, laidKinds := [.data, .pinned], laidTests := true, laidLooks := .later }
def FnGlobsCardSaid : Prop := Claim7.holds Tryd.pinned (.plain (OpenSpec.ofChange fnGlobsSpec)) fnGlobsCard

/-- THE TIED CARD OF 'laws.FnExactJoin'. -/
def fnExactJoinCard : Claim7 := { stood := { row := fnExactJoinRow, standIns := [], harness := (true, "23e3ebdd671924b445b05f17d0834a1f50c90c497327164c547a3dec460e375b"), looks := false }, kinds := [], alts := [], laidByText := true, laidKinds := [.data, .pinned], laidTests := true, laidLooks := .later }
def FnExactJoinCardSaid : Prop := Claim7.holds Tryd.pinned (.plain (OpenSpec.ofChange fnExactJoinSpec)) fnExactJoinCard

/-- THE TIED CARD OF 'laws.FnPatches'. -/
def fnPatchesCard : Claim7 := { stood := { row := fnPatchesRow, standIns := [], harness := (true, "23e3ebdd671924b445b05f17d0834a1f50c90c497327164c547a3dec460e375b"), looks := false }, kinds := [], alts := [], laidByText := true, laidKinds := [.data, .pinned], laidTests := true, laidLooks := .later }
def FnPatchesCardSaid : Prop := Claim7.holds Tryd.pinned (.plain (OpenSpec.ofChange fnPatchesSpec)) fnPatchesCard

/-- THE TIED CARD OF 'laws.FnJoin'. -/
def fnJoinCard : Claim7 := { stood := { row := fnJoinRow, standIns := [], harness := (true, "23e3ebdd671924b445b05f17d0834a1f50c90c497327164c547a3dec460e375b"), looks := false }, kinds := [], alts := [], laidByText := true, laidKinds := [.data, .pinned], laidTests := true, laidLooks := .later }
def FnJoinCardSaid : Prop := Claim7.holds Tryd.pinned (.plain (OpenSpec.ofChange fnJoinSpec)) fnJoinCard

/-- THE TIED CARD OF 'laws.FnExactMergeText'. -/
def fnExactMergeTextCard : Claim7 := { stood := { row := fnExactMergeTextRow, standIns := [], harness := (true, "23e3ebdd671924b445b05f17d0834a1f50c90c497327164c547a3dec460e375b"), looks := false }, kinds := [], alts := [], laidByText := true, laidKinds := [.data, .pinned], laidTests := true, laidLooks := .later }
def FnExactMergeTextCardSaid : Prop := Claim7.holds Tryd.pinned (.plain (OpenSpec.ofChange fnExactMergeTextSpec)) fnExactMergeTextCard

/-- THE TIED CARD OF 'laws.FnMergeText'. -/
def fnMergeTextCard : Claim7 := { stood := { row := fnMergeTextRow, standIns := [], harness := (true, "23e3ebdd671924b445b05f17d0834a1f50c90c497327164c547a3dec460e375b"), looks := false }, kinds := [], alts := [], laidByText := true, laidKinds := [.data, .pinned], laidTests := true, laidLooks := .later }
def FnMergeTextCardSaid : Prop := Claim7.holds Tryd.pinned (.plain (OpenSpec.ofChange fnMergeTextSpec)) fnMergeTextCard

/-- THE TIED CARD OF 'laws.FnExactTreeSum'. -/
def fnExactTreeSumCard : Claim7 := { stood := { row := fnExactTreeSumRow, standIns := [], harness := (true, "23e3ebdd671924b445b05f17d0834a1f50c90c497327164c547a3dec460e375b"), looks := false }, kinds := [], alts := [], laidByText := true, laidKinds := [.data, .pinned], laidTests := true, laidLooks := .later }
def FnExactTreeSumCardSaid : Prop := Claim7.holds Tryd.pinned (.plain (OpenSpec.ofChange fnExactTreeSumSpec)) fnExactTreeSumCard

/-- THE TIED CARD OF 'laws.FnExactDirText'. -/
def fnExactDirTextCard : Claim7 := { stood := { row := fnExactDirTextRow, standIns := [], harness := (true, "23e3ebdd671924b445b05f17d0834a1f50c90c497327164c547a3dec460e375b"), looks := false }, kinds := [], alts := [], laidByText := true, laidKinds := [.data, .pinned], laidTests := true, laidLooks := .later }
def FnExactDirTextCardSaid : Prop := Claim7.holds Tryd.pinned (.plain (OpenSpec.ofChange fnExactDirTextSpec)) fnExactDirTextCard

/-- THE TIED CARD OF 'laws.FnExactShow'. -/
def fnExactShowCard : Claim7 := { stood := { row := fnExactShowRow, standIns := [], harness := (true, "23e3ebdd671924b445b05f17d0834a1f50c90c497327164c547a3dec460e375b"), looks := false }, kinds := [], alts := [], laidByText := true, laidKinds := [.data, .sentinel, .pinned], laidTests := true, laidLooks := .later }
def FnExactShowCardSaid : Prop := Claim7.holds Tryd.pinned (.plain (OpenSpec.ofChange fnExactShowSpec)) fnExactShowCard

/-- THE SECOND FORM's CARD OF 'laws.FnTrees'. -/
def fnTreesUptoCard : Claim7 := { stood := { row := fnTreesUptoRow, standIns := [], harness := (true, "23e3ebdd671924b445b05f17d0834a1f50c90c497327164c547a3dec460e375b"), looks := false }, kinds := [], alts := [], laidByText := true, laidKinds := [.data, .pinned], laidTests := true, laidLooks := .later }
def FnTreesUptoCardSaid : Prop := Claim7.holds Tryd.pinned (.plain (OpenSpec.upto fnTreesSpec)) fnTreesUptoCard

/-- THE SECOND FORM's CARD OF 'laws.FnGlobs'. -/
def fnGlobsUptoCard : Claim7 := { stood := { row := fnGlobsUptoRow, standIns := [], harness := (true, "23e3ebdd671924b445b05f17d0834a1f50c90c497327164c547a3dec460e375b"), looks := false }, kinds := [], alts := [], laidByText := true, laidKinds := [.data, .pinned], laidTests := true, laidLooks := .later }
def FnGlobsUptoCardSaid : Prop := Claim7.holds Tryd.pinned (.plain (OpenSpec.upto fnGlobsSpec)) fnGlobsUptoCard

/-- THE SECOND FORM's CARD OF 'laws.FnExactJoin'. -/
def fnExactJoinUptoCard : Claim7 := { stood := { row := fnExactJoinUptoRow, standIns := [], harness := (true, "23e3ebdd671924b445b05f17d0834a1f50c90c497327164c547a3dec460e375b"), looks := false }, kinds := [], alts := [], laidByText := true, laidKinds := [.data, .pinned], laidTests := true, laidLooks := .later }
def FnExactJoinUptoCardSaid : Prop := Claim7.holds Tryd.pinned (.plain (OpenSpec.upto fnExactJoinSpec)) fnExactJoinUptoCard

/-- THE SECOND FORM's CARD OF 'laws.FnPatches'. -/
def fnPatchesUptoCard : Claim7 := { stood := { row := fnPatchesUptoRow, standIns := [], harness := (true, "23e3ebdd671924b445b05f17d0834a1f50c90c497327164c547a3dec460e375b"), looks := false }, kinds := [], alts := [], laidByText := true, laidKinds := [.data, .pinned], laidTests := true, laidLooks := .later }
def FnPatchesUptoCardSaid : Prop := Claim7.holds Tryd.pinned (.plain (OpenSpec.upto fnPatchesSpec)) fnPatchesUptoCard

/-- THE SECOND FORM's CARD OF 'laws.FnJoin'. -/
def fnJoinUptoCard : Claim7 := { stood := { row := fnJoinUptoRow, standIns := [], harness := (true, "23e3ebdd671924b445b05f17d0834a1f50c90c497327164c547a3dec460e375b"), looks := false }, kinds := [], alts := [], laidByText := true, laidKinds := [.data, .pinned], laidTests := true, laidLooks := .later }
def FnJoinUptoCardSaid : Prop := Claim7.holds Tryd.pinned (.plain (OpenSpec.upto fnJoinSpec)) fnJoinUptoCard

/-- THE SECOND FORM's CARD OF 'laws.FnExactMergeText'. -/
def fnExactMergeTextUptoCard : Claim7 := { stood := { row := fnExactMergeTextUptoRow, standIns := [], harness := (true, "23e3ebdd671924b445b05f17d0834a1f50c90c497327164c547a3dec460e375b"), looks := false }, kinds := [], alts := [], laidByText := true, laidKinds := [.data, .pinned], laidTests := true, laidLooks := .later }
def FnExactMergeTextUptoCardSaid : Prop := Claim7.holds Tryd.pinned (.plain (OpenSpec.upto fnExactMergeTextSpec)) fnExactMergeTextUptoCard

/-- THE SECOND FORM's CARD OF 'laws.FnMergeText'. -/
def fnMergeTextUptoCard : Claim7 := { stood := { row := fnMergeTextUptoRow, standIns := [], harness := (true, "23e3ebdd671924b445b05f17d0834a1f50c90c497327164c547a3dec460e375b"), looks := false }, kinds := [], alts := [], laidByText := true, laidKinds := [.data, .pinned], laidTests := true, laidLooks := .later }
def FnMergeTextUptoCardSaid : Prop := Claim7.holds Tryd.pinned (.plain (OpenSpec.upto fnMergeTextSpec)) fnMergeTextUptoCard

/-- THE SECOND FORM's CARD OF 'laws.FnExactTreeSum'. -/
def fnExactTreeSumUptoCard : Claim7 := { stood := { row := fnExactTreeSumUptoRow, standIns := [], harness := (true, "23e3ebdd671924b445b05f17d0834a1f50c90c497327164c547a3dec460e375b"), looks := false }, kinds := [], alts := [], laidByText := true, laidKinds := [.data, .pinned], laidTests := true, laidLooks := .later }
def FnExactTreeSumUptoCardSaid : Prop := Claim7.holds Tryd.pinned (.plain (OpenSpec.upto fnExactTreeSumSpec)) fnExactTreeSumUptoCard

/-- THE SECOND FORM's CARD OF 'laws.FnExactDirText'. -/
def fnExactDirTextUptoCard : Claim7 := { stood := { row := fnExactDirTextUptoRow, standIns := [], harness := (true, "23e3ebdd671924b445b05f17d0834a1f50c90c497327164c547a3dec460e375b"), looks := false }, kinds := [], alts := [], laidByText := true, laidKinds := [.data, .pinned], laidTests := true, laidLooks := .later }
def FnExactDirTextUptoCardSaid : Prop := Claim7.holds Tryd.pinned (.plain (OpenSpec.upto fnExactDirTextSpec)) fnExactDirTextUptoCard

/-- THE SECOND FORM's CARD OF 'laws.FnExactShow'. -/
def fnExactShowUptoCard : Claim7 := { stood := { row := fnExactShowUptoRow, standIns := [], harness := (true, "23e3ebdd671924b445b05f17d0834a1f50c90c497327164c547a3dec460e375b"), looks := false }, kinds := [], alts := [], laidByText := true, laidKinds := [.data, .sentinel, .pinned], laidTests := true, laidLooks := .later }
def FnExactShowUptoCardSaid : Prop := Claim7.holds Tryd.pinned (.plain (OpenSpec.upto fnExactShowSpec)) fnExactShowUptoCard
end Rows
end Go.Proofs.YtknagppkeodggaaDoor
