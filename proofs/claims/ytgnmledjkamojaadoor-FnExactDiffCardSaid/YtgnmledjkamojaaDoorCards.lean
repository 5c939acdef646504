/-
  DERIVED. GIVEN WITH THE SEED: THE CARDS: each row of YtgnmledjkamojaaDoorRows.lean that lists a variable, with what it lists TIED to the program's text (the seventh form; the later family's looks); each row that meets fmt, with fmt's text TOLD by the authors' own Lean function (tested against real Go, not proved from fmt's source: count such statements apart). THE CARD IS WHAT COUNTS. Prove the row's statement (the work); the ties are given (YtgnmledjkamojaaDoorTie.lean); close each card by the builder's one call (the guide's Derived/Test/ToyasCard.lean, 'card_holds'). Laid BY PROGRAM, IN A SANDBOX (cutbox-door.mjs). By AI agents, Wed Nov 11 2026. No macro, syntax, notation, axiom, sorry.
-/
import Derived.Test.YtgnmledjkamojaaDoorRows
import GoSem.ClaimSeven
namespace Go.Proofs.YtgnmledjkamojaaDoor
namespace Rows

/-- THE TIED CARD OF 'laws.FnExactOverlay'. -/
def fnExactOverlayCard : Claim7 := { stood := { row := fnExactOverlayRow, standIns := [], harness := (true, "9d04927b50bdbf526a01cc13bb4d2b3773f7e44dd8bf6145523607fcba5ce0c0"), looks := false }, kinds := [], alts := [], laidByText := true, laidKinds := [.data, .pinned], laidTests := true, laidLooks := .later }
def FnExactOverlayCardSaid : Prop := Claim7.holds Tryd.pinned (.plain (OpenSpec.ofChange fnExactOverlaySpec)) fnExactOverlayCard

/-- THE TIED CARD OF 'laws.FnTrees'. -/
def fnTreesCard : Claim7 := { stood := { row := fnTreesRow, standIns := [], harness := (true, "9d04927b50bdbf526a01cc13bb4d2b3773f7e44dd8bf6145523607fcba5ce0c0"), looks := false }, kinds := [], alts := [], laidByText := true, laidKinds := [.data, .pinned], laidTests := true, laidLooks := .later }
def FnTreesCardSaid : Prop := Claim7.holds Tryd.pinned (.plain (OpenSpec.ofChange fnTreesSpec)) fnTreesCard

/-- THE TIED CARD OF 'laws.FnGlobs'. -/
def fnGlobsCard : Claim7 := { stood := { row := fnGlobsRow, standIns := [], harness := (true, "9d04927b50bdbf526a01cc13bb4d2b3773f7e44dd8bf6145523607fcba5ce0c0"), looks := false }, kinds := [], alts := [], laidByText := true, laidKinds := [.data, .pinned], laidTests := true, laidLooks := .later }
def FnGlobsCardSaid : Prop := Claim7.holds Tryd.pinned (.plain (OpenSpec.ofChange fnGlobsSpec)) fnGlobsCard

/-- THE TIED CARD OF 'laws.FnExactDiff'. -/
def fnExactDiffCard : Claim7 := { stood := { row := fnExactDiffRow, standIns := [], harness := (true, "9d04927b50bdbf526a01cc13bb4d2b3773f7e44dd8bf6145523607fcba5ce0c0"), looks := false }, kinds := [], alts := [], laidByText := true, laidKinds := [.data, .pinned], laidTests := true, laidLooks := .later }
def FnExactDiffCardSaid : Prop := Claim7.holds Tryd.pinned (.plain (OpenSpec.ofChange fnExactDiffSpec)) fnExactDiffCard

/-- THE TIED CARD OF 'laws.FnExactJoin'. -/
def fnExactJoinCard : Claim7 := { stood := { row := fnExactJoinRow, standIns := [], harness := (true, "9d04927b50bdbf526a01cc13bb4d2b3773f7e44dd8bf6145523607fcba5ce0c0"), looks := false }, kinds := [], alts := [], laidByText := true, laidKinds := [.data, .pinned], laidTests := true, laidLooks := .later }
def FnExactJoinCardSaid : Prop := Claim7.holds Tryd.pinned (.plain (OpenSpec.ofChange fnExactJoinSpec)) fnExactJoinCard

/-- THE TIED CARD OF 'laws.FnExactApply'. -/
def fnExactApplyCard : Claim7 := { stood := { row := fnExactApplyRow, standIns := [], harness := (true, "9d04927b50bdbf526a01cc13bb4d2b3773f7e44dd8bf6145523607fcba5ce0c0"), looks := false }, kinds := [], alts := [], laidByText := true, laidKinds := [.data, .pinned], laidTests := true, laidLooks := .later }
def FnExactApplyCardSaid : Prop := Claim7.holds Tryd.pinned (.plain (OpenSpec.ofChange fnExactApplySpec)) fnExactApplyCard

/-- THE TIED CARD OF 'laws.FnPatches'. -/
def fnPatchesCard : Claim7 := { stood := { row := fnPatchesRow, standIns := [], harness := (true, "9d04927b50bdbf526a01cc13bb4d2b3773f7e44dd8bf6145523607fcba5ce0c0"), looks := false }, kinds := [], alts := [], laidByText := true, laidKinds := [.data, .pinned], laidTests := true, laidLooks := .later }
def FnPatchesCardSaid : Prop := Claim7.holds Tryd.pinned (.plain (OpenSpec.ofChange fnPatchesSpec)) fnPatchesCard

/-- THE TIED CARD OF 'laws.FnJoin'. -/
def fnJoinCard : Claim7 := { stood := { row := fnJoinRow, standIns := [], harness := (true, "9d04927b50bdbf526a01cc13bb4d2b3773f7e44dd8bf6145523607fcba5ce0c0"), looks := false }, kinds := [], alts := [], laidByText := true, laidKinds := [.data, .pinned], laidTests := true, laidLooks := .later }
def FnJoinCardSaid : Prop := Claim7.holds Tryd.pinned (.plain (OpenSpec.ofChange fnJoinSpec)) fnJoinCard

/-- THE TIED CARD OF 'laws.FnExactShow'. -/
def fnExactShowCard : Claim7 := { stood := { row := fnExactShowRow, standIns := [], harness := (true, "9d04927b50bdbf526a01cc13bb4d2b3773f7e44dd8bf6145523607fcba5ce0c0"), looks := false }, kinds := [], alts := [], laidByText := true, laidKinds := [.data, .sentinel, .pinned], laidTests := true, laidLooks := .later }
def FnExactShowCardSaid : Prop := Claim7.holds Tryd.pinned (.plain (OpenSpec.ofChange fnExactShowSpec)) fnExactShowCard

/-- THE TIED CARD OF 'laws.FnExactMergeText'. -/
def fnExactMergeTextCard : Claim7 := { stood := { row := fnExactMergeTextRow, standIns := [], harness := (true, "9d04927b50bdbf526a01cc13bb4d2b3773f7e44dd8bf6145523607fcba5ce0c0"), looks := false }, kinds := [], alts := [], laidByText := true, laidKinds := [.data, .pinned], laidTests := true, laidLooks := .later }
def FnExactMergeTextCardSaid : Prop := Claim7.holds Tryd.pinned (.plain (OpenSpec.ofChange fnExactMergeTextSpec)) fnExactMergeTextCard

/-- THE SECOND FORM's CARD OF 'laws.FnExactOverlay'. -/
def fnExactOverlayUptoCard : Claim7 := { stood := { row := fnExactOverlayUptoRow, standIns := [], harness := (true, "9d04927b50bdbf526a01cc13bb4d2b3773f7e44dd8bf6145523607fcba5ce0c0"), looks := false }, kinds := [], alts := [], laidByText := true, laidKinds := [.data, .pinned], laidTests := true, laidLooks := .later }
def FnExactOverlayUptoCardSaid : Prop := Claim7.holds Tryd.pinned (.plain (OpenSpec.upto fnExactOverlaySpec)) fnExactOverlayUptoCard

/-- THE SECOND FORM's CARD OF 'laws.FnTrees'. -/
def fnTreesUptoCard : Claim7 := { stood := { row := fnTreesUptoRow, standIns := [], harness := (true, "9d04927b50bdbf526a01cc13bb4d2b3773f7e44dd8bf6145523607fcba5ce0c0"), looks := false }, kinds := [], alts := [], laidByText := true, laidKinds := [.data, .pinned], laidTests := true, laidLooks := .later }
def FnTreesUptoCardSaid : Prop := Claim7.holds Tryd.pinned (.plain (OpenSpec.upto fnTreesSpec)) fnTreesUptoCard

/-- THE SECOND FORM's CARD OF 'laws.FnGlobs'. -/
def fnGlobsUptoCard : Claim7 := { stood := { row := fnGlobsUptoRow, standIns := [], harness := (true, "9d04927b50bdbf526a01cc13bb4d2b3773f7e44dd8bf6145523607fcba5ce0c0"), looks := false }, kinds := [], alts := [], laidByText := true, laidKinds := [.data, .pinned], laidTests := true, laidLooks := .later }
def FnGlobsUptoCardSaid : Prop := Claim7.holds Tryd.pinned (.plain (OpenSpec.upto fnGlobsSpec)) fnGlobsUptoCard

/-- THE SECOND FORM's CARD OF 'laws.FnExactDiff'. -/
def fnExactDiffUptoCard : Claim7 := { stood := { row := fnExactDiffUptoRow, standIns := [], harness := (true, "9d04927b50bdbf526a01cc13bb4d2b3773f7e44dd8bf6145523607fcba5ce0c0"), looks := false }, kinds := [], alts := [], laidByText := true, laidKinds := [.data, .pinned], laidTests := true, laidLooks := .later }
def FnExactDiffUptoCardSaid : Prop := Claim7.holds Tryd.pinned (.plain (OpenSpec.upto fnExactDiffSpec)) fnExactDiffUptoCard

/-- THE SECOND FORM's CARD OF 'laws.FnExactJoin'. -/
def fnExactJoinUptoCard : Claim7 := { stood := { row := fnExactJoinUptoRow, standIns := [], harness := (true, "9d04927b50bdbf526a01cc13bb4d2b3773f7e44dd8bf6145523607fcba5ce0c0"), looks := false }, kinds := [], alts := [], laidByText := true, laidKinds := [.data, .pinned], laidTests := true, laidLooks := .later }
def FnExactJoinUptoCardSaid : Prop := Claim7.holds Tryd.pinned (.plain (OpenSpec.upto fnExactJoinSpec)) fnExactJoinUptoCard

/-- THE SECOND FORM's CARD OF 'laws.FnExactApply'. -/
def fnExactApplyUptoCard : Claim7 := { stood := { row := fnExactApplyUptoRow, standIns := [], harness := (true, "9d04927b50bdbf526a01cc13bb4d2b3773f7e44dd8bf6145523607fcba5ce0c0"), looks := false }, kinds := [], alts := [], laidByText := true, laidKinds := [.data, .pinned], laidTests := true, laidLooks := .later }
def FnExactApplyUptoCardSaid : Prop := Claim7.holds Tryd.pinned (.plain (OpenSpec.upto fnExactApplySpec)) fnExactApplyUptoCard

/-- THE SECOND FORM's CARD OF 'laws.FnPatches'. -/
def fnPatchesUptoCard : Claim7 := { stood := { row := fnPatchesUptoRow, standIns := [], harness := (true, "9d04927b50bdbf526a01cc13bb4d2b3773f7e44dd8bf6145523607fcba5ce0c0"), looks := false }, kinds := [], alts := [], laidByText := true, laidKinds := [.data, .pinned], laidTests := true, laidLooks := .later }
def FnPatchesUptoCardSaid : Prop := Claim7.holds Tryd.pinned (.plain (OpenSpec.upto fnPatchesSpec)) fnPatchesUptoCard

/-- THE SECOND FORM's CARD OF 'laws.FnJoin'. -/
def fnJoinUptoCard : Claim7 := { stood := { row := fnJoinUptoRow, standIns := [], harness := (true, "9d04927b50bdbf526a01cc13bb4d2b3773f7e44dd8bf6145523607fcba5ce0c0"), looks := false }, kinds := [], alts := [], laidByText := true, laidKinds := [.data, .pinned], laidTests := true, laidLooks := .later }
def FnJoinUptoCardSaid : Prop := Claim7.holds Tryd.pinned (.plain (OpenSpec.upto fnJoinSpec)) fnJoinUptoCard

/-- THE SECOND FORM's CARD OF 'laws.FnExactShow'. -/
def fnExactShowUptoCard : Claim7 := { stood := { row := fnExactShowUptoRow, standIns := [], harness := (true, "9d04927b50bdbf526a01cc13bb4d2b3773f7e44dd8bf6145523607fcba5ce0c0"), looks := false }, kinds := [], alts := [], laidByText := true, laidKinds := [.data, .sentinel, .pinned], laidTests := true, laidLooks := .later }
def FnExactShowUptoCardSaid : Prop := Claim7.holds Tryd.pinned (.plain (OpenSpec.upto fnExactShowSpec)) fnExactShowUptoCard

/-- THE SECOND FORM's CARD OF 'laws.FnExactMergeText'. -/
def fnExactMergeTextUptoCard : Claim7 := { stood := { row := fnExactMergeTextUptoRow, standIns := [], harness := (true, "9d04927b50bdbf526a01cc13bb4d2b3773f7e44dd8bf6145523607fcba5ce0c0"), looks := false }, kinds := [], alts := [], laidByText := true, laidKinds := [.data, .pinned], laidTests := true, laidLooks := .later }
def FnExactMergeTextUptoCardSaid : Prop := Claim7.holds Tryd.pinned (.plain (OpenSpec.upto fnExactMergeTextSpec)) fnExactMergeTextUptoCard
end Rows
end Go.Proofs.YtgnmledjkamojaaDoor
