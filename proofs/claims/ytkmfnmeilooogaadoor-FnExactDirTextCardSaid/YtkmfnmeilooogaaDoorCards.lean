/-
  DERIVED. GIVEN WITH THE SEED: THE CARDS: each row of YtkmfnmeilooogaaDoorRows.lean that lists a variable, with what it lists TIED to the program's text (the seventh form; the later family's looks); each row that meets fmt, with fmt's text TOLD by the authors' own Lean function (tested against real Go, not proved from fmt's source: count such statements apart). THE CARD IS WHAT COUNTS. Prove the row's statement (the work); the ties are given (YtkmfnmeilooogaaDoorTie.lean); close each card by the builder's one call (the guide's Derived/Test/ToyasCard.lean, 'card_holds'). Laid BY PROGRAM, IN A SANDBOX (cutbox-door.mjs). By AI agents, Wed Nov 11 2026. No macro, syntax, notation, axiom, sorry.
-/
import Derived.Test.YtkmfnmeilooogaaDoorRows
import GoSem.ClaimSeven
namespace Go.Proofs.YtkmfnmeilooogaaDoor
namespace Rows

/-- THE TIED CARD OF 'laws.FnExactMergeText'. -/
def fnExactMergeTextCard : Claim7 := { stood := { row := fnExactMergeTextRow, standIns := [], harness := (true, "95017b31976b2850831d7ab7732c78fe83d5099d2dba3578a5965880bf4b6df9"), looks := false }, kinds := [], alts := [], laidByText := true, laidKinds := [.data, .pinned], laidTests := true, laidLooks := .later }
def FnExactMergeTextCardSaid : Prop := Claim7.holds Tryd.pinned (.plain (OpenSpec.ofChange fnExactMergeTextSpec)) fnExactMergeTextCard

/-- THE TIED CARD OF 'laws.FnMergeText'. -/
def fnMergeTextCard : Claim7 := { stood := { row := fnMergeTextRow, standIns := [], harness := (true, "95017b31976b2850831d7ab7732c78fe83d5099d2dba3578a5965880bf4b6df9"), looks := false }, kinds := [], alts := [], laidByText := true, laidKinds := [.data, .pinned], laidTests := true, laidLooks := .later }
def FnMergeTextCardSaid : Prop := Claim7.holds Tryd.pinned (.plain (OpenSpec.ofChange fnMergeTextSpec)) fnMergeTextCard

/-- THE TIED CARD OF 'laws.FnExactShow'. -/
def fnExactShowCard : Claim7 := { stood := { row := fnExactShowRow, standIns := [], harness := (true, "95017b31976b2850831d7ab7732c78fe83d5099d2dba3578a5965880bf4b6df9"), looks := false }, kinds := [], alts := [], laidByText := true, laidKinds := [.data, .sentinel, .pinned], laidTests := true, laidLooks := .later }
def FnExactShowCardSaid : Prop := Claim7.holds Tryd.pinned (.plain (OpenSpec.ofChange fnExactShowSpec)) fnExactShowCard

/-- THE TIED CARD OF 'laws.FnExactTreeSum'. -/
def fnExactTreeSumCard : Claim7 := { stood := { row := fnExactTreeSumRow, standIns := [], harness := (true, "95017b31976b2850831d7ab7732c78fe83d5099d2dba3578a5965880bf4b6df9"), looks := false }, kinds := [], alts := [], laidByText := true, laidKinds := [.data, .pinned], laidTests := true, laidLooks := .later }
def FnExactTreeSumCardSaid : Prop := Claim7.holds Tryd.pinned (.plain (OpenSpec.ofChange fnExactTreeSumSpec)) fnExactTreeSumCard

/-- THE TIED CARD OF 'laws.FnExactDirText'. -/
def fnExactDirTextCard : Claim7 := { stood := { row := fnExactDirTextRow, standIns := [], harness := (true, "95017b31976b2850831d7ab7732c78fe83d5099d2dba3578a5965880bf4b6df9"), looks := false }, kinds := [], alts := [], laidByText := true, laidKinds := [.data, .pinned], laidTests := true, laidLooks := .later }
def FnExactDirTextCardSaid : Prop := Claim7.holds Tryd.pinned (.plain (OpenSpec.ofChange fnExactDirTextSpec)) fnExactDirTextCard

/-- THE SECOND FORM's CARD OF 'laws.FnExactMergeText'. -/
def fnExactMergeTextUptoCard : Claim7 := { stood := { row := fnExactMergeTextUptoRow, standIns := [], harness := (true, "95017b31976b2850831d7ab7732c78fe83d5099d2dba3578a5965880bf4b6df9"), looks := false }, kinds := [], alts := [], laidByText := true, laidKinds := [.data, .pinned], laidTests := true, laidLooks := .later }
def FnExactMergeTextUptoCardSaid : Prop := Claim7.holds Tryd.pinned (.plain (OpenSpec.upto fnExactMergeTextSpec)) fnExactMergeTextUptoCard

/-- THE SECOND FORM's CARD OF 'laws.FnMergeText'. -/
def fnMergeTextUptoCard : Claim7 := { stood := { row := fnMergeTextUptoRow, standIns := [], harness := (true, "95017b31976b2850831d7ab7732c78fe83d5099d2dba3578a5965880bf4b6df9"), looks := false }, kinds := [], alts := [], laidByText := true, laidKinds := [.data, .pinned], laidTests := true, laidLooks := .later }
def FnMergeTextUptoCardSaid : Prop := Claim7.holds Tryd.pinned (.plain (OpenSpec.upto fnMergeTextSpec)) fnMergeTextUptoCard

/-- THE SECOND FORM's CARD OF 'laws.FnExactShow'. -/
def fnExactShowUptoCard : Claim7 := { stood := { row := fnExactShowUptoRow, standIns := [], harness := (true, "95017b31976b2850831d7ab7732c78fe83d5099d2dba3578a5965880bf4b6df9"), looks := false }, kinds := [], alts := [], laidByText := true, laidKinds := [.data, .sentinel, .pinned], laidTests := true, laidLooks := .later }
def FnExactShowUptoCardSaid : Prop := Claim7.holds Tryd.pinned (.plain (OpenSpec.upto fnExactShowSpec)) fnExactShowUptoCard

/-- THE SECOND FORM's CARD OF 'laws.FnExactTreeSum'. -/
def fnExactTreeSumUptoCard : Claim7 := { stood := { row := fnExactTreeSumUptoRow, standIns := [], harness := (true, "95017b31976b2850831d7ab7732c78fe83d5099d2dba3578a5965880bf4b6df9"), looks := false }, kinds := [], alts := [], laidByText := true, laidKinds := [.data, .pinned], laidTests := true, laidLooks := .later }
def FnExactTreeSumUptoCardSaid : Prop := Claim7.holds Tryd.pinned (.plain (OpenSpec.upto fnExactTreeSumSpec)) fnExactTreeSumUptoCard

/-- THE SECOND FORM's CARD OF 'laws.FnExactDirText'. -/
def fnExactDirTextUptoCard : Claim7 := { stood := { row := fnExactDirTextUptoRow, standIns := [], harness := (true, "95017b31976b2850831d7ab7732c78fe83d5099d2dba3578a5965880bf4b6df9"), looks := false }, kinds := [], alts := [], laidByText := true, laidKinds := [.data, .pinned], laidTests := true, laidLooks := .later }
def FnExactDirTextUptoCardSaid : Prop := Claim7.holds Tryd.pinned (.plain (OpenSpec.upto fnExactDirTextSpec)) fnExactDirTextUptoCard
end Rows
end Go.Proofs.YtkmfnmeilooogaaDoor
