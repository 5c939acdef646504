/-
  DERIVED. GIVEN WITH THE SEED: THE CARDS: each row of YtgaibeckblmbbaaDoorRows.lean that lists a variable, with what it lists TIED to the program's text (the seventh form; the later family's looks); each row that meets fmt, with fmt's text TOLD by the authors' own Lean function (tested against real Go, not proved from fmt's source: count such statements apart). THE CARD IS WHAT COUNTS. Prove the row's statement (the work); the ties are given (YtgaibeckblmbbaaDoorTie.lean); close each card by the builder's one call (the guide's Derived/Test/ToyasCard.lean, 'card_holds'). Laid BY PROGRAM, IN A SANDBOX (cutbox-door.mjs). By AI agents, Wed Nov 11 2026. No macro, syntax, notation, axiom, sorry.
-/
import Derived.Test.YtgaibeckblmbbaaDoorRows
import GoSem.ClaimSeven
namespace Go.Proofs.YtgaibeckblmbbaaDoor
namespace Rows

/-- THE TIED CARD OF 'laws.FnExactLines'. -/
def fnExactLinesCard : Claim7 := { stood := { row := fnExactLinesRow, standIns := [], harness := (true, "f7dbe2fbce9073c9d6052674c8395f22e5c06020c8b3264380c38251488b09e6"), looks := false }, kinds := [], alts := [], laidByText := true, laidKinds := [.data, .pinned], laidTests := true, laidLooks := .later }
def FnExactLinesCardSaid : Prop := Claim7.holds Tryd.pinned (.plain (OpenSpec.ofChange fnExactLinesSpec)) fnExactLinesCard

/-- THE TIED CARD OF 'laws.FnExactValidGlob'. -/
def fnExactValidGlobCard : Claim7 := { stood := { row := fnExactValidGlobRow, standIns := [], harness := (true, "f7dbe2fbce9073c9d6052674c8395f22e5c06020c8b3264380c38251488b09e6"), looks := false }, kinds := [], alts := [], laidByText := true, laidKinds := [.data, .pinned], laidTests := true, laidLooks := .later }
def FnExactValidGlobCardSaid : Prop := Claim7.holds Tryd.pinned (.plain (OpenSpec.ofChange fnExactValidGlobSpec)) fnExactValidGlobCard

/-- THE TIED CARD OF 'laws.FnExactValidPath'. -/
def fnExactValidPathCard : Claim7 := { stood := { row := fnExactValidPathRow, standIns := [], harness := (true, "f7dbe2fbce9073c9d6052674c8395f22e5c06020c8b3264380c38251488b09e6"), looks := false }, kinds := [], alts := [], laidByText := true, laidKinds := [.data, .pinned], laidTests := true, laidLooks := .later }
def FnExactValidPathCardSaid : Prop := Claim7.holds Tryd.pinned (.plain (OpenSpec.ofChange fnExactValidPathSpec)) fnExactValidPathCard

/-- THE TIED CARD OF 'laws.FnExactMatch'. -/
def fnExactMatchCard : Claim7 := { stood := { row := fnExactMatchRow, standIns := [], harness := (true, "f7dbe2fbce9073c9d6052674c8395f22e5c06020c8b3264380c38251488b09e6"), looks := false }, kinds := [], alts := [], laidByText := true, laidKinds := [.data, .pinned], laidTests := true, laidLooks := .later }
def FnExactMatchCardSaid : Prop := Claim7.holds Tryd.pinned (.plain (OpenSpec.ofChange fnExactMatchSpec)) fnExactMatchCard

/-- THE SECOND FORM's CARD OF 'laws.FnExactLines'. -/
def fnExactLinesUptoCard : Claim7 := { stood := { row := fnExactLinesUptoRow, standIns := [], harness := (true, "f7dbe2fbce9073c9d6052674c8395f22e5c06020c8b3264380c38251488b09e6"), looks := false }, kinds := [], alts := [], laidByText := true, laidKinds := [.data, .pinned], laidTests := true, laidLooks := .later }
def FnExactLinesUptoCardSaid : Prop := Claim7.holds Tryd.pinned (.plain (OpenSpec.upto fnExactLinesSpec)) fnExactLinesUptoCard

/-- THE SECOND FORM's CARD OF 'laws.FnExactValidGlob'. -/
def fnExactValidGlobUptoCard : Claim7 := { stood := { row := fnExactValidGlobUptoRow, standIns := [], harness := (true, "f7dbe2fbce9073c9d6052674c8395f22e5c06020c8b3264380c38251488b09e6"), looks := false }, kinds := [], alts := [], laidByText := true, laidKinds := [.data, .pinned], laidTests := true, laidLooks := .later }
def FnExactValidGlobUptoCardSaid : Prop := Claim7.holds Tryd.pinned (.plain (OpenSpec.upto fnExactValidGlobSpec)) fnExactValidGlobUptoCard

/-- THE SECOND FORM's CARD OF 'laws.FnExactValidPath'. -/
def fnExactValidPathUptoCard : Claim7 := { stood := { row := fnExactValidPathUptoRow, standIns := [], harness := (true, "f7dbe2fbce9073c9d6052674c8395f22e5c06020c8b3264380c38251488b09e6"), looks := false }, kinds := [], alts := [], laidByText := true, laidKinds := [.data, .pinned], laidTests := true, laidLooks := .later }
def FnExactValidPathUptoCardSaid : Prop := Claim7.holds Tryd.pinned (.plain (OpenSpec.upto fnExactValidPathSpec)) fnExactValidPathUptoCard

/-- THE SECOND FORM's CARD OF 'laws.FnExactMatch'. -/
def fnExactMatchUptoCard : Claim7 := { stood := { row := fnExactMatchUptoRow, standIns := [], harness := (true, "f7dbe2fbce9073c9d6052674c8395f22e5c06020c8b3264380c38251488b09e6"), looks := false }, kinds := [], alts := [], laidByText := true, laidKinds := [.data, .pinned], laidTests := true, laidLooks := .later }
def FnExactMatchUptoCardSaid : Prop := Claim7.holds Tryd.pinned (.plain (OpenSpec.upto fnExactMatchSpec)) fnExactMatchUptoCard
end Rows
end Go.Proofs.YtgaibeckblmbbaaDoor
