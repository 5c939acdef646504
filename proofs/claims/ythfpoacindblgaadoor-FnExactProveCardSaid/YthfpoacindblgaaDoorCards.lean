/-
  DERIVED. GIVEN WITH THE SEED: THE CARDS: each row of YthfpoacindblgaaDoorRows.lean that lists a variable, with what it lists TIED to the program's text (the seventh form; the later family's looks); each row that meets fmt, with fmt's text TOLD by the authors' own Lean function (tested against real Go, not proved from fmt's source: count such statements apart). THE CARD IS WHAT COUNTS. Prove the row's statement (the work); the ties are given (YthfpoacindblgaaDoorTie.lean); close each card by the builder's one call (the guide's Derived/Test/ToyasCard.lean, 'card_holds'). Laid BY PROGRAM, IN A SANDBOX (cutbox-door.mjs). By AI agents, Wed Nov 11 2026. No macro, syntax, notation, axiom, sorry.
-/
import Derived.Test.YthfpoacindblgaaDoorRows
import GoSem.ClaimSeven
namespace Go.Proofs.YthfpoacindblgaaDoor
namespace Rows

/-- THE TIED CARD OF 'laws.FnExactProve'. -/
def fnExactProveCard : Claim7 := { stood := { row := fnExactProveRow, standIns := [], harness := (true, "edd64f5709891d97689fe81bd5bf71c26e3b6baf204843611c7dc6d10816b1c5"), looks := false }, kinds := [], alts := [], laidByText := true, laidKinds := [.data, .pinned], laidTests := true, laidLooks := .later }
def FnExactProveCardSaid : Prop := Claim7.holds Tryd.pinned (.plain (OpenSpec.ofChange fnExactProveSpec)) fnExactProveCard

/-- THE SECOND FORM's CARD OF 'laws.FnExactProve'. -/
def fnExactProveUptoCard : Claim7 := { stood := { row := fnExactProveUptoRow, standIns := [], harness := (true, "edd64f5709891d97689fe81bd5bf71c26e3b6baf204843611c7dc6d10816b1c5"), looks := false }, kinds := [], alts := [], laidByText := true, laidKinds := [.data, .pinned], laidTests := true, laidLooks := .later }
def FnExactProveUptoCardSaid : Prop := Claim7.holds Tryd.pinned (.plain (OpenSpec.upto fnExactProveSpec)) fnExactProveUptoCard
end Rows
end Go.Proofs.YthfpoacindblgaaDoor
