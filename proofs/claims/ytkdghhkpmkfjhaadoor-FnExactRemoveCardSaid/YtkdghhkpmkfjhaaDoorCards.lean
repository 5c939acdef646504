/-
  DERIVED. GIVEN WITH THE SEED: THE CARDS: each row of YtkdghhkpmkfjhaaDoorRows.lean that lists a variable, with what it lists TIED to the program's text (the seventh form; the later family's looks); each row that meets fmt, with fmt's text TOLD by the authors' own Lean function (tested against real Go, not proved from fmt's source: count such statements apart). THE CARD IS WHAT COUNTS. Prove the row's statement (the work); the ties are given (YtkdghhkpmkfjhaaDoorTie.lean); close each card by the builder's one call (the guide's Derived/Test/ToyasCard.lean, 'card_holds'). Laid BY PROGRAM, IN A SANDBOX (cutbox-door.mjs). By AI agents, Wed Nov 11 2026. No macro, syntax, notation, axiom, sorry.
-/
import Derived.Test.YtkdghhkpmkfjhaaDoorRows
import GoSem.ClaimSeven
namespace Go.Proofs.YtkdghhkpmkfjhaaDoor
namespace Rows

/-- THE TIED CARD OF 'laws.FnExactValidTree'. -/
def fnExactValidTreeCard : Claim7 := { stood := { row := fnExactValidTreeRow, standIns := [], harness := (true, "5e7fdcd359d2c46e5520716c8283eb677549fc8dca10562e2b45ced06bfc941b"), looks := false }, kinds := [], alts := [], laidByText := true, laidKinds := [.data, .pinned], laidTests := true, laidLooks := .later }
def FnExactValidTreeCardSaid : Prop := Claim7.holds Tryd.pinned (.plain (OpenSpec.ofChange fnExactValidTreeSpec)) fnExactValidTreeCard

/-- THE TIED CARD OF 'laws.FnExactValidPatch'. -/
def fnExactValidPatchCard : Claim7 := { stood := { row := fnExactValidPatchRow, standIns := [], harness := (true, "5e7fdcd359d2c46e5520716c8283eb677549fc8dca10562e2b45ced06bfc941b"), looks := false }, kinds := [], alts := [], laidByText := true, laidKinds := [.data, .pinned], laidTests := true, laidLooks := .later }
def FnExactValidPatchCardSaid : Prop := Claim7.holds Tryd.pinned (.plain (OpenSpec.ofChange fnExactValidPatchSpec)) fnExactValidPatchCard

/-- THE TIED CARD OF 'laws.FnExactGet'. -/
def fnExactGetCard : Claim7 := { stood := { row := fnExactGetRow, standIns := [], harness := (true, "5e7fdcd359d2c46e5520716c8283eb677549fc8dca10562e2b45ced06bfc941b"), looks := false }, kinds := [], alts := [], laidByText := true, laidKinds := [.data, .pinned], laidTests := true, laidLooks := .later }
def FnExactGetCardSaid : Prop := Claim7.holds Tryd.pinned (.plain (OpenSpec.ofChange fnExactGetSpec)) fnExactGetCard

/-- THE TIED CARD OF 'laws.FnExactUnder'. -/
def fnExactUnderCard : Claim7 := { stood := { row := fnExactUnderRow, standIns := [], harness := (true, "5e7fdcd359d2c46e5520716c8283eb677549fc8dca10562e2b45ced06bfc941b"), looks := false }, kinds := [], alts := [], laidByText := true, laidKinds := [.data, .pinned], laidTests := true, laidLooks := .later }
def FnExactUnderCardSaid : Prop := Claim7.holds Tryd.pinned (.plain (OpenSpec.ofChange fnExactUnderSpec)) fnExactUnderCard

/-- THE TIED CARD OF 'laws.FnExactUndo'. -/
def fnExactUndoCard : Claim7 := { stood := { row := fnExactUndoRow, standIns := [], harness := (true, "5e7fdcd359d2c46e5520716c8283eb677549fc8dca10562e2b45ced06bfc941b"), looks := false }, kinds := [], alts := [], laidByText := true, laidKinds := [.data, .pinned], laidTests := true, laidLooks := .later }
def FnExactUndoCardSaid : Prop := Claim7.holds Tryd.pinned (.plain (OpenSpec.ofChange fnExactUndoSpec)) fnExactUndoCard

/-- THE TIED CARD OF 'laws.FnExactRemove'. -/
def fnExactRemoveCard : Claim7 := { stood := { row := fnExactRemoveRow, standIns := [], harness := (true, "5e7fdcd359d2c46e5520716c8283eb677549fc8dca10562e2b45ced06bfc941b"), looks := false }, kinds := [], alts := [], laidByText := true, laidKinds := [.data, .pinned], laidTests := true, laidLooks := .later }
def FnExactRemoveCardSaid : Prop := Claim7.holds Tryd.pinned (.plain (OpenSpec.ofChange fnExactRemoveSpec)) fnExactRemoveCard

/-- THE TIED CARD OF 'laws.FnExactPick'. -/
def fnExactPickCard : Claim7 := { stood := { row := fnExactPickRow, standIns := [], harness := (true, "5e7fdcd359d2c46e5520716c8283eb677549fc8dca10562e2b45ced06bfc941b"), looks := false }, kinds := [], alts := [], laidByText := true, laidKinds := [.data, .pinned], laidTests := true, laidLooks := .later }
def FnExactPickCardSaid : Prop := Claim7.holds Tryd.pinned (.plain (OpenSpec.ofChange fnExactPickSpec)) fnExactPickCard

/-- THE TIED CARD OF 'laws.FnExactPut'. -/
def fnExactPutCard : Claim7 := { stood := { row := fnExactPutRow, standIns := [], harness := (true, "5e7fdcd359d2c46e5520716c8283eb677549fc8dca10562e2b45ced06bfc941b"), looks := false }, kinds := [], alts := [], laidByText := true, laidKinds := [.data, .pinned], laidTests := true, laidLooks := .later }
def FnExactPutCardSaid : Prop := Claim7.holds Tryd.pinned (.plain (OpenSpec.ofChange fnExactPutSpec)) fnExactPutCard

/-- THE TIED CARD OF 'laws.FnExactMount'. -/
def fnExactMountCard : Claim7 := { stood := { row := fnExactMountRow, standIns := [], harness := (true, "5e7fdcd359d2c46e5520716c8283eb677549fc8dca10562e2b45ced06bfc941b"), looks := false }, kinds := [], alts := [], laidByText := true, laidKinds := [.data, .pinned], laidTests := true, laidLooks := .later }
def FnExactMountCardSaid : Prop := Claim7.holds Tryd.pinned (.plain (OpenSpec.ofChange fnExactMountSpec)) fnExactMountCard

/-- THE SECOND FORM's CARD OF 'laws.FnExactValidTree'. -/
def fnExactValidTreeUptoCard : Claim7 := { stood := { row := fnExactValidTreeUptoRow, standIns := [], harness := (true, "5e7fdcd359d2c46e5520716c8283eb677549fc8dca10562e2b45ced06bfc941b"), looks := false }, kinds := [], alts := [], laidByText := true, laidKinds := [.data, .pinned], laidTests := true, laidLooks := .later }
def FnExactValidTreeUptoCardSaid : Prop := Claim7.holds Tryd.pinned (.plain (OpenSpec.upto fnExactValidTreeSpec)) fnExactValidTreeUptoCard

/-- THE SECOND FORM's CARD OF 'laws.FnExactValidPatch'. -/
def fnExactValidPatchUptoCard : Claim7 := { stood := { row := fnExactValidPatchUptoRow, standIns := [], harness := (true, "5e7fdcd359d2c46e5520716c8283eb677549fc8dca10562e2b45ced06bfc941b"), looks := false }, kinds := [], alts := [], laidByText := true, laidKinds := [.data, .pinned], laidTests := true, laidLooks := .later }
def FnExactValidPatchUptoCardSaid : Prop := Claim7.holds Tryd.pinned (.plain (OpenSpec.upto fnExactValidPatchSpec)) fnExactValidPatchUptoCard

/-- THE SECOND FORM's CARD OF 'laws.FnExactGet'. -/
def fnExactGetUptoCard : Claim7 := { stood := { row := fnExactGetUptoRow, standIns := [], harness := (true, "5e7fdcd359d2c46e5520716c8283eb677549fc8dca10562e2b45ced06bfc941b"), looks := false }, kinds := [], alts := [], laidByText := true, laidKinds := [.data, .pinned], laidTests := true, laidLooks := .later }
def FnExactGetUptoCardSaid : Prop := Claim7.holds Tryd.pinned (.plain (OpenSpec.upto fnExactGetSpec)) fnExactGetUptoCard

/-- THE SECOND FORM's CARD OF 'laws.FnExactUnder'. -/
def fnExactUnderUptoCard : Claim7 := { stood := { row := fnExactUnderUptoRow, standIns := [], harness := (true, "5e7fdcd359d2c46e5520716c8283eb677549fc8dca10562e2b45ced06bfc941b"), looks := false }, kinds := [], alts := [], laidByText := true, laidKinds := [.data, .pinned], laidTests := true, laidLooks := .later }
def FnExactUnderUptoCardSaid : Prop := Claim7.holds Tryd.pinned (.plain (OpenSpec.upto fnExactUnderSpec)) fnExactUnderUptoCard

/-- THE SECOND FORM's CARD OF 'laws.FnExactUndo'. -/
def fnExactUndoUptoCard : Claim7 := { stood := { row := fnExactUndoUptoRow, standIns := [], harness := (true, "5e7fdcd359d2c46e5520716c8283eb677549fc8dca10562e2b45ced06bfc941b"), looks := false }, kinds := [], alts := [], laidByText := true, laidKinds := [.data, .pinned], laidTests := true, laidLooks := .later }
def FnExactUndoUptoCardSaid : Prop := Claim7.holds Tryd.pinned (.plain (OpenSpec.upto fnExactUndoSpec)) fnExactUndoUptoCard

/-- THE SECOND FORM's CARD OF 'laws.FnExactRemove'. -/
def fnExactRemoveUptoCard : Claim7 := { stood := { row := fnExactRemoveUptoRow, standIns := [], harness := (true, "5e7fdcd359d2c46e5520716c8283eb677549fc8dca10562e2b45ced06bfc941b"), looks := false }, kinds := [], alts := [], laidByText := true, laidKinds := [.data, .pinned], laidTests := true, laidLooks := .later }
def FnExactRemoveUptoCardSaid : Prop := Claim7.holds Tryd.pinned (.plain (OpenSpec.upto fnExactRemoveSpec)) fnExactRemoveUptoCard

/-- THE SECOND FORM's CARD OF 'laws.FnExactPick'. -/
def fnExactPickUptoCard : Claim7 := { stood := { row := fnExactPickUptoRow, standIns := [], harness := (true, "5e7fdcd359d2c46e5520716c8283eb677549fc8dca10562e2b45ced06bfc941b"), looks := false }, kinds := [], alts := [], laidByText := true, laidKinds := [.data, .pinned], laidTests := true, laidLooks := .later }
def FnExactPickUptoCardSaid : Prop := Claim7.holds Tryd.pinned (.plain (OpenSpec.upto fnExactPickSpec)) fnExactPickUptoCard

/-- THE SECOND FORM's CARD OF 'laws.FnExactPut'. -/
def fnExactPutUptoCard : Claim7 := { stood := { row := fnExactPutUptoRow, standIns := [], harness := (true, "5e7fdcd359d2c46e5520716c8283eb677549fc8dca10562e2b45ced06bfc941b"), looks := false }, kinds := [], alts := [], laidByText := true, laidKinds := [.data, .pinned], laidTests := true, laidLooks := .later }
def FnExactPutUptoCardSaid : Prop := Claim7.holds Tryd.pinned (.plain (OpenSpec.upto fnExactPutSpec)) fnExactPutUptoCard

/-- THE SECOND FORM's CARD OF 'laws.FnExactMount'. -/
def fnExactMountUptoCard : Claim7 := { stood := { row := fnExactMountUptoRow, standIns := [], harness := (true, "5e7fdcd359d2c46e5520716c8283eb677549fc8dca10562e2b45ced06bfc941b"), looks := false }, kinds := [], alts := [], laidByText := true, laidKinds := [.data, .pinned], laidTests := true, laidLooks := .later }
def FnExactMountUptoCardSaid : Prop := Claim7.holds Tryd.pinned (.plain (OpenSpec.upto fnExactMountSpec)) fnExactMountUptoCard
end Rows
end Go.Proofs.YtkdghhkpmkfjhaaDoor
