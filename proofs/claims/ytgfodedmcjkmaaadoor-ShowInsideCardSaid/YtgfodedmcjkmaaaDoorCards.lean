/-
  DERIVED. GIVEN WITH THE SEED: THE CARDS: each row of YtgfodedmcjkmaaaDoorRows.lean that lists a variable, with what it lists TIED to the program's text (the seventh form; the later family's looks); each row that meets fmt, with fmt's text TOLD by the authors' own Lean function (tested against real Go, not proved from fmt's source: count such statements apart). THE CARD IS WHAT COUNTS. Prove the row's statement (the work); the ties are given (YtgfodedmcjkmaaaDoorTie.lean); close each card by the builder's one call (the guide's Derived/Test/ToyasCard.lean, 'card_holds'). Laid BY PROGRAM, IN A SANDBOX (cutbox-door.mjs). By AI agents, Wed Nov 11 2026. No macro, syntax, notation, axiom, sorry.
-/
import Derived.Test.YtgfodedmcjkmaaaDoorRows
import GoSem.ClaimSeven
namespace Go.Proofs.YtgfodedmcjkmaaaDoor
namespace Rows

/-- THE TIED CARD OF 'stagehandlaw06.ShowRound'. -/
def showRoundCard : Claim7 := { stood := { row := showRoundRow, standIns := [], harness := (true, "47d32c4c849cae7418ce8d14d5a2595008f4ec426e5b2c4e12d5eb5c5927a7b8"), looks := true }, kinds := [], alts := [], laidByText := true, laidKinds := [.data, .data, .data], laidTests := true, laidLooks := .later }
def ShowRoundCardSaid : Prop := Claim7.holds Tryd.pinned (.plain (OpenSpec.ofChange showRoundSpec)) showRoundCard

/-- THE TIED CARD OF 'stagehandlaw06.ShowBack'. -/
def showBackCard : Claim7 := { stood := { row := showBackRow, standIns := [], harness := (true, "47d32c4c849cae7418ce8d14d5a2595008f4ec426e5b2c4e12d5eb5c5927a7b8"), looks := true }, kinds := [], alts := [], laidByText := true, laidKinds := [.data, .data, .data], laidTests := true, laidLooks := .later }
def ShowBackCardSaid : Prop := Claim7.holds Tryd.pinned (.plain (OpenSpec.ofChange showBackSpec)) showBackCard

/-- THE TIED CARD OF 'stagehandlaw06.ShowInside'. -/
def showInsideCard : Claim7 := { stood := { row := showInsideRow, standIns := [], harness := (true, "47d32c4c849cae7418ce8d14d5a2595008f4ec426e5b2c4e12d5eb5c5927a7b8"), looks := true }, kinds := [], alts := [], laidByText := true, laidKinds := [.data, .data, .data], laidTests := true, laidLooks := .later }
def ShowInsideCardSaid : Prop := Claim7.holds Tryd.pinned (.plain (OpenSpec.ofChange showInsideSpec)) showInsideCard

/-- THE SECOND FORM's CARD OF 'stagehandlaw06.ShowRound'. -/
def showRoundUptoCard : Claim7 := { stood := { row := showRoundUptoRow, standIns := [], harness := (true, "47d32c4c849cae7418ce8d14d5a2595008f4ec426e5b2c4e12d5eb5c5927a7b8"), looks := true }, kinds := [], alts := [], laidByText := true, laidKinds := [.data, .data, .data], laidTests := true, laidLooks := .later }
def ShowRoundUptoCardSaid : Prop := Claim7.holds Tryd.pinned (.plain (OpenSpec.upto showRoundSpec)) showRoundUptoCard

/-- THE SECOND FORM's CARD OF 'stagehandlaw06.ShowBack'. -/
def showBackUptoCard : Claim7 := { stood := { row := showBackUptoRow, standIns := [], harness := (true, "47d32c4c849cae7418ce8d14d5a2595008f4ec426e5b2c4e12d5eb5c5927a7b8"), looks := true }, kinds := [], alts := [], laidByText := true, laidKinds := [.data, .data, .data], laidTests := true, laidLooks := .later }
def ShowBackUptoCardSaid : Prop := Claim7.holds Tryd.pinned (.plain (OpenSpec.upto showBackSpec)) showBackUptoCard

/-- THE SECOND FORM's CARD OF 'stagehandlaw06.ShowInside'. -/
def showInsideUptoCard : Claim7 := { stood := { row := showInsideUptoRow, standIns := [], harness := (true, "47d32c4c849cae7418ce8d14d5a2595008f4ec426e5b2c4e12d5eb5c5927a7b8"), looks := true }, kinds := [], alts := [], laidByText := true, laidKinds := [.data, .data, .data], laidTests := true, laidLooks := .later }
def ShowInsideUptoCardSaid : Prop := Claim7.holds Tryd.pinned (.plain (OpenSpec.upto showInsideSpec)) showInsideUptoCard
end Rows
end Go.Proofs.YtgfodedmcjkmaaaDoor
