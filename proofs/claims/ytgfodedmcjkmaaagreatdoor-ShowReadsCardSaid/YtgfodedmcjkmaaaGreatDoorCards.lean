/-
  DERIVED. GIVEN WITH THE SEED: THE CARDS: each row of YtgfodedmcjkmaaaGreatDoorRows.lean that lists a variable, with what it lists TIED to the program's text (the seventh form; the later family's looks); each row that meets fmt, with fmt's text TOLD by the authors' own Lean function (tested against real Go, not proved from fmt's source: count such statements apart). THE CARD IS WHAT COUNTS. Prove the row's statement (the work); the ties are given (YtgfodedmcjkmaaaGreatDoorTie.lean); close each card by the builder's one call (the guide's Derived/Test/ToyasCard.lean, 'card_holds'). Laid BY PROGRAM, IN A SANDBOX (cutbox-door.mjs). By AI agents, Wed Nov 11 2026. No macro, syntax, notation, axiom, sorry.
-/
import Derived.Test.YtgfodedmcjkmaaaGreatDoorRows
import GoSem.ClaimSeven
namespace Go.Proofs.YtgfodedmcjkmaaaGreatDoor
namespace Rows

/-- THE TIED CARD OF 'stagehandlaw06.ShowTerms'. -/
def showTermsCard : Claim7 := { stood := { row := showTermsRow, standIns := [], harness := (true, "fa902d8d3c9a397ee49526c33e524a1272e086c7a8ac54d3537094996eee57c2"), looks := true }, kinds := [], alts := [], laidByText := true, laidKinds := [.data, .data, .data], laidTests := true, laidLooks := .later }
def ShowTermsCardSaid : Prop := Claim7.holds Tryz.pinned (.plain (OpenSpec.ofChange showTermsSpec)) showTermsCard

/-- THE TIED CARD OF 'stagehandlaw06.ShowReads'. -/
def showReadsCard : Claim7 := { stood := { row := showReadsRow, standIns := [], harness := (true, "fa902d8d3c9a397ee49526c33e524a1272e086c7a8ac54d3537094996eee57c2"), looks := true }, kinds := [], alts := [], laidByText := true, laidKinds := [.data, .data, .data], laidTests := true, laidLooks := .later }
def ShowReadsCardSaid : Prop := Claim7.holds Tryz.pinned (.plain (OpenSpec.ofChange showReadsSpec)) showReadsCard

/-- THE TIED CARD OF 'stagehandlaw06.ShowLists'. -/
def showListsCard : Claim7 := { stood := { row := showListsRow, standIns := [], harness := (true, "fa902d8d3c9a397ee49526c33e524a1272e086c7a8ac54d3537094996eee57c2"), looks := true }, kinds := [], alts := [], laidByText := true, laidKinds := [.data, .data, .data], laidTests := true, laidLooks := .later }
def ShowListsCardSaid : Prop := Claim7.holds Tryz.pinned (.plain (OpenSpec.ofChange showListsSpec)) showListsCard

/-- THE SECOND FORM's CARD OF 'stagehandlaw06.ShowTerms'. -/
def showTermsUptoCard : Claim7 := { stood := { row := showTermsUptoRow, standIns := [], harness := (true, "fa902d8d3c9a397ee49526c33e524a1272e086c7a8ac54d3537094996eee57c2"), looks := true }, kinds := [], alts := [], laidByText := true, laidKinds := [.data, .data, .data], laidTests := true, laidLooks := .later }
def ShowTermsUptoCardSaid : Prop := Claim7.holds Tryz.pinned (.plain (OpenSpec.upto showTermsSpec)) showTermsUptoCard

/-- THE SECOND FORM's CARD OF 'stagehandlaw06.ShowReads'. -/
def showReadsUptoCard : Claim7 := { stood := { row := showReadsUptoRow, standIns := [], harness := (true, "fa902d8d3c9a397ee49526c33e524a1272e086c7a8ac54d3537094996eee57c2"), looks := true }, kinds := [], alts := [], laidByText := true, laidKinds := [.data, .data, .data], laidTests := true, laidLooks := .later }
def ShowReadsUptoCardSaid : Prop := Claim7.holds Tryz.pinned (.plain (OpenSpec.upto showReadsSpec)) showReadsUptoCard

/-- THE SECOND FORM's CARD OF 'stagehandlaw06.ShowLists'. -/
def showListsUptoCard : Claim7 := { stood := { row := showListsUptoRow, standIns := [], harness := (true, "fa902d8d3c9a397ee49526c33e524a1272e086c7a8ac54d3537094996eee57c2"), looks := true }, kinds := [], alts := [], laidByText := true, laidKinds := [.data, .data, .data], laidTests := true, laidLooks := .later }
def ShowListsUptoCardSaid : Prop := Claim7.holds Tryz.pinned (.plain (OpenSpec.upto showListsSpec)) showListsUptoCard
end Rows
end Go.Proofs.YtgfodedmcjkmaaaGreatDoor
