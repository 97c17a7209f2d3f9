/-
  DERIVED. GIVEN WITH THE SEED: THE CARDS: each row of YtmcnhggpmlhgeaaGreatDoorRows.lean that lists a variable, with what it lists TIED to the program's text (the seventh form; the later family's looks); each row that meets fmt, with fmt's text TOLD by the authors' own Lean function (tested against real Go, not proved from fmt's source: count such statements apart). THE CARD IS WHAT COUNTS. Prove the row's statement (the work); the ties are given (YtmcnhggpmlhgeaaGreatDoorTie.lean); close each card by the builder's one call (the guide's Derived/Test/ToyasCard.lean, 'card_holds'). Laid BY PROGRAM, IN A SANDBOX (cutbox-door.mjs). By AI agents, Wed Nov 11 2026. No macro, syntax, notation, axiom, sorry.
-/
import Derived.Test.YtmcnhggpmlhgeaaGreatDoorRows
import GoSem.ClaimSeven
namespace Go.Proofs.YtmcnhggpmlhgeaaGreatDoor
namespace Rows

/-- THE TIED CARD OF 'stagehandlaw09.LexScans'. -/
def lexScansCard : Claim7 := { stood := { row := lexScansRow, standIns := [], harness := (true, "206f3a23d69101035fbd31ae5cb909e7e44da7f44dfbecb942b6a8bdfeaf41af"), looks := true }, kinds := [], alts := [], laidByText := true, laidKinds := [.data, .data, .data, .sentinel, .sentinel, .listed, .data], laidTests := true, laidLooks := .later }
def LexScansCardSaid : Prop := Claim7.holds Tryz.pinned (.plain (OpenSpec.ofChange lexScansSpec)) lexScansCard

/-- THE TIED CARD OF 'stagehandlaw09.LexJoins'. -/
def lexJoinsCard : Claim7 := { stood := { row := lexJoinsRow, standIns := [], harness := (true, "206f3a23d69101035fbd31ae5cb909e7e44da7f44dfbecb942b6a8bdfeaf41af"), looks := true }, kinds := [], alts := [], laidByText := true, laidKinds := [.data, .data, .data, .sentinel, .sentinel, .listed, .data], laidTests := true, laidLooks := .later }
def LexJoinsCardSaid : Prop := Claim7.holds Tryz.pinned (.plain (OpenSpec.ofChange lexJoinsSpec)) lexJoinsCard

/-- THE TIED CARD OF 'stagehandlaw09.LexValid'. -/
def lexValidCard : Claim7 := { stood := { row := lexValidRow, standIns := [], harness := (true, "206f3a23d69101035fbd31ae5cb909e7e44da7f44dfbecb942b6a8bdfeaf41af"), looks := true }, kinds := [], alts := [], laidByText := true, laidKinds := [.data, .data, .data, .sentinel, .sentinel, .listed, .data], laidTests := true, laidLooks := .later }
def LexValidCardSaid : Prop := Claim7.holds Tryz.pinned (.plain (OpenSpec.ofChange lexValidSpec)) lexValidCard

/-- THE TIED CARD OF 'stagehandlaw09.LexRound'. -/
def lexRoundCard : Claim7 := { stood := { row := lexRoundRow, standIns := [], harness := (true, "206f3a23d69101035fbd31ae5cb909e7e44da7f44dfbecb942b6a8bdfeaf41af"), looks := true }, kinds := [], alts := [], laidByText := true, laidKinds := [.data, .data, .data, .sentinel, .sentinel, .listed, .data], laidTests := true, laidLooks := .later }
def LexRoundCardSaid : Prop := Claim7.holds Tryz.pinned (.plain (OpenSpec.ofChange lexRoundSpec)) lexRoundCard

/-- THE TIED CARD OF 'stagehandlaw09.LexCompact'. -/
def lexCompactCard : Claim7 := { stood := { row := lexCompactRow, standIns := [], harness := (true, "206f3a23d69101035fbd31ae5cb909e7e44da7f44dfbecb942b6a8bdfeaf41af"), looks := true }, kinds := [], alts := [], laidByText := true, laidKinds := [.data, .data, .data, .sentinel, .sentinel, .listed, .data], laidTests := true, laidLooks := .later }
def LexCompactCardSaid : Prop := Claim7.holds Tryz.pinned (.plain (OpenSpec.ofChange lexCompactSpec)) lexCompactCard

/-- THE TIED CARD OF 'stagehandlaw09.LexLines'. -/
def lexLinesCard : Claim7 := { stood := { row := lexLinesRow, standIns := [], harness := (true, "206f3a23d69101035fbd31ae5cb909e7e44da7f44dfbecb942b6a8bdfeaf41af"), looks := true }, kinds := [], alts := [], laidByText := true, laidKinds := [.data, .data, .data, .sentinel, .sentinel, .listed, .data], laidTests := true, laidLooks := .later }
def LexLinesCardSaid : Prop := Claim7.holds Tryz.pinned (.plain (OpenSpec.ofChange lexLinesSpec)) lexLinesCard

/-- THE SECOND FORM's CARD OF 'stagehandlaw09.LexScans'. -/
def lexScansUptoCard : Claim7 := { stood := { row := lexScansUptoRow, standIns := [], harness := (true, "206f3a23d69101035fbd31ae5cb909e7e44da7f44dfbecb942b6a8bdfeaf41af"), looks := true }, kinds := [], alts := [], laidByText := true, laidKinds := [.data, .data, .data, .sentinel, .sentinel, .listed, .data], laidTests := true, laidLooks := .later }
def LexScansUptoCardSaid : Prop := Claim7.holds Tryz.pinned (.plain (OpenSpec.upto lexScansSpec)) lexScansUptoCard

/-- THE SECOND FORM's CARD OF 'stagehandlaw09.LexJoins'. -/
def lexJoinsUptoCard : Claim7 := { stood := { row := lexJoinsUptoRow, standIns := [], harness := (true, "206f3a23d69101035fbd31ae5cb909e7e44da7f44dfbecb942b6a8bdfeaf41af"), looks := true }, kinds := [], alts := [], laidByText := true, laidKinds := [.data, .data, .data, .sentinel, .sentinel, .listed, .data], laidTests := true, laidLooks := .later }
def LexJoinsUptoCardSaid : Prop := Claim7.holds Tryz.pinned (.plain (OpenSpec.upto lexJoinsSpec)) lexJoinsUptoCard

/-- THE SECOND FORM's CARD OF 'stagehandlaw09.LexValid'. -/
def lexValidUptoCard : Claim7 := { stood := { row := lexValidUptoRow, standIns := [], harness := (true, "206f3a23d69101035fbd31ae5cb909e7e44da7f44dfbecb942b6a8bdfeaf41af"), looks := true }, kinds := [], alts := [], laidByText := true, laidKinds := [.data, .data, .data, .sentinel, .sentinel, .listed, .data], laidTests := true, laidLooks := .later }
def LexValidUptoCardSaid : Prop := Claim7.holds Tryz.pinned (.plain (OpenSpec.upto lexValidSpec)) lexValidUptoCard

/-- THE SECOND FORM's CARD OF 'stagehandlaw09.LexRound'. -/
def lexRoundUptoCard : Claim7 := { stood := { row := lexRoundUptoRow, standIns := [], harness := (true, "206f3a23d69101035fbd31ae5cb909e7e44da7f44dfbecb942b6a8bdfeaf41af"), looks := true }, kinds := [], alts := [], laidByText := true, laidKinds := [.data, .data, .data, .sentinel, .sentinel, .listed, .data], laidTests := true, laidLooks := .later }
def LexRoundUptoCardSaid : Prop := Claim7.holds Tryz.pinned (.plain (OpenSpec.upto lexRoundSpec)) lexRoundUptoCard

/-- THE SECOND FORM's CARD OF 'stagehandlaw09.LexCompact'. -/
def lexCompactUptoCard : Claim7 := { stood := { row := lexCompactUptoRow, standIns := [], harness := (true, "206f3a23d69101035fbd31ae5cb909e7e44da7f44dfbecb942b6a8bdfeaf41af"), looks := true }, kinds := [], alts := [], laidByText := true, laidKinds := [.data, .data, .data, .sentinel, .sentinel, .listed, .data], laidTests := true, laidLooks := .later }
def LexCompactUptoCardSaid : Prop := Claim7.holds Tryz.pinned (.plain (OpenSpec.upto lexCompactSpec)) lexCompactUptoCard

/-- THE SECOND FORM's CARD OF 'stagehandlaw09.LexLines'. -/
def lexLinesUptoCard : Claim7 := { stood := { row := lexLinesUptoRow, standIns := [], harness := (true, "206f3a23d69101035fbd31ae5cb909e7e44da7f44dfbecb942b6a8bdfeaf41af"), looks := true }, kinds := [], alts := [], laidByText := true, laidKinds := [.data, .data, .data, .sentinel, .sentinel, .listed, .data], laidTests := true, laidLooks := .later }
def LexLinesUptoCardSaid : Prop := Claim7.holds Tryz.pinned (.plain (OpenSpec.upto lexLinesSpec)) lexLinesUptoCard
end Rows
end Go.Proofs.YtmcnhggpmlhgeaaGreatDoor
