/-
  DERIVED. GIVEN WITH THE SEED: THE CARDS: each row of YtmlpibdincfgbaaGreatDoorRows.lean that lists a variable, with what it lists TIED to the program's text (the seventh form; the later family's looks); each row that meets fmt, with fmt's text TOLD by the authors' own Lean function (tested against real Go, not proved from fmt's source: count such statements apart). THE CARD IS WHAT COUNTS. Prove the row's statement (the work); the ties are given (YtmlpibdincfgbaaGreatDoorTie.lean); close each card by the builder's one call (the guide's Derived/Test/ToyasCard.lean, 'card_holds'). Laid BY PROGRAM, IN A SANDBOX (cutbox-door.mjs). By AI agents, Wed Nov 11 2026. No macro, syntax, notation, axiom, sorry.
-/
import Derived.Test.YtmlpibdincfgbaaGreatDoorRows
import GoSem.ClaimSeven
namespace Go.Proofs.YtmlpibdincfgbaaGreatDoor
namespace Rows

/-- THE TIED CARD OF 'meresmanlaw38.QueryReads'. -/
def queryReadsCard : Claim7 := { stood := { row := queryReadsRow, standIns := [], harness := (true, "7a64d54be275f39ea3fd8fdd2e50124539d704af957ea50dc0986b1c36a8b512"), looks := true }, kinds := [], alts := [], laidByText := true, laidKinds := [.data, .data, .data, .sentinel, .sentinel], laidTests := true, laidLooks := .later }
def QueryReadsCardSaid : Prop := Claim7.holds Tryz.pinned (.plain (OpenSpec.ofChange queryReadsSpec)) queryReadsCard

/-- THE TIED CARD OF 'meresmanlaw38.QueryPrints'. -/
def queryPrintsCard : Claim7 := { stood := { row := queryPrintsRow, standIns := [], harness := (true, "7a64d54be275f39ea3fd8fdd2e50124539d704af957ea50dc0986b1c36a8b512"), looks := true }, kinds := [], alts := [], laidByText := true, laidKinds := [.data, .data, .data, .sentinel, .sentinel], laidTests := true, laidLooks := .later }
def QueryPrintsCardSaid : Prop := Claim7.holds Tryz.pinned (.plain (OpenSpec.ofChange queryPrintsSpec)) queryPrintsCard

/-- THE TIED CARD OF 'meresmanlaw38.QueryViews'. -/
def queryViewsCard : Claim7 := { stood := { row := queryViewsRow, standIns := [], harness := (true, "7a64d54be275f39ea3fd8fdd2e50124539d704af957ea50dc0986b1c36a8b512"), looks := true }, kinds := [], alts := [], laidByText := true, laidKinds := [.data, .data, .data, .sentinel, .sentinel], laidTests := true, laidLooks := .later }
def QueryViewsCardSaid : Prop := Claim7.holds Tryz.pinned (.plain (OpenSpec.ofChange queryViewsSpec)) queryViewsCard

/-- THE TIED CARD OF 'meresmanlaw38.QueryValid'. -/
def queryValidCard : Claim7 := { stood := { row := queryValidRow, standIns := [], harness := (true, "7a64d54be275f39ea3fd8fdd2e50124539d704af957ea50dc0986b1c36a8b512"), looks := true }, kinds := [], alts := [], laidByText := true, laidKinds := [.data, .data, .data, .sentinel, .sentinel], laidTests := true, laidLooks := .later }
def QueryValidCardSaid : Prop := Claim7.holds Tryz.pinned (.plain (OpenSpec.ofChange queryValidSpec)) queryValidCard

/-- THE SECOND FORM's CARD OF 'meresmanlaw38.QueryReads'. -/
def queryReadsUptoCard : Claim7 := { stood := { row := queryReadsUptoRow, standIns := [], harness := (true, "7a64d54be275f39ea3fd8fdd2e50124539d704af957ea50dc0986b1c36a8b512"), looks := true }, kinds := [], alts := [], laidByText := true, laidKinds := [.data, .data, .data, .sentinel, .sentinel], laidTests := true, laidLooks := .later }
def QueryReadsUptoCardSaid : Prop := Claim7.holds Tryz.pinned (.plain (OpenSpec.upto queryReadsSpec)) queryReadsUptoCard

/-- THE SECOND FORM's CARD OF 'meresmanlaw38.QueryPrints'. -/
def queryPrintsUptoCard : Claim7 := { stood := { row := queryPrintsUptoRow, standIns := [], harness := (true, "7a64d54be275f39ea3fd8fdd2e50124539d704af957ea50dc0986b1c36a8b512"), looks := true }, kinds := [], alts := [], laidByText := true, laidKinds := [.data, .data, .data, .sentinel, .sentinel], laidTests := true, laidLooks := .later }
def QueryPrintsUptoCardSaid : Prop := Claim7.holds Tryz.pinned (.plain (OpenSpec.upto queryPrintsSpec)) queryPrintsUptoCard

/-- THE SECOND FORM's CARD OF 'meresmanlaw38.QueryViews'. -/
def queryViewsUptoCard : Claim7 := { stood := { row := queryViewsUptoRow, standIns := [], harness := (true, "7a64d54be275f39ea3fd8fdd2e50124539d704af957ea50dc0986b1c36a8b512"), looks := true }, kinds := [], alts := [], laidByText := true, laidKinds := [.data, .data, .data, .sentinel, .sentinel], laidTests := true, laidLooks := .later }
def QueryViewsUptoCardSaid : Prop := Claim7.holds Tryz.pinned (.plain (OpenSpec.upto queryViewsSpec)) queryViewsUptoCard

/-- THE SECOND FORM's CARD OF 'meresmanlaw38.QueryValid'. -/
def queryValidUptoCard : Claim7 := { stood := { row := queryValidUptoRow, standIns := [], harness := (true, "7a64d54be275f39ea3fd8fdd2e50124539d704af957ea50dc0986b1c36a8b512"), looks := true }, kinds := [], alts := [], laidByText := true, laidKinds := [.data, .data, .data, .sentinel, .sentinel], laidTests := true, laidLooks := .later }
def QueryValidUptoCardSaid : Prop := Claim7.holds Tryz.pinned (.plain (OpenSpec.upto queryValidSpec)) queryValidUptoCard
end Rows
end Go.Proofs.YtmlpibdincfgbaaGreatDoor
