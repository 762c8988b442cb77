/-
  DERIVED. GIVEN WITH THE SEED: THE CARDS: each row of YthafhbogpfggjaaGreatDoorRows.lean that lists a variable, with what it lists TIED to the program's text (the seventh form; the later family's looks); each row that meets fmt, with fmt's text TOLD by the authors' own Lean function (tested against real Go, not proved from fmt's source: count such statements apart). THE CARD IS WHAT COUNTS. Prove the row's statement (the work); the ties are given (YthafhbogpfggjaaGreatDoorTie.lean); close each card by the builder's one call (the guide's Derived/Test/ToyasCard.lean, 'card_holds'). Laid BY PROGRAM, IN A SANDBOX (cutbox-door.mjs). By AI agents, Wed Nov 11 2026. No macro, syntax, notation, axiom, sorry.
-/
import Derived.Test.YthafhbogpfggjaaGreatDoorRows
import GoSem.ClaimSeven
namespace Go.Proofs.YthafhbogpfggjaaGreatDoor
namespace Rows

/-- THE TIED CARD OF 'meresmanlaw05.PointOrder'. -/
def pointOrderCard : Claim7 := { stood := { row := pointOrderRow, standIns := [], harness := (true, "8d5687d8eeaccb7576a58573f48bc5c1841f0e050c2e11d29fbf85a9125d07b9"), looks := true }, kinds := [], alts := [], laidByText := true, laidKinds := [.data, .data, .data], laidTests := true, laidLooks := .later }
def PointOrderCardSaid : Prop := Claim7.holds Tryz.pinned (.plain (OpenSpec.ofChange pointOrderSpec)) pointOrderCard

/-- THE TIED CARD OF 'meresmanlaw03.WideTexts'. -/
def wideTextsCard : Claim7 := { stood := { row := wideTextsRow, standIns := [], harness := (true, "8d5687d8eeaccb7576a58573f48bc5c1841f0e050c2e11d29fbf85a9125d07b9"), looks := true }, kinds := [], alts := [], laidByText := true, laidKinds := [.data, .data, .data, .data, .sentinel, .sentinel, .pinned], laidTests := true, laidLooks := .later }
def WideTextsCardSaid : Prop := Claim7.holds Tryz.pinned (.plain (OpenSpec.ofChange wideTextsSpec)) wideTextsCard

/-- THE TIED CARD OF 'meresmanlaw03.WideFrom'. -/
def wideFromCard : Claim7 := { stood := { row := wideFromRow, standIns := [], harness := (true, "8d5687d8eeaccb7576a58573f48bc5c1841f0e050c2e11d29fbf85a9125d07b9"), looks := true }, kinds := [], alts := [], laidByText := true, laidKinds := [.data, .data, .data, .data, .sentinel, .sentinel, .pinned], laidTests := true, laidLooks := .later }
def WideFromCardSaid : Prop := Claim7.holds Tryz.pinned (.plain (OpenSpec.ofChange wideFromSpec)) wideFromCard

/-- THE TIED CARD OF 'meresmanlaw03.WideProducts'. -/
def wideProductsCard : Claim7 := { stood := { row := wideProductsRow, standIns := [], harness := (true, "8d5687d8eeaccb7576a58573f48bc5c1841f0e050c2e11d29fbf85a9125d07b9"), looks := true }, kinds := [], alts := [], laidByText := true, laidKinds := [.data, .data, .data, .data, .sentinel, .sentinel, .pinned], laidTests := true, laidLooks := .later }
def WideProductsCardSaid : Prop := Claim7.holds Tryz.pinned (.plain (OpenSpec.ofChange wideProductsSpec)) wideProductsCard

/-- THE TIED CARD OF 'meresmanlaw03.WideQuotients'. -/
def wideQuotientsCard : Claim7 := { stood := { row := wideQuotientsRow, standIns := [], harness := (true, "8d5687d8eeaccb7576a58573f48bc5c1841f0e050c2e11d29fbf85a9125d07b9"), looks := true }, kinds := [], alts := [], laidByText := true, laidKinds := [.data, .data, .data, .data, .sentinel, .sentinel, .pinned], laidTests := true, laidLooks := .later }
def WideQuotientsCardSaid : Prop := Claim7.holds Tryz.pinned (.plain (OpenSpec.ofChange wideQuotientsSpec)) wideQuotientsCard

/-- THE TIED CARD OF 'meresmanlaw03.WideSums'. -/
def wideSumsCard : Claim7 := { stood := { row := wideSumsRow, standIns := [], harness := (true, "8d5687d8eeaccb7576a58573f48bc5c1841f0e050c2e11d29fbf85a9125d07b9"), looks := true }, kinds := [], alts := [], laidByText := true, laidKinds := [.data, .data, .data, .data, .sentinel, .sentinel, .pinned], laidTests := true, laidLooks := .later }
def WideSumsCardSaid : Prop := Claim7.holds Tryz.pinned (.plain (OpenSpec.ofChange wideSumsSpec)) wideSumsCard

/-- THE TIED CARD OF 'meresmanlaw03.WideOrder'. -/
def wideOrderCard : Claim7 := { stood := { row := wideOrderRow, standIns := [], harness := (true, "8d5687d8eeaccb7576a58573f48bc5c1841f0e050c2e11d29fbf85a9125d07b9"), looks := true }, kinds := [], alts := [], laidByText := true, laidKinds := [.data, .data, .data, .data, .sentinel, .sentinel, .pinned], laidTests := true, laidLooks := .later }
def WideOrderCardSaid : Prop := Claim7.holds Tryz.pinned (.plain (OpenSpec.ofChange wideOrderSpec)) wideOrderCard

/-- THE TIED CARD OF 'meresmanlaw03.WideDivisors'. -/
def wideDivisorsCard : Claim7 := { stood := { row := wideDivisorsRow, standIns := [], harness := (true, "8d5687d8eeaccb7576a58573f48bc5c1841f0e050c2e11d29fbf85a9125d07b9"), looks := true }, kinds := [], alts := [], laidByText := true, laidKinds := [.data, .data, .data, .data, .sentinel, .sentinel, .pinned], laidTests := true, laidLooks := .later }
def WideDivisorsCardSaid : Prop := Claim7.holds Tryz.pinned (.plain (OpenSpec.ofChange wideDivisorsSpec)) wideDivisorsCard

/-- THE TIED CARD OF 'meresmanlaw03.WideRing'. -/
def wideRingCard : Claim7 := { stood := { row := wideRingRow, standIns := [], harness := (true, "8d5687d8eeaccb7576a58573f48bc5c1841f0e050c2e11d29fbf85a9125d07b9"), looks := true }, kinds := [], alts := [], laidByText := true, laidKinds := [.data, .data, .data, .data, .sentinel, .sentinel, .pinned], laidTests := true, laidLooks := .later }
def WideRingCardSaid : Prop := Claim7.holds Tryz.pinned (.plain (OpenSpec.ofChange wideRingSpec)) wideRingCard

/-- THE TIED CARD OF 'meresmanlaw03.WideLimits'. -/
def wideLimitsCard : Claim7 := { stood := { row := wideLimitsRow, standIns := [], harness := (true, "8d5687d8eeaccb7576a58573f48bc5c1841f0e050c2e11d29fbf85a9125d07b9"), looks := true }, kinds := [], alts := [], laidByText := true, laidKinds := [.data, .data, .data, .data, .sentinel, .sentinel, .pinned], laidTests := true, laidLooks := .later }
def WideLimitsCardSaid : Prop := Claim7.holds Tryz.pinned (.plain (OpenSpec.ofChange wideLimitsSpec)) wideLimitsCard

/-- THE TIED CARD OF 'meresmanlaw04.FracMakes'. -/
def fracMakesCard : Claim7 := { stood := { row := fracMakesRow, standIns := [], harness := (true, "8d5687d8eeaccb7576a58573f48bc5c1841f0e050c2e11d29fbf85a9125d07b9"), looks := true }, kinds := [], alts := [], laidByText := true, laidKinds := [.data, .data, .data, .data, .sentinel, .sentinel, .pinned], laidTests := true, laidLooks := .later }
def FracMakesCardSaid : Prop := Claim7.holds Tryz.pinned (.plain (OpenSpec.ofChange fracMakesSpec)) fracMakesCard

/-- THE TIED CARD OF 'meresmanlaw04.FracSums'. -/
def fracSumsCard : Claim7 := { stood := { row := fracSumsRow, standIns := [], harness := (true, "8d5687d8eeaccb7576a58573f48bc5c1841f0e050c2e11d29fbf85a9125d07b9"), looks := true }, kinds := [], alts := [], laidByText := true, laidKinds := [.data, .data, .data, .data, .sentinel, .sentinel, .pinned], laidTests := true, laidLooks := .later }
def FracSumsCardSaid : Prop := Claim7.holds Tryz.pinned (.plain (OpenSpec.ofChange fracSumsSpec)) fracSumsCard

/-- THE TIED CARD OF 'meresmanlaw04.FracBounds'. -/
def fracBoundsCard : Claim7 := { stood := { row := fracBoundsRow, standIns := [], harness := (true, "8d5687d8eeaccb7576a58573f48bc5c1841f0e050c2e11d29fbf85a9125d07b9"), looks := true }, kinds := [], alts := [], laidByText := true, laidKinds := [.data, .data, .data, .data, .sentinel, .sentinel, .pinned], laidTests := true, laidLooks := .later }
def FracBoundsCardSaid : Prop := Claim7.holds Tryz.pinned (.plain (OpenSpec.ofChange fracBoundsSpec)) fracBoundsCard

/-- THE TIED CARD OF 'meresmanlaw04.FracField'. -/
def fracFieldCard : Claim7 := { stood := { row := fracFieldRow, standIns := [], harness := (true, "8d5687d8eeaccb7576a58573f48bc5c1841f0e050c2e11d29fbf85a9125d07b9"), looks := true }, kinds := [], alts := [], laidByText := true, laidKinds := [.data, .data, .data, .data, .sentinel, .sentinel, .pinned], laidTests := true, laidLooks := .later }
def FracFieldCardSaid : Prop := Claim7.holds Tryz.pinned (.plain (OpenSpec.ofChange fracFieldSpec)) fracFieldCard

/-- THE TIED CARD OF 'meresmanlaw04.FracTexts'. -/
def fracTextsCard : Claim7 := { stood := { row := fracTextsRow, standIns := [], harness := (true, "8d5687d8eeaccb7576a58573f48bc5c1841f0e050c2e11d29fbf85a9125d07b9"), looks := true }, kinds := [], alts := [], laidByText := true, laidKinds := [.data, .data, .data, .data, .sentinel, .sentinel, .pinned], laidTests := true, laidLooks := .later }
def FracTextsCardSaid : Prop := Claim7.holds Tryz.pinned (.plain (OpenSpec.ofChange fracTextsSpec)) fracTextsCard

/-- THE TIED CARD OF 'meresmanlaw04.FracOrder'. -/
def fracOrderCard : Claim7 := { stood := { row := fracOrderRow, standIns := [], harness := (true, "8d5687d8eeaccb7576a58573f48bc5c1841f0e050c2e11d29fbf85a9125d07b9"), looks := true }, kinds := [], alts := [], laidByText := true, laidKinds := [.data, .data, .data, .data, .sentinel, .sentinel, .pinned], laidTests := true, laidLooks := .later }
def FracOrderCardSaid : Prop := Claim7.holds Tryz.pinned (.plain (OpenSpec.ofChange fracOrderSpec)) fracOrderCard

/-- THE TIED CARD OF 'meresmanlaw04.FracWritten'. -/
def fracWrittenCard : Claim7 := { stood := { row := fracWrittenRow, standIns := [], harness := (true, "8d5687d8eeaccb7576a58573f48bc5c1841f0e050c2e11d29fbf85a9125d07b9"), looks := true }, kinds := [], alts := [], laidByText := true, laidKinds := [.data, .data, .data, .data, .sentinel, .sentinel, .pinned], laidTests := true, laidLooks := .later }
def FracWrittenCardSaid : Prop := Claim7.holds Tryz.pinned (.plain (OpenSpec.ofChange fracWrittenSpec)) fracWrittenCard

/-- THE TIED CARD OF 'meresmanlaw05.PointBytes'. -/
def pointBytesCard : Claim7 := { stood := { row := pointBytesRow, standIns := [], harness := (true, "8d5687d8eeaccb7576a58573f48bc5c1841f0e050c2e11d29fbf85a9125d07b9"), looks := true }, kinds := [], alts := [], laidByText := true, laidKinds := [.data, .data, .data, .data, .sentinel, .sentinel, .pinned], laidTests := true, laidLooks := .later }
def PointBytesCardSaid : Prop := Claim7.holds Tryz.pinned (.plain (OpenSpec.ofChange pointBytesSpec)) pointBytesCard

/-- THE SECOND FORM's CARD OF 'meresmanlaw05.PointOrder'. -/
def pointOrderUptoCard : Claim7 := { stood := { row := pointOrderUptoRow, standIns := [], harness := (true, "8d5687d8eeaccb7576a58573f48bc5c1841f0e050c2e11d29fbf85a9125d07b9"), looks := true }, kinds := [], alts := [], laidByText := true, laidKinds := [.data, .data, .data], laidTests := true, laidLooks := .later }
def PointOrderUptoCardSaid : Prop := Claim7.holds Tryz.pinned (.plain (OpenSpec.upto pointOrderSpec)) pointOrderUptoCard

/-- THE SECOND FORM's CARD OF 'meresmanlaw03.WideTexts'. -/
def wideTextsUptoCard : Claim7 := { stood := { row := wideTextsUptoRow, standIns := [], harness := (true, "8d5687d8eeaccb7576a58573f48bc5c1841f0e050c2e11d29fbf85a9125d07b9"), looks := true }, kinds := [], alts := [], laidByText := true, laidKinds := [.data, .data, .data, .data, .sentinel, .sentinel, .pinned], laidTests := true, laidLooks := .later }
def WideTextsUptoCardSaid : Prop := Claim7.holds Tryz.pinned (.plain (OpenSpec.upto wideTextsSpec)) wideTextsUptoCard

/-- THE SECOND FORM's CARD OF 'meresmanlaw03.WideFrom'. -/
def wideFromUptoCard : Claim7 := { stood := { row := wideFromUptoRow, standIns := [], harness := (true, "8d5687d8eeaccb7576a58573f48bc5c1841f0e050c2e11d29fbf85a9125d07b9"), looks := true }, kinds := [], alts := [], laidByText := true, laidKinds := [.data, .data, .data, .data, .sentinel, .sentinel, .pinned], laidTests := true, laidLooks := .later }
def WideFromUptoCardSaid : Prop := Claim7.holds Tryz.pinned (.plain (OpenSpec.upto wideFromSpec)) wideFromUptoCard

/-- THE SECOND FORM's CARD OF 'meresmanlaw03.WideProducts'. -/
def wideProductsUptoCard : Claim7 := { stood := { row := wideProductsUptoRow, standIns := [], harness := (true, "8d5687d8eeaccb7576a58573f48bc5c1841f0e050c2e11d29fbf85a9125d07b9"), looks := true }, kinds := [], alts := [], laidByText := true, laidKinds := [.data, .data, .data, .data, .sentinel, .sentinel, .pinned], laidTests := true, laidLooks := .later }
def WideProductsUptoCardSaid : Prop := Claim7.holds Tryz.pinned (.plain (OpenSpec.upto wideProductsSpec)) wideProductsUptoCard

/-- THE SECOND FORM's CARD OF 'meresmanlaw03.WideQuotients'. -/
def wideQuotientsUptoCard : Claim7 := { stood := { row := wideQuotientsUptoRow, standIns := [], harness := (true, "8d5687d8eeaccb7576a58573f48bc5c1841f0e050c2e11d29fbf85a9125d07b9"), looks := true }, kinds := [], alts := [], laidByText := true, laidKinds := [.data, .data, .data, .data, .sentinel, .sentinel, .pinned], laidTests := true, laidLooks := .later }
def WideQuotientsUptoCardSaid : Prop := Claim7.holds Tryz.pinned (.plain (OpenSpec.upto wideQuotientsSpec)) wideQuotientsUptoCard

/-- THE SECOND FORM's CARD OF 'meresmanlaw03.WideSums'. -/
def wideSumsUptoCard : Claim7 := { stood := { row := wideSumsUptoRow, standIns := [], harness := (true, "8d5687d8eeaccb7576a58573f48bc5c1841f0e050c2e11d29fbf85a9125d07b9"), looks := true }, kinds := [], alts := [], laidByText := true, laidKinds := [.data, .data, .data, .data, .sentinel, .sentinel, .pinned], laidTests := true, laidLooks := .later }
def WideSumsUptoCardSaid : Prop := Claim7.holds Tryz.pinned (.plain (OpenSpec.upto wideSumsSpec)) wideSumsUptoCard

/-- THE SECOND FORM's CARD OF 'meresmanlaw03.WideOrder'. -/
def wideOrderUptoCard : Claim7 := { stood := { row := wideOrderUptoRow, standIns := [], harness := (true, "8d5687d8eeaccb7576a58573f48bc5c1841f0e050c2e11d29fbf85a9125d07b9"), looks := true }, kinds := [], alts := [], laidByText := true, laidKinds := [.data, .data, .data, .data, .sentinel, .sentinel, .pinned], laidTests := true, laidLooks := .later }
def WideOrderUptoCardSaid : Prop := Claim7.holds Tryz.pinned (.plain (OpenSpec.upto wideOrderSpec)) wideOrderUptoCard

/-- THE SECOND FORM's CARD OF 'meresmanlaw03.WideDivisors'. -/
def wideDivisorsUptoCard : Claim7 := { stood := { row := wideDivisorsUptoRow, standIns := [], harness := (true, "8d5687d8eeaccb7576a58573f48bc5c1841f0e050c2e11d29fbf85a9125d07b9"), looks := true }, kinds := [], alts := [], laidByText := true, laidKinds := [.data, .data, .data, .data, .sentinel, .sentinel, .pinned], laidTests := true, laidLooks := .later }
def WideDivisorsUptoCardSaid : Prop := Claim7.holds Tryz.pinned (.plain (OpenSpec.upto wideDivisorsSpec)) wideDivisorsUptoCard

/-- THE SECOND FORM's CARD OF 'meresmanlaw03.WideRing'. -/
def wideRingUptoCard : Claim7 := { stood := { row := wideRingUptoRow, standIns := [], harness := (true, "8d5687d8eeaccb7576a58573f48bc5c1841f0e050c2e11d29fbf85a9125d07b9"), looks := true }, kinds := [], alts := [], laidByText := true, laidKinds := [.data, .data, .data, .data, .sentinel, .sentinel, .pinned], laidTests := true, laidLooks := .later }
def WideRingUptoCardSaid : Prop := Claim7.holds Tryz.pinned (.plain (OpenSpec.upto wideRingSpec)) wideRingUptoCard

/-- THE SECOND FORM's CARD OF 'meresmanlaw03.WideLimits'. -/
def wideLimitsUptoCard : Claim7 := { stood := { row := wideLimitsUptoRow, standIns := [], harness := (true, "8d5687d8eeaccb7576a58573f48bc5c1841f0e050c2e11d29fbf85a9125d07b9"), looks := true }, kinds := [], alts := [], laidByText := true, laidKinds := [.data, .data, .data, .data, .sentinel, .sentinel, .pinned], laidTests := true, laidLooks := .later }
def WideLimitsUptoCardSaid : Prop := Claim7.holds Tryz.pinned (.plain (OpenSpec.upto wideLimitsSpec)) wideLimitsUptoCard

/-- THE SECOND FORM's CARD OF 'meresmanlaw04.FracMakes'. -/
def fracMakesUptoCard : Claim7 := { stood := { row := fracMakesUptoRow, standIns := [], harness := (true, "8d5687d8eeaccb7576a58573f48bc5c1841f0e050c2e11d29fbf85a9125d07b9"), looks := true }, kinds := [], alts := [], laidByText := true, laidKinds := [.data, .data, .data, .data, .sentinel, .sentinel, .pinned], laidTests := true, laidLooks := .later }
def FracMakesUptoCardSaid : Prop := Claim7.holds Tryz.pinned (.plain (OpenSpec.upto fracMakesSpec)) fracMakesUptoCard

/-- THE SECOND FORM's CARD OF 'meresmanlaw04.FracSums'. -/
def fracSumsUptoCard : Claim7 := { stood := { row := fracSumsUptoRow, standIns := [], harness := (true, "8d5687d8eeaccb7576a58573f48bc5c1841f0e050c2e11d29fbf85a9125d07b9"), looks := true }, kinds := [], alts := [], laidByText := true, laidKinds := [.data, .data, .data, .data, .sentinel, .sentinel, .pinned], laidTests := true, laidLooks := .later }
def FracSumsUptoCardSaid : Prop := Claim7.holds Tryz.pinned (.plain (OpenSpec.upto fracSumsSpec)) fracSumsUptoCard

/-- THE SECOND FORM's CARD OF 'meresmanlaw04.FracBounds'. -/
def fracBoundsUptoCard : Claim7 := { stood := { row := fracBoundsUptoRow, standIns := [], harness := (true, "8d5687d8eeaccb7576a58573f48bc5c1841f0e050c2e11d29fbf85a9125d07b9"), looks := true }, kinds := [], alts := [], laidByText := true, laidKinds := [.data, .data, .data, .data, .sentinel, .sentinel, .pinned], laidTests := true, laidLooks := .later }
def FracBoundsUptoCardSaid : Prop := Claim7.holds Tryz.pinned (.plain (OpenSpec.upto fracBoundsSpec)) fracBoundsUptoCard

/-- THE SECOND FORM's CARD OF 'meresmanlaw04.FracField'. -/
def fracFieldUptoCard : Claim7 := { stood := { row := fracFieldUptoRow, standIns := [], harness := (true, "8d5687d8eeaccb7576a58573f48bc5c1841f0e050c2e11d29fbf85a9125d07b9"), looks := true }, kinds := [], alts := [], laidByText := true, laidKinds := [.data, .data, .data, .data, .sentinel, .sentinel, .pinned], laidTests := true, laidLooks := .later }
def FracFieldUptoCardSaid : Prop := Claim7.holds Tryz.pinned (.plain (OpenSpec.upto fracFieldSpec)) fracFieldUptoCard

/-- THE SECOND FORM's CARD OF 'meresmanlaw04.FracTexts'. -/
def fracTextsUptoCard : Claim7 := { stood := { row := fracTextsUptoRow, standIns := [], harness := (true, "8d5687d8eeaccb7576a58573f48bc5c1841f0e050c2e11d29fbf85a9125d07b9"), looks := true }, kinds := [], alts := [], laidByText := true, laidKinds := [.data, .data, .data, .data, .sentinel, .sentinel, .pinned], laidTests := true, laidLooks := .later }
def FracTextsUptoCardSaid : Prop := Claim7.holds Tryz.pinned (.plain (OpenSpec.upto fracTextsSpec)) fracTextsUptoCard

/-- THE SECOND FORM's CARD OF 'meresmanlaw04.FracOrder'. -/
def fracOrderUptoCard : Claim7 := { stood := { row := fracOrderUptoRow, standIns := [], harness := (true, "8d5687d8eeaccb7576a58573f48bc5c1841f0e050c2e11d29fbf85a9125d07b9"), looks := true }, kinds := [], alts := [], laidByText := true, laidKinds := [.data, .data, .data, .data, .sentinel, .sentinel, .pinned], laidTests := true, laidLooks := .later }
def FracOrderUptoCardSaid : Prop := Claim7.holds Tryz.pinned (.plain (OpenSpec.upto fracOrderSpec)) fracOrderUptoCard

/-- THE SECOND FORM's CARD OF 'meresmanlaw04.FracWritten'. -/
def fracWrittenUptoCard : Claim7 := { stood := { row := fracWrittenUptoRow, standIns := [], harness := (true, "8d5687d8eeaccb7576a58573f48bc5c1841f0e050c2e11d29fbf85a9125d07b9"), looks := true }, kinds := [], alts := [], laidByText := true, laidKinds := [.data, .data, .data, .data, .sentinel, .sentinel, .pinned], laidTests := true, laidLooks := .later }
def FracWrittenUptoCardSaid : Prop := Claim7.holds Tryz.pinned (.plain (OpenSpec.upto fracWrittenSpec)) fracWrittenUptoCard

/-- THE SECOND FORM's CARD OF 'meresmanlaw05.PointBytes'. -/
def pointBytesUptoCard : Claim7 := { stood := { row := pointBytesUptoRow, standIns := [], harness := (true, "8d5687d8eeaccb7576a58573f48bc5c1841f0e050c2e11d29fbf85a9125d07b9"), looks := true }, kinds := [], alts := [], laidByText := true, laidKinds := [.data, .data, .data, .data, .sentinel, .sentinel, .pinned], laidTests := true, laidLooks := .later }
def PointBytesUptoCardSaid : Prop := Claim7.holds Tryz.pinned (.plain (OpenSpec.upto pointBytesSpec)) pointBytesUptoCard
end Rows
end Go.Proofs.YthafhbogpfggjaaGreatDoor
