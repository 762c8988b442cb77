/-
  DERIVED. GIVEN WITH THE SEED: THE CARDS: each row of YtmlpibdincfgbaaDoorRows.lean that lists a variable, with what it lists TIED to the program's text (the seventh form; the later family's looks); each row that meets fmt, with fmt's text TOLD by the authors' own Lean function (tested against real Go, not proved from fmt's source: count such statements apart). THE CARD IS WHAT COUNTS. Prove the row's statement (the work); the ties are given (YtmlpibdincfgbaaDoorTie.lean); close each card by the builder's one call (the guide's Derived/Test/ToyasCard.lean, 'card_holds'). Laid BY PROGRAM, IN A SANDBOX (cutbox-door.mjs). By AI agents, Wed Nov 11 2026. No macro, syntax, notation, axiom, sorry.
-/
import Derived.Test.YtmlpibdincfgbaaDoorRows
import GoSem.ClaimSeven
namespace Go.Proofs.YtmlpibdincfgbaaDoor
namespace Rows

/-- THE TIED CARD OF 'meresmanlaw38.QueryLimits'. -/
def queryLimitsCard : Claim7 := { stood := { row := queryLimitsRow, standIns := [], harness := (true, "4e05824628fa799fc589704c9692f3044017be9e7f910a1c55daacd6c7f361c0"), looks := true }, kinds := [], alts := [], laidByText := true, laidKinds := [.data, .data, .data, .sentinel, .sentinel], laidTests := true, laidLooks := .later }
def QueryLimitsCardSaid : Prop := Claim7.holds Tryd.pinned (.plain (OpenSpec.ofChange queryLimitsSpec)) queryLimitsCard

/-- THE TIED CARD OF 'meresmanlaw38.QuerySpaces'. -/
def querySpacesCard : Claim7 := { stood := { row := querySpacesRow, standIns := [], harness := (true, "4e05824628fa799fc589704c9692f3044017be9e7f910a1c55daacd6c7f361c0"), looks := true }, kinds := [], alts := [], laidByText := true, laidKinds := [.data, .data, .data, .sentinel, .sentinel], laidTests := true, laidLooks := .later }
def QuerySpacesCardSaid : Prop := Claim7.holds Tryd.pinned (.plain (OpenSpec.ofChange querySpacesSpec)) querySpacesCard

/-- THE TIED CARD OF 'meresmanlaw38.QueryOffsets'. -/
def queryOffsetsCard : Claim7 := { stood := { row := queryOffsetsRow, standIns := [], harness := (true, "4e05824628fa799fc589704c9692f3044017be9e7f910a1c55daacd6c7f361c0"), looks := true }, kinds := [], alts := [], laidByText := true, laidKinds := [.data, .data, .data, .sentinel, .sentinel], laidTests := true, laidLooks := .later }
def QueryOffsetsCardSaid : Prop := Claim7.holds Tryd.pinned (.plain (OpenSpec.ofChange queryOffsetsSpec)) queryOffsetsCard

/-- THE TIED CARD OF 'meresmanlaw38.QuerySimple'. -/
def querySimpleCard : Claim7 := { stood := { row := querySimpleRow, standIns := [], harness := (true, "4e05824628fa799fc589704c9692f3044017be9e7f910a1c55daacd6c7f361c0"), looks := true }, kinds := [], alts := [], laidByText := true, laidKinds := [.data, .data, .data, .sentinel, .sentinel], laidTests := true, laidLooks := .later }
def QuerySimpleCardSaid : Prop := Claim7.holds Tryd.pinned (.plain (OpenSpec.ofChange querySimpleSpec)) querySimpleCard

/-- THE SECOND FORM's CARD OF 'meresmanlaw38.QueryLimits'. -/
def queryLimitsUptoCard : Claim7 := { stood := { row := queryLimitsUptoRow, standIns := [], harness := (true, "4e05824628fa799fc589704c9692f3044017be9e7f910a1c55daacd6c7f361c0"), looks := true }, kinds := [], alts := [], laidByText := true, laidKinds := [.data, .data, .data, .sentinel, .sentinel], laidTests := true, laidLooks := .later }
def QueryLimitsUptoCardSaid : Prop := Claim7.holds Tryd.pinned (.plain (OpenSpec.upto queryLimitsSpec)) queryLimitsUptoCard

/-- THE SECOND FORM's CARD OF 'meresmanlaw38.QuerySpaces'. -/
def querySpacesUptoCard : Claim7 := { stood := { row := querySpacesUptoRow, standIns := [], harness := (true, "4e05824628fa799fc589704c9692f3044017be9e7f910a1c55daacd6c7f361c0"), looks := true }, kinds := [], alts := [], laidByText := true, laidKinds := [.data, .data, .data, .sentinel, .sentinel], laidTests := true, laidLooks := .later }
def QuerySpacesUptoCardSaid : Prop := Claim7.holds Tryd.pinned (.plain (OpenSpec.upto querySpacesSpec)) querySpacesUptoCard

/-- THE SECOND FORM's CARD OF 'meresmanlaw38.QueryOffsets'. -/
def queryOffsetsUptoCard : Claim7 := { stood := { row := queryOffsetsUptoRow, standIns := [], harness := (true, "4e05824628fa799fc589704c9692f3044017be9e7f910a1c55daacd6c7f361c0"), looks := true }, kinds := [], alts := [], laidByText := true, laidKinds := [.data, .data, .data, .sentinel, .sentinel], laidTests := true, laidLooks := .later }
def QueryOffsetsUptoCardSaid : Prop := Claim7.holds Tryd.pinned (.plain (OpenSpec.upto queryOffsetsSpec)) queryOffsetsUptoCard

/-- THE SECOND FORM's CARD OF 'meresmanlaw38.QuerySimple'. -/
def querySimpleUptoCard : Claim7 := { stood := { row := querySimpleUptoRow, standIns := [], harness := (true, "4e05824628fa799fc589704c9692f3044017be9e7f910a1c55daacd6c7f361c0"), looks := true }, kinds := [], alts := [], laidByText := true, laidKinds := [.data, .data, .data, .sentinel, .sentinel], laidTests := true, laidLooks := .later }
def QuerySimpleUptoCardSaid : Prop := Claim7.holds Tryd.pinned (.plain (OpenSpec.upto querySimpleSpec)) querySimpleUptoCard
end Rows
end Go.Proofs.YtmlpibdincfgbaaDoor
