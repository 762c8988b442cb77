/-
  DERIVED. GIVEN WITH THE SEED: THE CARDS: each row of YtfbbnphpapmpcaaGreatDoorRows.lean that lists a variable, with what it lists TIED to the program's text (the seventh form; the later family's looks); each row that meets fmt, with fmt's text TOLD by the authors' own Lean function (tested against real Go, not proved from fmt's source: count such statements apart). THE CARD IS WHAT COUNTS. Prove the row's statement (the work); the ties are given (YtfbbnphpapmpcaaGreatDoorTie.lean); close each card by the builder's one call (the guide's Derived/Test/ToyasCard.lean, 'card_holds'). Laid BY PROGRAM, IN A SANDBOX (cutbox-door.mjs). By AI agents, Wed Nov 11 2026. No macro, syntax, notation, axiom, sorry.
-/
import Derived.Test.YtfbbnphpapmpcaaGreatDoorRows
import GoSem.ClaimSeven
namespace Go.Proofs.YtfbbnphpapmpcaaGreatDoor
namespace Rows

/-- THE TIED CARD OF 'meresmanlaw05.PointOrder'. -/
def pointOrderCard : Claim7 := { stood := { row := pointOrderRow, standIns := [], harness := (true, "ded8b7c97283110bbcec9efc25c2c76d77180977556988b654f9df4e0be3d681"), looks := true }, kinds := [], alts := [], laidByText := true, laidKinds := [.data, .data, .data], laidTests := true, laidLooks := .later }
def PointOrderCardSaid : Prop := Claim7.holds Tryz.pinned (.plain (OpenSpec.ofChange pointOrderSpec)) pointOrderCard

/-- THE TIED CARD OF 'meresmanlaw05.PointBytes'. -/
def pointBytesCard : Claim7 := { stood := { row := pointBytesRow, standIns := [], harness := (true, "ded8b7c97283110bbcec9efc25c2c76d77180977556988b654f9df4e0be3d681"), looks := true }, kinds := [], alts := [], laidByText := true, laidKinds := [.data, .data, .data, .data, .sentinel, .sentinel, .pinned], laidTests := true, laidLooks := .later }
def PointBytesCardSaid : Prop := Claim7.holds Tryz.pinned (.plain (OpenSpec.ofChange pointBytesSpec)) pointBytesCard

/-- THE SECOND FORM's CARD OF 'meresmanlaw05.PointOrder'. -/
def pointOrderUptoCard : Claim7 := { stood := { row := pointOrderUptoRow, standIns := [], harness := (true, "ded8b7c97283110bbcec9efc25c2c76d77180977556988b654f9df4e0be3d681"), looks := true }, kinds := [], alts := [], laidByText := true, laidKinds := [.data, .data, .data], laidTests := true, laidLooks := .later }
def PointOrderUptoCardSaid : Prop := Claim7.holds Tryz.pinned (.plain (OpenSpec.upto pointOrderSpec)) pointOrderUptoCard

/-- THE SECOND FORM's CARD OF 'meresmanlaw05.PointBytes'. -/
def pointBytesUptoCard : Claim7 := { stood := { row := pointBytesUptoRow, standIns := [], harness := (true, "ded8b7c97283110bbcec9efc25c2c76d77180977556988b654f9df4e0be3d681"), looks := true }, kinds := [], alts := [], laidByText := true, laidKinds := [.data, .data, .data, .data, .sentinel, .sentinel, .pinned], laidTests := true, laidLooks := .later }
def PointBytesUptoCardSaid : Prop := Claim7.holds Tryz.pinned (.plain (OpenSpec.upto pointBytesSpec)) pointBytesUptoCard
end Rows
end Go.Proofs.YtfbbnphpapmpcaaGreatDoor
