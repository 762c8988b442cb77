/-
  DERIVED. GIVEN WITH THE SEED: THE CARDS: each row of YthcpaagfgkbjaaaDoorRows.lean that lists a variable, with what it lists TIED to the program's text (the seventh form; the later family's looks); each row that meets fmt, with fmt's text TOLD by the authors' own Lean function (tested against real Go, not proved from fmt's source: count such statements apart). THE CARD IS WHAT COUNTS. Prove the row's statement (the work); the ties are given (YthcpaagfgkbjaaaDoorTie.lean); close each card by the builder's one call (the guide's Derived/Test/ToyasCard.lean, 'card_holds'). Laid BY PROGRAM, IN A SANDBOX (cutbox-door.mjs). By AI agents, Wed Nov 11 2026. No macro, syntax, notation, axiom, sorry.
-/
import Derived.Test.YthcpaagfgkbjaaaDoorRows
import GoSem.ClaimSeven
namespace Go.Proofs.YthcpaagfgkbjaaaDoor
namespace Rows

/-- THE TIED CARD OF 'meresmanlaw05.PointMid'. -/
def pointMidCard : Claim7 := { stood := { row := pointMidRow, standIns := [], harness := (true, "2ab4704c913cd9f38e17d24a6bd6c1693cd5afe80ff22c124e6cad630a65a3e1"), looks := false }, kinds := [], alts := [], laidByText := true, laidKinds := [.data, .data, .data], laidTests := true, laidLooks := .later }
def PointMidCardSaid : Prop := Claim7.holds Tryd.pinned (.plain (OpenSpec.ofChange pointMidSpec)) pointMidCard

/-- THE TIED CARD OF 'meresmanlaw05.PointScaled'. -/
def pointScaledCard : Claim7 := { stood := { row := pointScaledRow, standIns := [], harness := (true, "2ab4704c913cd9f38e17d24a6bd6c1693cd5afe80ff22c124e6cad630a65a3e1"), looks := false }, kinds := [], alts := [], laidByText := true, laidKinds := [.data, .data, .data], laidTests := true, laidLooks := .later }
def PointScaledCardSaid : Prop := Claim7.holds Tryd.pinned (.plain (OpenSpec.ofChange pointScaledSpec)) pointScaledCard

/-- THE TIED CARD OF 'meresmanlaw05.PointBoxes'. -/
def pointBoxesCard : Claim7 := { stood := { row := pointBoxesRow, standIns := [], harness := (true, "2ab4704c913cd9f38e17d24a6bd6c1693cd5afe80ff22c124e6cad630a65a3e1"), looks := false }, kinds := [], alts := [], laidByText := true, laidKinds := [.data, .data, .data], laidTests := true, laidLooks := .later }
def PointBoxesCardSaid : Prop := Claim7.holds Tryd.pinned (.plain (OpenSpec.ofChange pointBoxesSpec)) pointBoxesCard

/-- THE TIED CARD OF 'meresmanlaw05.PointRound'. -/
def pointRoundCard : Claim7 := { stood := { row := pointRoundRow, standIns := [], harness := (true, "2ab4704c913cd9f38e17d24a6bd6c1693cd5afe80ff22c124e6cad630a65a3e1"), looks := false }, kinds := [], alts := [], laidByText := true, laidKinds := [.data, .data, .data], laidTests := true, laidLooks := .later }
def PointRoundCardSaid : Prop := Claim7.holds Tryd.pinned (.plain (OpenSpec.ofChange pointRoundSpec)) pointRoundCard

/-- THE TIED CARD OF 'meresmanlaw05.PointValid'. -/
def pointValidCard : Claim7 := { stood := { row := pointValidRow, standIns := [], harness := (true, "2ab4704c913cd9f38e17d24a6bd6c1693cd5afe80ff22c124e6cad630a65a3e1"), looks := false }, kinds := [], alts := [], laidByText := true, laidKinds := [.data, .data, .data], laidTests := true, laidLooks := .later }
def PointValidCardSaid : Prop := Claim7.holds Tryd.pinned (.plain (OpenSpec.ofChange pointValidSpec)) pointValidCard

/-- THE SECOND FORM's CARD OF 'meresmanlaw05.PointMid'. -/
def pointMidUptoCard : Claim7 := { stood := { row := pointMidUptoRow, standIns := [], harness := (true, "2ab4704c913cd9f38e17d24a6bd6c1693cd5afe80ff22c124e6cad630a65a3e1"), looks := false }, kinds := [], alts := [], laidByText := true, laidKinds := [.data, .data, .data], laidTests := true, laidLooks := .later }
def PointMidUptoCardSaid : Prop := Claim7.holds Tryd.pinned (.plain (OpenSpec.upto pointMidSpec)) pointMidUptoCard

/-- THE SECOND FORM's CARD OF 'meresmanlaw05.PointScaled'. -/
def pointScaledUptoCard : Claim7 := { stood := { row := pointScaledUptoRow, standIns := [], harness := (true, "2ab4704c913cd9f38e17d24a6bd6c1693cd5afe80ff22c124e6cad630a65a3e1"), looks := false }, kinds := [], alts := [], laidByText := true, laidKinds := [.data, .data, .data], laidTests := true, laidLooks := .later }
def PointScaledUptoCardSaid : Prop := Claim7.holds Tryd.pinned (.plain (OpenSpec.upto pointScaledSpec)) pointScaledUptoCard

/-- THE SECOND FORM's CARD OF 'meresmanlaw05.PointBoxes'. -/
def pointBoxesUptoCard : Claim7 := { stood := { row := pointBoxesUptoRow, standIns := [], harness := (true, "2ab4704c913cd9f38e17d24a6bd6c1693cd5afe80ff22c124e6cad630a65a3e1"), looks := false }, kinds := [], alts := [], laidByText := true, laidKinds := [.data, .data, .data], laidTests := true, laidLooks := .later }
def PointBoxesUptoCardSaid : Prop := Claim7.holds Tryd.pinned (.plain (OpenSpec.upto pointBoxesSpec)) pointBoxesUptoCard

/-- THE SECOND FORM's CARD OF 'meresmanlaw05.PointRound'. -/
def pointRoundUptoCard : Claim7 := { stood := { row := pointRoundUptoRow, standIns := [], harness := (true, "2ab4704c913cd9f38e17d24a6bd6c1693cd5afe80ff22c124e6cad630a65a3e1"), looks := false }, kinds := [], alts := [], laidByText := true, laidKinds := [.data, .data, .data], laidTests := true, laidLooks := .later }
def PointRoundUptoCardSaid : Prop := Claim7.holds Tryd.pinned (.plain (OpenSpec.upto pointRoundSpec)) pointRoundUptoCard

/-- THE SECOND FORM's CARD OF 'meresmanlaw05.PointValid'. -/
def pointValidUptoCard : Claim7 := { stood := { row := pointValidUptoRow, standIns := [], harness := (true, "2ab4704c913cd9f38e17d24a6bd6c1693cd5afe80ff22c124e6cad630a65a3e1"), looks := false }, kinds := [], alts := [], laidByText := true, laidKinds := [.data, .data, .data], laidTests := true, laidLooks := .later }
def PointValidUptoCardSaid : Prop := Claim7.holds Tryd.pinned (.plain (OpenSpec.upto pointValidSpec)) pointValidUptoCard
end Rows
end Go.Proofs.YthcpaagfgkbjaaaDoor
