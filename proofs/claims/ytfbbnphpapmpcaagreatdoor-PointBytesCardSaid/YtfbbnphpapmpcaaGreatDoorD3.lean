/-
  A fact of the translation that a row asks for (great, so in a text of its own): how it was made.
-/
import Derived.Test.YtfbbnphpapmpcaaGreatDoorRows
import Derived.ProofKit
namespace Go.Proofs.YtfbbnphpapmpcaaGreatDoor
set_option maxRecDepth 100000 in
theorem made_so : ((Rows.pointOrderRow.lifted == Tryz.prog.liftsFinal) && (Tryz.prog.make == some Rows.pointOrderRow.make)) = true := by kernel_rfl
end Go.Proofs.YtfbbnphpapmpcaaGreatDoor
