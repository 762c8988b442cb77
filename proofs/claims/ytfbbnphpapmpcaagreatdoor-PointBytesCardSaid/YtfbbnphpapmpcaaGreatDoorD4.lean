/-
  A fact of the translation that a card asks for (great, so in a text of its own): its harness.
-/
import Derived.Test.YtfbbnphpapmpcaaGreatDoorCards
import Derived.ProofKit
namespace Go.Proofs.YtfbbnphpapmpcaaGreatDoor
set_option maxRecDepth 100000 in
theorem main_is : Tryz.prog.mainIs = some (Rows.pointOrderCard.stood.harness.1, Rows.pointOrderCard.stood.harness.2.toList) := by kernel_rfl
end Go.Proofs.YtfbbnphpapmpcaaGreatDoor
