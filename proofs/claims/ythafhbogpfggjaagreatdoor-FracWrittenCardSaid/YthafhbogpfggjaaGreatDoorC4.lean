/-
  A fact of the translation that a card asks for (great, so in a text of its own): its harness.
-/
import Derived.Test.YthafhbogpfggjaaGreatDoorCards
import Derived.ProofKit
namespace Go.Proofs.YthafhbogpfggjaaGreatDoor
set_option maxRecDepth 100000 in
theorem main_is : Tryz.prog.mainIs = some (Rows.wideProductsCard.stood.harness.1, Rows.wideProductsCard.stood.harness.2.toList) := by kernel_rfl
end Go.Proofs.YthafhbogpfggjaaGreatDoor
