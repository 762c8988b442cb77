/-
  A fact of the translation that a row asks for (great, so in a text of its own): it may be entered.
-/
import Derived.Test.YtfbbnphpapmpcaaGreatDoorRows
import Derived.ProofKit
namespace Go.Proofs.YtfbbnphpapmpcaaGreatDoor
set_option maxRecDepth 100000 in
theorem may_enter : Tryz.prog.mayEnter = true := by kernel_rfl
end Go.Proofs.YtfbbnphpapmpcaaGreatDoor
