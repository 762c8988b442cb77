/-
  A fact of the translation that a row asks for (great, so in a text of its own): it may be entered.
  A fact of the translation that a row asks for (great, so in a text of its own): how it was made.
  A fact of the translation that a card asks for (great, so in a text of its own): its harness.
-/
import Derived.Test.YtmlpibdincfgbaaGreatDoorRows
import Derived.ProofKit
import Derived.Test.YtmlpibdincfgbaaGreatDoorCards
namespace Go.Proofs.YtmlpibdincfgbaaGreatDoor
set_option maxRecDepth 100000 in
theorem may_enter:Tryz.prog.mayEnter=true:=by kernel_rfl
end Go.Proofs.YtmlpibdincfgbaaGreatDoor
namespace Go.Proofs.YtmlpibdincfgbaaGreatDoor
set_option maxRecDepth 100000 in
theorem made_so:((Rows.queryReadsRow.lifted==Tryz.prog.liftsFinal)&&(Tryz.prog.make==some Rows.queryReadsRow.make))=true:=by kernel_rfl
end Go.Proofs.YtmlpibdincfgbaaGreatDoor
namespace Go.Proofs.YtmlpibdincfgbaaGreatDoor
set_option maxRecDepth 100000 in
theorem main_is:Tryz.prog.mainIs=some (Rows.queryReadsCard.stood.harness.1,Rows.queryReadsCard.stood.harness.2.toList):=by kernel_rfl
end Go.Proofs.YtmlpibdincfgbaaGreatDoor
