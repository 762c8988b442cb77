/-
  A fact of the translation that a row asks for (great, so in a text of its own): it may be entered.
  A fact of the translation that a row asks for (great, so in a text of its own): how it was made.
  A fact of the translation that a card asks for (great, so in a text of its own): its harness.
-/
import Derived.Test.YtmlpibdincfgbaaDoorRows
import Derived.ProofKit
import Derived.Test.YtmlpibdincfgbaaDoorCards
namespace Go.Proofs.YtmlpibdincfgbaaDoor
set_option maxRecDepth 100000 in
theorem may_enter:Tryd.prog.mayEnter=true:=by kernel_rfl
end Go.Proofs.YtmlpibdincfgbaaDoor
namespace Go.Proofs.YtmlpibdincfgbaaDoor
set_option maxRecDepth 100000 in
theorem made_so:((Rows.queryLimitsRow.lifted==Tryd.prog.liftsFinal)&&(Tryd.prog.make==some Rows.queryLimitsRow.make))=true:=by kernel_rfl
end Go.Proofs.YtmlpibdincfgbaaDoor
namespace Go.Proofs.YtmlpibdincfgbaaDoor
set_option maxRecDepth 100000 in
theorem main_is:Tryd.prog.mainIs=some (Rows.queryLimitsCard.stood.harness.1,Rows.queryLimitsCard.stood.harness.2.toList):=by kernel_rfl
end Go.Proofs.YtmlpibdincfgbaaDoor
