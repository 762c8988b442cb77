/-
  Chapter 38's reference: tokens.
-/
import Derived.Test.YtmlpibdincfgbaaDoorM6
import Derived.Test.YtmlpibdincfgbaaDoorK17
import Derived.Test.YtmlpibdincfgbaaDoorK19
import Derived.Test.YtmlpibdincfgbaaDoorL34
namespace Qy
end Qy
namespace Go.Proofs.YtmlpibdincfgbaaDoor
open Go.RowKit
set_option linter.unusedSimpArgs false
set_option linter.unusedVariables false
theorem owns_below {w w':World} {B n:Nat} {v:Value} {e:TypeId} {sz:Nat} {xs:List Value} (h:w.ownsRow B e sz v n xs) (k:Below w.heap.size w w'):w'.ownsRow B e sz v n xs:=by
 refine ⟨h.1,?_⟩
 rcases h.2 with h | ⟨g,cap,cur,e,k2,k3,k4⟩
 ·exact .inl h
 ·exact .inr ⟨g,cap,cur,e,k2,(k.block g (heap_lt k3)).trans k3,k4⟩
end Go.Proofs.YtmlpibdincfgbaaDoor
