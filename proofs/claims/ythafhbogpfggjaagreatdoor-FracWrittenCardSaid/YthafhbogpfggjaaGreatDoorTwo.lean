/-
  Blocks of two cells; what was made and then called.
-/
import Derived.Test.YthafhbogpfggjaaGreatDoorMem
namespace Go.Proofs.YthafhbogpfggjaaGreatDoor
open Go.RowKit

section
variable {w : World} {g : Nat} {t : TypeId} {x y z u : Value} {l : List Value}
theorem Own.c0 (h : Own w g t (x :: l)) : w.cell? ⟨g, 0, none⟩ = some x := h.cell 0
theorem Own.c1 (h : Own w g t (x :: y :: l)) : w.cell? ⟨g, 1, none⟩ = some y := h.cell 1
theorem Own.c2 (h : Own w g t (x :: y :: z :: l)) : w.cell? ⟨g, 2, none⟩ = some z := h.cell 2
theorem Own.c3 (h : Own w g t (x :: y :: z :: u :: l)) : w.cell? ⟨g, 3, none⟩ = some u := h.cell 3
theorem Own.new2 (w : World) (t : TypeId) (x y : Value) : Own (w.alloc (.cells #[x, y] t)) w.heap.size t [x, y] := Own.new w t [x, y]
end
theorem Own.put2 {w : World} {g : Nat} {t : TypeId} {x y : Value} (hO : Own w g t [x, y]) (u v : Value) : Own ((w.setCell ⟨g, 0, none⟩ u).setCell ⟨g, 1, none⟩ v) g t [u, v] := (hO.set_ 0 u).set_ 1 v
theorem Below.put2 {B : Nat} {a w : World} {g : Nat} (h : Below B a w) (hg : B ≤ g) (u v : Value) : Below B a ((w.setCell ⟨g, 0, none⟩ u).setCell ⟨g, 1, none⟩ v) := (h.setCell hg u).setCell hg v
/-- What was made and then called keeps what was there. -/
theorem Below.call {w W w' : World} (h : Below w.heap.size w W) (hb : Below W.heap.size W w') : Below w.heap.size w w' := h.trans (hb.mono h.size)
end Go.Proofs.YthafhbogpfggjaaGreatDoor
