/-
  What slots hold in drawn regions: Ints, fractions, points, and these with an error.
-/
import Derived.Test.YtfbbnphpapmpcaaGreatDoorReg
import Derived.Test.YtfbbnphpapmpcaaGreatDoorF4
import Derived.Test.YtfbbnphpapmpcaaGreatDoorP5
namespace Go.Proofs.YtfbbnphpapmpcaaGreatDoor
open Go.RowKit Mag

theorem PV.is.keeps {a : PV} {w w' : World} {p q r s : Int} (h : a.is w p q r s) (k : Keeps w w') : a.is w' p q r s := ⟨h.x.keeps k, h.y.keeps k⟩
def sI {R : World → World → Prop} [StepRel R] (z : Int) : Spec R := ⟨fun v w => ∃ x : IV, v = .agg #[.bool x.neg, .slice x.A x.n x.c] ∧ x.is w z, fun ⟨x, e, h⟩ k => ⟨x, e, h.keeps (StepRel.keeps k)⟩⟩
def sF {R : World → World → Prop} [StepRel R] (p q : Int) : Spec R := ⟨fun v w => ∃ x : FV, v = .agg #[.bool x.p.neg, .slice x.p.A x.p.n x.p.c, .bool x.l.neg, .slice x.l.A x.l.n x.l.c] ∧ x.is w p q, fun ⟨x, e, h⟩ k => ⟨x, e, h.keeps (StepRel.keeps k)⟩⟩
def sP {R : World → World → Prop} [StepRel R] (p q r s : Int) : Spec R := ⟨fun v w => ∃ x : PV, v = .agg #[.bool x.x.p.neg, .slice x.x.p.A x.x.p.n x.x.p.c, .bool x.x.l.neg, .slice x.x.l.A x.x.l.n x.x.l.c, .bool x.y.p.neg, .slice x.y.p.A x.y.p.n x.y.p.c, .bool x.y.l.neg, .slice x.y.l.A x.y.l.n x.y.l.c] ∧ x.is w p q r s, fun ⟨x, e, h⟩ k => ⟨x, e, h.keeps (StepRel.keeps k)⟩⟩
def sIE {R : World → World → Prop} [StepRel R] (z err : Int) : Spec R := ⟨fun v w => ∃ x : IV, v = .tuple #[.agg #[.bool x.neg, .slice x.A x.n x.c], .int .i64 err] ∧ x.is w z, fun ⟨x, e, h⟩ k => ⟨x, e, h.keeps (StepRel.keeps k)⟩⟩
def sFE {R : World → World → Prop} [StepRel R] (p q err : Int) : Spec R := ⟨fun v w => ∃ x : FV, v = .tuple #[.agg #[.bool x.p.neg, .slice x.p.A x.p.n x.p.c, .bool x.l.neg, .slice x.l.A x.l.n x.l.c], .int .i64 err] ∧ x.is w p q, fun ⟨x, e, h⟩ k => ⟨x, e, h.keeps (StepRel.keeps k)⟩⟩
def sPE {R : World → World → Prop} [StepRel R] (p q r s err : Int) : Spec R := ⟨fun v w => ∃ x : PV, v = .tuple #[.agg #[.bool x.x.p.neg, .slice x.x.p.A x.x.p.n x.x.p.c, .bool x.x.l.neg, .slice x.x.l.A x.x.l.n x.x.l.c, .bool x.y.p.neg, .slice x.y.p.A x.y.p.n x.y.p.c, .bool x.y.l.neg, .slice x.y.l.A x.y.l.n x.y.l.c], .int .i64 err] ∧ x.is w p q r s, fun ⟨x, e, h⟩ k => ⟨x, e, h.keeps (StepRel.keeps k)⟩⟩
end Go.Proofs.YtfbbnphpapmpcaaGreatDoor
