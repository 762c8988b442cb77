/-
  What slots hold in drawn regions: Ints, fractions, points, and these with an error.
-/
import Derived.Test.YthcpaagfgkbjaaaDoorReg
import Derived.Test.YthcpaagfgkbjaaaDoorP1
namespace Go.Proofs.YthcpaagfgkbjaaaDoor
open Go.RowKit Mag

theorem WI.keeps {w w' : World} {neg : Bool} {A : Option Addr} {n c : Nat} {z : Int} (h : WI w neg A n c z) (k : Keeps w w') : WI w' neg A n c z := by
  obtain ⟨l, h1, h2, h3, h4⟩ := h
  refine ⟨l, h1, h2, ⟨fun hn => ?_, h3.ws, h3.nz, h3.cap, h3.mx⟩, h4⟩
  obtain ⟨g, off, e, hg, hc⟩ := h3.sl hn
  refine ⟨g, off, e, Nat.lt_of_lt_of_le hg k.size, fun i x hx => k.cell _ _ (hc i x hx) ?_⟩
  obtain ⟨y, _, rfl⟩ := List.mem_map.1 (List.mem_of_getElem? hx)
  exact ⟨_, .inl rfl⟩
theorem IV.is.keeps {x : IV} {w w' : World} {z : Int} (h : x.is w z) (k : Keeps w w') : x.is w' z := WI.keeps h k
theorem FV.is.keeps {f : FV} {w w' : World} {p q : Int} (h : f.is w p q) (k : Keeps w w') : f.is w' p q := ⟨h.num.keeps k, h.less.keeps k, h.pos, h.fits, h.cop⟩
theorem PV.is.keeps {a : PV} {w w' : World} {p q r s : Int} (h : a.is w p q r s) (k : Keeps w w') : a.is w' p q r s := ⟨h.x.keeps k, h.y.keeps k⟩
def sI (z : Int) : Spec := ⟨fun v w => ∃ x : IV, v = .agg #[.bool x.neg, .slice x.A x.n x.c] ∧ x.is w z, fun ⟨x, e, h⟩ k => ⟨x, e, h.keeps k⟩⟩
def sF (p q : Int) : Spec := ⟨fun v w => ∃ x : FV, v = .agg #[.bool x.p.neg, .slice x.p.A x.p.n x.p.c, .bool x.l.neg, .slice x.l.A x.l.n x.l.c] ∧ x.is w p q, fun ⟨x, e, h⟩ k => ⟨x, e, h.keeps k⟩⟩
def sP (p q r s : Int) : Spec := ⟨fun v w => ∃ x : PV, v = .agg #[.bool x.x.p.neg, .slice x.x.p.A x.x.p.n x.x.p.c, .bool x.x.l.neg, .slice x.x.l.A x.x.l.n x.x.l.c, .bool x.y.p.neg, .slice x.y.p.A x.y.p.n x.y.p.c, .bool x.y.l.neg, .slice x.y.l.A x.y.l.n x.y.l.c] ∧ x.is w p q r s, fun ⟨x, e, h⟩ k => ⟨x, e, h.keeps k⟩⟩
def sIE (z err : Int) : Spec := ⟨fun v w => ∃ x : IV, v = .tuple #[.agg #[.bool x.neg, .slice x.A x.n x.c], .int .i64 err] ∧ x.is w z, fun ⟨x, e, h⟩ k => ⟨x, e, h.keeps k⟩⟩
def sFE (p q err : Int) : Spec := ⟨fun v w => ∃ x : FV, v = .tuple #[.agg #[.bool x.p.neg, .slice x.p.A x.p.n x.p.c, .bool x.l.neg, .slice x.l.A x.l.n x.l.c], .int .i64 err] ∧ x.is w p q, fun ⟨x, e, h⟩ k => ⟨x, e, h.keeps k⟩⟩
def sPE (p q r s err : Int) : Spec := ⟨fun v w => ∃ x : PV, v = .tuple #[.agg #[.bool x.x.p.neg, .slice x.x.p.A x.x.p.n x.x.p.c, .bool x.x.l.neg, .slice x.x.l.A x.x.l.n x.x.l.c, .bool x.y.p.neg, .slice x.y.p.A x.y.p.n x.y.p.c, .bool x.y.l.neg, .slice x.y.l.A x.y.l.n x.y.l.c], .int .i64 err] ∧ x.is w p q r s, fun ⟨x, e, h⟩ k => ⟨x, e, h.keeps k⟩⟩
section
variable {α : Type} {l : List α}
theorem list_1 (h : l.length = 1) : ∃ a, l = [a] := by
  rcases l with _ | ⟨a, _ | ⟨b, l⟩⟩ <;> simp at h
  exact ⟨a, rfl⟩
theorem list_2 (h : l.length = 2) : ∃ a b, l = [a, b] := by
  rcases l with _ | ⟨a, l⟩ <;> simp at h
  obtain ⟨b, rfl⟩ := list_1 h
  exact ⟨a, b, rfl⟩
theorem list_3 (h : l.length = 3) : ∃ a b c, l = [a, b, c] := by
  rcases l with _ | ⟨a, l⟩ <;> simp at h
  obtain ⟨b, c, rfl⟩ := list_2 h
  exact ⟨a, b, c, rfl⟩
theorem list_4 (h : l.length = 4) : ∃ a b c d, l = [a, b, c, d] := by
  rcases l with _ | ⟨a, l⟩ <;> simp at h
  obtain ⟨b, c, d, rfl⟩ := list_3 h
  exact ⟨a, b, c, d, rfl⟩
theorem list_8 (h : l.length = 8) : ∃ a b c d e f g i, l = [a, b, c, d, e, f, g, i] := by
  rcases l with _ | ⟨a, _ | ⟨b, _ | ⟨c, _ | ⟨d, l⟩⟩⟩⟩ <;> simp at h
  obtain ⟨e, f, g, i, rfl⟩ := list_4 h
  exact ⟨a, b, c, d, e, f, g, i, rfl⟩
end
end Go.Proofs.YthcpaagfgkbjaaaDoor
