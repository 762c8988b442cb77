/-
  What slots hold in drawn regions: Ints, fractions, points, and these with an error.
-/
import Derived.Test.YthcpaagfgkbjaaaDoorReg
import Derived.Test.YthcpaagfgkbjaaaDoorP1
namespace Go.Proofs.YthcpaagfgkbjaaaDoor
open Go.RowKit Mag

theorem WI.keeps {w w' : World} {neg : Bool} {A : Option Addr} {n c : Nat} {z : Int} (h : WI w neg A n c z) (k : Keeps w w') : WI w' neg A n c z := by
  obtain ⟨l, h1, h2, h3, h4⟩ := h
  refine ⟨l, h1, h2, ⟨fun hn => ?_, h3.ws, h3.nz, h3.cap, h3.mx⟩, h4⟩
  obtain ⟨g, off, e, hg, hc⟩ := h3.sl hn
  refine ⟨g, off, e, Nat.lt_of_lt_of_le hg k.size, fun i x hx => k.cell _ _ (hc i x hx) ?_⟩
  obtain ⟨y, _, rfl⟩ := List.mem_map.1 (List.mem_of_getElem? hx)
  exact ⟨_, .inl rfl⟩
theorem IV.is.keeps {x : IV} {w w' : World} {z : Int} (h : x.is w z) (k : Keeps w w') : x.is w' z := WI.keeps h k
theorem FV.is.keeps {f : FV} {w w' : World} {p q : Int} (h : f.is w p q) (k : Keeps w w') : f.is w' p q := ⟨h.num.keeps k, h.less.keeps k, h.pos, h.fits, h.cop⟩
theorem PV.is.keeps {a : PV} {w w' : World} {p q r s : Int} (h : a.is w p q r s) (k : Keeps w w') : a.is w' p q r s := ⟨h.x.keeps k, h.y.keeps k⟩
def sI {R : World → World → Prop} [StepRel R] (z : Int) : Spec R := ⟨fun v w => ∃ x : IV, v = .agg #[.bool x.neg, .slice x.A x.n x.c] ∧ x.is w z, fun ⟨x, e, h⟩ k => ⟨x, e, h.keeps (StepRel.keeps k)⟩⟩
def sF {R : World → World → Prop} [StepRel R] (p q : Int) : Spec R := ⟨fun v w => ∃ x : FV, v = .agg #[.bool x.p.neg, .slice x.p.A x.p.n x.p.c, .bool x.l.neg, .slice x.l.A x.l.n x.l.c] ∧ x.is w p q, fun ⟨x, e, h⟩ k => ⟨x, e, h.keeps (StepRel.keeps k)⟩⟩
def sP {R : World → World → Prop} [StepRel R] (p q r s : Int) : Spec R := ⟨fun v w => ∃ x : PV, v = .agg #[.bool x.x.p.neg, .slice x.x.p.A x.x.p.n x.x.p.c, .bool x.x.l.neg, .slice x.x.l.A x.x.l.n x.x.l.c, .bool x.y.p.neg, .slice x.y.p.A x.y.p.n x.y.p.c, .bool x.y.l.neg, .slice x.y.l.A x.y.l.n x.y.l.c] ∧ x.is w p q r s, fun ⟨x, e, h⟩ k => ⟨x, e, h.keeps (StepRel.keeps k)⟩⟩
def sIE {R : World → World → Prop} [StepRel R] (z err : Int) : Spec R := ⟨fun v w => ∃ x : IV, v = .tuple #[.agg #[.bool x.neg, .slice x.A x.n x.c], .int .i64 err] ∧ x.is w z, fun ⟨x, e, h⟩ k => ⟨x, e, h.keeps (StepRel.keeps k)⟩⟩
def sFE {R : World → World → Prop} [StepRel R] (p q err : Int) : Spec R := ⟨fun v w => ∃ x : FV, v = .tuple #[.agg #[.bool x.p.neg, .slice x.p.A x.p.n x.p.c, .bool x.l.neg, .slice x.l.A x.l.n x.l.c], .int .i64 err] ∧ x.is w p q, fun ⟨x, e, h⟩ k => ⟨x, e, h.keeps (StepRel.keeps k)⟩⟩
def sPE {R : World → World → Prop} [StepRel R] (p q r s err : Int) : Spec R := ⟨fun v w => ∃ x : PV, v = .tuple #[.agg #[.bool x.x.p.neg, .slice x.x.p.A x.x.p.n x.x.p.c, .bool x.x.l.neg, .slice x.x.l.A x.x.l.n x.x.l.c, .bool x.y.p.neg, .slice x.y.p.A x.y.p.n x.y.p.c, .bool x.y.l.neg, .slice x.y.l.A x.y.l.n x.y.l.c], .int .i64 err] ∧ x.is w p q r s, fun ⟨x, e, h⟩ k => ⟨x, e, h.keeps (StepRel.keeps k)⟩⟩
/-- A new slice, known whole. -/
def sOwn (B n : Nat) (t : TypeId) (xs : List Value) : Spec Bel := ⟨fun v w => ∃ g, v = .slice (some ⟨g, 0, none⟩) n n ∧ B ≤ g ∧ Own w g t xs, fun ⟨g, e, hB, h⟩ k => ⟨g, e, hB, h.on k⟩⟩
section
variable {α : Type} {l : List α}
theorem list_1 (h : l.length = 1) : ∃ a, l = [a] := by
  rcases l with _ | ⟨a, _ | ⟨b, l⟩⟩ <;> simp at h
  exact ⟨a, rfl⟩
theorem list_2 (h : l.length = 2) : ∃ a b, l = [a, b] := by
  rcases l with _ | ⟨a, l⟩ <;> simp at h
  obtain ⟨b, rfl⟩ := list_1 h
  exact ⟨a, b, rfl⟩
theorem list_3 (h : l.length = 3) : ∃ a b c, l = [a, b, c] := by
  rcases l with _ | ⟨a, l⟩ <;> simp at h
  obtain ⟨b, c, rfl⟩ := list_2 h
  exact ⟨a, b, c, rfl⟩
theorem list_4 (h : l.length = 4) : ∃ a b c d, l = [a, b, c, d] := by
  rcases l with _ | ⟨a, l⟩ <;> simp at h
  obtain ⟨b, c, d, rfl⟩ := list_3 h
  exact ⟨a, b, c, d, rfl⟩
theorem list_8 (h : l.length = 8) : ∃ a b c d e f g i, l = [a, b, c, d, e, f, g, i] := by
  rcases l with _ | ⟨a, _ | ⟨b, _ | ⟨c, _ | ⟨d, l⟩⟩⟩⟩ <;> simp at h
  obtain ⟨e, f, g, i, rfl⟩ := list_4 h
  exact ⟨a, b, c, d, e, f, g, i, rfl⟩
end
/-! ### All cells of a small block at once -/
theorem Own.all1 {w : World} {g : Nat} {t : TypeId} {a0 : Value} (h : Own w g t [a0]) : w.cell? ⟨g, 0, none⟩ = some a0 ∧ w.frozen? ⟨g, 0, none⟩ = false :=
  ⟨h.cell 0, h.frozen 0⟩
theorem Own.all2 {w : World} {g : Nat} {t : TypeId} {a0 a1 : Value} (h : Own w g t [a0, a1]) : w.cell? ⟨g, 0, none⟩ = some a0 ∧ w.cell? ⟨g, 1, none⟩ = some a1 ∧ w.frozen? ⟨g, 0, none⟩ = false ∧ w.frozen? ⟨g, 1, none⟩ = false :=
  ⟨h.cell 0, h.cell 1, h.frozen 0, h.frozen 1⟩
theorem Own.all3 {w : World} {g : Nat} {t : TypeId} {a0 a1 a2 : Value} (h : Own w g t [a0, a1, a2]) : w.cell? ⟨g, 0, none⟩ = some a0 ∧ w.cell? ⟨g, 1, none⟩ = some a1 ∧ w.cell? ⟨g, 2, none⟩ = some a2 ∧ w.frozen? ⟨g, 0, none⟩ = false ∧ w.frozen? ⟨g, 1, none⟩ = false ∧ w.frozen? ⟨g, 2, none⟩ = false :=
  ⟨h.cell 0, h.cell 1, h.cell 2, h.frozen 0, h.frozen 1, h.frozen 2⟩
theorem Own.all4 {w : World} {g : Nat} {t : TypeId} {a0 a1 a2 a3 : Value} (h : Own w g t [a0, a1, a2, a3]) : w.cell? ⟨g, 0, none⟩ = some a0 ∧ w.cell? ⟨g, 1, none⟩ = some a1 ∧ w.cell? ⟨g, 2, none⟩ = some a2 ∧ w.cell? ⟨g, 3, none⟩ = some a3 ∧ w.frozen? ⟨g, 0, none⟩ = false ∧ w.frozen? ⟨g, 1, none⟩ = false ∧ w.frozen? ⟨g, 2, none⟩ = false ∧ w.frozen? ⟨g, 3, none⟩ = false :=
  ⟨h.cell 0, h.cell 1, h.cell 2, h.cell 3, h.frozen 0, h.frozen 1, h.frozen 2, h.frozen 3⟩
theorem Own.all8 {w : World} {g : Nat} {t : TypeId} {a0 a1 a2 a3 a4 a5 a6 a7 : Value} (h : Own w g t [a0, a1, a2, a3, a4, a5, a6, a7]) : w.cell? ⟨g, 0, none⟩ = some a0 ∧ w.cell? ⟨g, 1, none⟩ = some a1 ∧ w.cell? ⟨g, 2, none⟩ = some a2 ∧ w.cell? ⟨g, 3, none⟩ = some a3 ∧ w.cell? ⟨g, 4, none⟩ = some a4 ∧ w.cell? ⟨g, 5, none⟩ = some a5 ∧ w.cell? ⟨g, 6, none⟩ = some a6 ∧ w.cell? ⟨g, 7, none⟩ = some a7 ∧ w.frozen? ⟨g, 0, none⟩ = false ∧ w.frozen? ⟨g, 1, none⟩ = false ∧ w.frozen? ⟨g, 2, none⟩ = false ∧ w.frozen? ⟨g, 3, none⟩ = false ∧ w.frozen? ⟨g, 4, none⟩ = false ∧ w.frozen? ⟨g, 5, none⟩ = false ∧ w.frozen? ⟨g, 6, none⟩ = false ∧ w.frozen? ⟨g, 7, none⟩ = false :=
  ⟨h.cell 0, h.cell 1, h.cell 2, h.cell 3, h.cell 4, h.cell 5, h.cell 6, h.cell 7, h.frozen 0, h.frozen 1, h.frozen 2, h.frozen 3, h.frozen 4, h.frozen 5, h.frozen 6, h.frozen 7⟩
theorem Own.rules2 {W : World} {g : Nat} {t : TypeId} {a0 a1 : Value} (h : Own W g t [a0, a1]) : (∀ w, Below W.heap.size W w → w.cell? ⟨g, 0, none⟩ = some a0) ∧ (∀ w, Below W.heap.size W w → w.cell? ⟨g, 1, none⟩ = some a1) :=
  ⟨fun _ k => (h.on k).cell 0, fun _ k => (h.on k).cell 1⟩
theorem Own.rules3 {W : World} {g : Nat} {t : TypeId} {a0 a1 a2 : Value} (h : Own W g t [a0, a1, a2]) : (∀ w, Below W.heap.size W w → w.cell? ⟨g, 0, none⟩ = some a0) ∧ (∀ w, Below W.heap.size W w → w.cell? ⟨g, 1, none⟩ = some a1) ∧ (∀ w, Below W.heap.size W w → w.cell? ⟨g, 2, none⟩ = some a2) :=
  ⟨fun _ k => (h.on k).cell 0, fun _ k => (h.on k).cell 1, fun _ k => (h.on k).cell 2⟩
theorem Own.rules4 {W : World} {g : Nat} {t : TypeId} {a0 a1 a2 a3 : Value} (h : Own W g t [a0, a1, a2, a3]) : (∀ w, Below W.heap.size W w → w.cell? ⟨g, 0, none⟩ = some a0) ∧ (∀ w, Below W.heap.size W w → w.cell? ⟨g, 1, none⟩ = some a1) ∧ (∀ w, Below W.heap.size W w → w.cell? ⟨g, 2, none⟩ = some a2) ∧ (∀ w, Below W.heap.size W w → w.cell? ⟨g, 3, none⟩ = some a3) :=
  ⟨fun _ k => (h.on k).cell 0, fun _ k => (h.on k).cell 1, fun _ k => (h.on k).cell 2, fun _ k => (h.on k).cell 3⟩
theorem Own.rules8 {W : World} {g : Nat} {t : TypeId} {a0 a1 a2 a3 a4 a5 a6 a7 : Value} (h : Own W g t [a0, a1, a2, a3, a4, a5, a6, a7]) : (∀ w, Below W.heap.size W w → w.cell? ⟨g, 0, none⟩ = some a0) ∧ (∀ w, Below W.heap.size W w → w.cell? ⟨g, 1, none⟩ = some a1) ∧ (∀ w, Below W.heap.size W w → w.cell? ⟨g, 2, none⟩ = some a2) ∧ (∀ w, Below W.heap.size W w → w.cell? ⟨g, 3, none⟩ = some a3) ∧ (∀ w, Below W.heap.size W w → w.cell? ⟨g, 4, none⟩ = some a4) ∧ (∀ w, Below W.heap.size W w → w.cell? ⟨g, 5, none⟩ = some a5) ∧ (∀ w, Below W.heap.size W w → w.cell? ⟨g, 6, none⟩ = some a6) ∧ (∀ w, Below W.heap.size W w → w.cell? ⟨g, 7, none⟩ = some a7) :=
  ⟨fun _ k => (h.on k).cell 0, fun _ k => (h.on k).cell 1, fun _ k => (h.on k).cell 2, fun _ k => (h.on k).cell 3, fun _ k => (h.on k).cell 4, fun _ k => (h.on k).cell 5, fun _ k => (h.on k).cell 6, fun _ k => (h.on k).cell 7⟩
end Go.Proofs.YthcpaagfgkbjaaaDoor
