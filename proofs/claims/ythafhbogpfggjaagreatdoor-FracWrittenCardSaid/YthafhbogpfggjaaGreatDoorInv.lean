/-
  What holds of an Int's value and of boxes while a region goes on.
-/
import Derived.Test.YthafhbogpfggjaaGreatDoorInv0
import Derived.Test.YthafhbogpfggjaaGreatDoorF3
namespace Go.Proofs.YthafhbogpfggjaaGreatDoor
open Go.RowKit

/-! ### What a value stands for, and a box of the call's own -/
def IsI (w : World) (v : Value) (z : Int) : Prop := ∃ x : IV, v = .agg #[.bool x.neg, .slice x.A x.n x.c] ∧ x.is w z
theorem IsI.on {w w' : World} {v : Value} {z : Int} (h : IsI w v z) (hb : Below w.heap.size w w') : IsI w' v z := by
  obtain ⟨x, e, hx⟩ := h
  exact ⟨x, e, hx.on hb⟩
theorem IsI.put2 {w : World} {v : Value} {z : Int} (h : IsI w v z) {g : Nat} {t : TypeId} {a b : Value} (hO : Own w g t [a, b]) (ha : ∀ n, a ≠ .int .u32 n) (hb : ∀ n, b ≠ .int .u32 n) (u r : Value) : IsI ((w.setCell ⟨g, 0, none⟩ u).setCell ⟨g, 1, none⟩ r) v z := by
  obtain ⟨x, e, hx⟩ := h
  exact ⟨x, e, hx.put2 hO ha hb u r⟩
/-- v points to a box of two cells in a block from W on; dn: it holds src. -/
def BoxAt (W w : World) (t : TypeId) (v : Value) (dn : Prop) (src : Value) : Prop :=
  ∃ g c0 c1, v = .pointer (some ⟨g, 0, none⟩) ∧ W.heap.size ≤ g ∧ Own w g t [c0, c1] ∧ (∀ n, c0 ≠ .int .u32 n) ∧ (∀ n, c1 ≠ .int .u32 n) ∧ (dn → src = .agg #[c0, c1])
section
variable {W w w' : World} {t : TypeId} {v src src' : Value} {dn dn' : Prop}
theorem BoxAt.on (h : BoxAt W w t v dn src) (hb : Below w.heap.size w w') : BoxAt W w' t v dn src := by
  obtain ⟨g, c0, c1, h1, h2, h3, h4⟩ := h
  exact ⟨g, c0, c1, h1, h2, h3.on hb, h4⟩
theorem BoxAt.imp (h : BoxAt W w t v dn src) (hd : dn' → dn) : BoxAt W w t v dn' src := by
  obtain ⟨g, c0, c1, h1, h2, h3, h4, h5, h6⟩ := h
  exact ⟨g, c0, c1, h1, h2, h3, h4, h5, fun x => h6 (hd x)⟩
theorem BoxAt.resrc (h : BoxAt W w t v dn src) (hd : ¬ dn') : BoxAt W w t v dn' src' := by
  obtain ⟨g, c0, c1, h1, h2, h3, h4, h5, h6⟩ := h
  exact ⟨g, c0, c1, h1, h2, h3, h4, h5, fun x => absurd x hd⟩
theorem BoxAt.new (hW : W.heap.size ≤ w.heap.size) (hd : ¬ dn) : BoxAt W (w.alloc (.cells #[.bool false, .slice none 0 0] t)) t (.pointer (some ⟨w.heap.size, 0, none⟩)) dn src :=
  ⟨_, _, _, rfl, hW, Own.new2 w t _ _, by simp, by simp, fun x => absurd x hd⟩
theorem BoxAt.ne_new (h : BoxAt W w t v dn src) : v ≠ .pointer (some ⟨w.heap.size, 0, none⟩) := by
  obtain ⟨g, c0, c1, h1, h2, h3, _⟩ := h
  have := h3.lt
  intro e
  rw [h1] at e
  injection e with e
  injection e with e
  injection e with e
  omega
theorem BoxAt.far (h : BoxAt W w t v dn src) {g : Nat} {v2 : Value} (e : v2 = .pointer (some ⟨g, 0, none⟩)) (hne : v ≠ v2) (a b : Value) : BoxAt W ((w.setCell ⟨g, 0, none⟩ a).setCell ⟨g, 1, none⟩ b) t v dn src := by
  obtain ⟨g', c0, c1, h1, h2, h3, h4⟩ := h
  have : g' ≠ g := by
    rintro rfl
    exact hne (h1.trans e.symm)
  exact ⟨g', c0, c1, h1, h2, (h3.far (p := ⟨g, 0, none⟩) this _).far (p := ⟨g, 1, none⟩) this _, h4⟩
end
end Go.Proofs.YthafhbogpfggjaaGreatDoor
