/-
  Contracts of package frac: Of, Mul.
-/
import Derived.Test.YthafhbogpfggjaaGreatDoorF3
namespace Go.Proofs.YthafhbogpfggjaaGreatDoor
open Go.RowKit Mag

/-- Two Fracs in their blocks, and the result's block. -/
structure TwoSt (w : World) (f g : FV) (p q r s : Int) (wx : World) : Prop where
  of_ : Own wx w.heap.size 31 [.bool f.p.neg, .slice f.p.A f.p.n f.p.c, .bool f.l.neg, .slice f.l.A f.l.n f.l.c]
  og : Own wx (w.heap.size + 1) 31 [.bool g.p.neg, .slice g.p.A g.p.n g.p.c, .bool g.l.neg, .slice g.l.A g.l.n g.l.c]
  oz : Own wx (w.heap.size + 1 + 1) 31 [.bool false, .slice none 0 0, .bool false, .slice none 0 0]
  if_ : f.is wx p q
  ig : g.is wx r s
  bel : Below w.heap.size w wx
theorem TwoSt.on {w wx w' : World} {f g : FV} {p q r s : Int} (h : TwoSt w f g p q r s wx) (hb : Below wx.heap.size wx w') : TwoSt w f g p q r s w' :=
  ⟨h.of_.on hb, h.og.on hb, h.oz.on hb, h.if_.on hb, h.ig.on hb, Below.call h.bel hb⟩
theorem TwoSt.start {w : World} {f g : FV} {p q r s : Int} (hf : f.is w p q) (hg : g.is w r s) : TwoSt w f g p q r s (((w.alloc (.cells #[.bool f.p.neg, .slice f.p.A f.p.n f.p.c, .bool f.l.neg, .slice f.l.A f.l.n f.l.c] 31)).alloc (.cells #[.bool g.p.neg, .slice g.p.A g.p.n g.p.c, .bool g.l.neg, .slice g.l.A g.l.n g.l.c] 31)).alloc (.cells #[.bool false, .slice none 0 0, .bool false, .slice none 0 0] 31)) := by
  have hB : Below w.heap.size w (((w.alloc (.cells #[.bool f.p.neg, .slice f.p.A f.p.n f.p.c, .bool f.l.neg, .slice f.l.A f.l.n f.l.c] 31)).alloc (.cells #[.bool g.p.neg, .slice g.p.A g.p.n g.p.c, .bool g.l.neg, .slice g.l.A g.l.n g.l.c] 31)).alloc (.cells #[.bool false, .slice none 0 0, .bool false, .slice none 0 0] 31)) := by go_grown
  refine ⟨((Own.newF w _ f).alloc _).alloc _, ?_, ?_, hf.on hB, hg.on hB, hB⟩
  · have := (Own.newF (w.alloc (.cells #[.bool f.p.neg, .slice f.p.A f.p.n f.p.c, .bool f.l.neg, .slice f.l.A f.l.n f.l.c] 31)) 31 g).alloc (.cells #[.bool false, .slice none 0 0, .bool false, .slice none 0 0] 31)
    simpa using this
  · have := Own.new4 ((w.alloc (.cells #[.bool f.p.neg, .slice f.p.A f.p.n f.p.c, .bool f.l.neg, .slice f.l.A f.l.n f.l.c] 31)).alloc (.cells #[.bool g.p.neg, .slice g.p.A g.p.n g.p.c, .bool g.l.neg, .slice g.l.A g.l.n g.l.c] 31)) 31 (.bool false) (.slice none 0 0) (.bool false) (.slice none 0 0)
    simpa using this

theorem below_al {W w : World} (h : Below W.heap.size W w) (o : Obj) : Below W.heap.size W (w.alloc o) := h.alloc h.size o
/-! The contracts at a world behind the one that the facts speak of. -/
theorem Den_b {f : FV} {p q : Int} {W w : World} (hf : f.is W p q) (hb : Below W.heap.size W w) : Calls Tryz.prog 93 #[.agg #[.bool f.p.neg, .slice f.p.A f.p.n f.p.c, .bool f.l.neg, .slice f.l.A f.l.n f.l.c]] w fun e w' => ∃ r : IV, e = .returned (.agg #[.bool r.neg, .slice r.A r.n r.c]) ∧ Below W.heap.size W w' ∧ Below w.heap.size w w' ∧ r.is w' q :=
  (Den_any (hf.on hb)).mono fun _ _ ⟨r, h1, h2, h3⟩ => ⟨r, h1, Below.call hb h2, h2, h3⟩
theorem gcd_b {x y : IV} {a b : Int} {W1 W2 w : World} (hx : x.is W1 a) (h1 : Below W1.heap.size W1 w) (hy : y.is W2 b) (h2 : Below W2.heap.size W2 w) : Calls Tryz.prog 57 #[.agg #[.bool x.neg, .slice x.A x.n x.c], .agg #[.bool y.neg, .slice y.A y.n y.c]] w fun e w' => ∃ r : IV, e = .returned (.agg #[.bool r.neg, .slice r.A r.n r.c]) ∧ Below W1.heap.size W1 w' ∧ Below w.heap.size w w' ∧ r.is w' (Int.gcd a b : Nat) :=
  (gcd_iv (hx.on h1) (hy.on h2)).mono fun _ _ ⟨r, k1, k2, k3⟩ => ⟨r, k1, Below.call h1 k2, k2, k3⟩
theorem over_b {x y : IV} {a b : Int} {W1 W2 w : World} (hx : x.is W1 a) (h1 : Below W1.heap.size W1 w) (hy : y.is W2 b) (h2 : Below W2.heap.size W2 w) (h0 : b ≠ 0) : Calls Tryz.prog 135 #[.agg #[.bool x.neg, .slice x.A x.n x.c], .agg #[.bool y.neg, .slice y.A y.n y.c]] w fun e w' => ∃ r : IV, e = .returned (.agg #[.bool r.neg, .slice r.A r.n r.c]) ∧ Below W2.heap.size W2 w' ∧ Below w.heap.size w w' ∧ r.is w' (a / b) :=
  (over_iv (hx.on h1) (hy.on h2) h0).mono fun _ _ ⟨r, k1, k2, k3⟩ => ⟨r, k1, Below.call h2 k2, k2, k3⟩

end Go.Proofs.YthafhbogpfggjaaGreatDoor
