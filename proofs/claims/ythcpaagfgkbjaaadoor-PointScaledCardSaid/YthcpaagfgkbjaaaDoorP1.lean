/-
  Contracts of package point: whole, Of, and what a point is.
-/
import Derived.Test.YthcpaagfgkbjaaaDoorF9
import Derived.Test.YthcpaagfgkbjaaaDoorF10
namespace Go.Proofs.YthcpaagfgkbjaaaDoor
open Go.RowKit Mag

theorem mk_one (n : Int) : mkP n 1 = n ∧ mkQ n 1 = 1 := by
  unfold mkP mkQ
  simp
/-- Cells that hold no word. -/
theorem IV.is.set {x : IV} {w : World} {z : Int} (h : x.is w z) {g i : Nat} {t : TypeId} {xs : List Value} {v : Value} (hO : Own w g t xs) (hi : xs[i]? = some v) (hv : ∀ n, v ≠ .int .u32 n) (u : Value) : x.is (w.setCell ⟨g, i, none⟩ u) z :=
  WI.put h ((hO.cell i).trans hi) hv u
theorem FV.is.set {f : FV} {w : World} {p q : Int} (h : f.is w p q) {g i : Nat} {t : TypeId} {xs : List Value} {v : Value} (hO : Own w g t xs) (hi : xs[i]? = some v) (hv : ∀ n, v ≠ .int .u32 n) (u : Value) : f.is (w.setCell ⟨g, i, none⟩ u) p q :=
  ⟨h.num.set hO hi hv u, h.less.set hO hi hv u, h.pos, h.fits, h.cop⟩
section
variable {w : World} {g : Nat} {t : TypeId} {a b c d e f x y : Value} {l : List Value}
theorem Own.c4 (h : Own w g t (a :: b :: c :: d :: x :: l)) : w.cell? ⟨g, 4, none⟩ = some x := h.cell 4
theorem Own.c5 (h : Own w g t (a :: b :: c :: d :: e :: x :: l)) : w.cell? ⟨g, 5, none⟩ = some x := h.cell 5
theorem Own.c6 (h : Own w g t (a :: b :: c :: d :: e :: f :: x :: l)) : w.cell? ⟨g, 6, none⟩ = some x := h.cell 6
theorem Own.c7 (h : Own w g t (a :: b :: c :: d :: e :: f :: y :: x :: l)) : w.cell? ⟨g, 7, none⟩ = some x := h.cell 7
theorem Own.new8 (w : World) (t : TypeId) (a b c d e f x y : Value) : Own (w.alloc (.cells #[a, b, c, d, e, f, x, y] t)) w.heap.size t [a, b, c, d, e, f, x, y] := Own.new w t [a, b, c, d, e, f, x, y]
end
/-- A block with the zero value of a point. -/
def z8 : List Value := [.bool false, .slice none 0 0, .bool false, .slice none 0 0, .bool false, .slice none 0 0, .bool false, .slice none 0 0]
/-- A point: its two coordinates. -/
structure PV where
  x : FV
  y : FV
structure PV.is (a : PV) (w : World) (p q r s : Int) : Prop where
  x : a.x.is w p q
  y : a.y.is w r s
theorem PV.is.on {a : PV} {w w' : World} {p q r s : Int} (h : a.is w p q r s) (hb : Below w.heap.size w w') : a.is w' p q r s := ⟨h.x.on hb, h.y.on hb⟩
theorem PV.is.drew {a : PV} {w : World} {p q r s : Int} (h : a.is w p q r s) : a.is w.drew p q r s := ⟨h.x.drew, h.y.drew⟩
def PV.zero : PV := ⟨FV.zero, FV.zero⟩
theorem PV.zero_is (w : World) : PV.zero.is w 0 1 0 1 := ⟨FV.zero_is w, FV.zero_is w⟩
/-- The store of a point into a block that held the zero value. -/
abbrev putP (w : World) (g : Nat) (a : PV) : World :=
  (((((((w.setCell ⟨g, 0, none⟩ (.bool a.x.p.neg)).setCell ⟨g, 1, none⟩ (.slice a.x.p.A a.x.p.n a.x.p.c)).setCell ⟨g, 2, none⟩ (.bool a.x.l.neg)).setCell ⟨g, 3, none⟩ (.slice a.x.l.A a.x.l.n a.x.l.c)).setCell ⟨g, 4, none⟩ (.bool a.y.p.neg)).setCell ⟨g, 5, none⟩ (.slice a.y.p.A a.y.p.n a.y.p.c)).setCell ⟨g, 6, none⟩ (.bool a.y.l.neg)).setCell ⟨g, 7, none⟩ (.slice a.y.l.A a.y.l.n a.y.l.c)
section
variable {w w0 : World} {g : Nat} {t : TypeId} {a : PV}
theorem Own.putP (hO : Own w g t z8) : Own (putP w g a) g t [.bool a.x.p.neg, .slice a.x.p.A a.x.p.n a.x.p.c, .bool a.x.l.neg, .slice a.x.l.A a.x.l.n a.x.l.c, .bool a.y.p.neg, .slice a.y.p.A a.y.p.n a.y.p.c, .bool a.y.l.neg, .slice a.y.l.A a.y.l.n a.y.l.c] :=
  (((((((hO.set_ 0 (.bool a.x.p.neg)).set_ 1 (.slice a.x.p.A a.x.p.n a.x.p.c)).set_ 2 (.bool a.x.l.neg)).set_ 3 (.slice a.x.l.A a.x.l.n a.x.l.c)).set_ 4 (.bool a.y.p.neg)).set_ 5 (.slice a.y.p.A a.y.p.n a.y.p.c)).set_ 6 (.bool a.y.l.neg)).set_ 7 (.slice a.y.l.A a.y.l.n a.y.l.c)
theorem Own.putPfar {g' : Nat} {xs : List Value} (hO : Own w g' t xs) (hg : g' ≠ g) : Own (Proofs.YthcpaagfgkbjaaaDoor.putP w g a) g' t xs :=
  (((((((hO.far (p := ⟨g, 0, none⟩) hg _).far (p := ⟨g, 1, none⟩) hg _).far (p := ⟨g, 2, none⟩) hg _).far (p := ⟨g, 3, none⟩) hg _).far (p := ⟨g, 4, none⟩) hg _).far (p := ⟨g, 5, none⟩) hg _).far (p := ⟨g, 6, none⟩) hg _).far (p := ⟨g, 7, none⟩) hg _
theorem FV.is.putP {f : FV} {p q : Int} (h : f.is w p q) (hO : Own w g t z8) : f.is (Proofs.YthcpaagfgkbjaaaDoor.putP w g a) p q := by
  have h0 := hO.set_ 0 (.bool a.x.p.neg)
  have h1 := h0.set_ 1 (.slice a.x.p.A a.x.p.n a.x.p.c)
  have h2 := h1.set_ 2 (.bool a.x.l.neg)
  have h3 := h2.set_ 3 (.slice a.x.l.A a.x.l.n a.x.l.c)
  have h4 := h3.set_ 4 (.bool a.y.p.neg)
  have h5 := h4.set_ 5 (.slice a.y.p.A a.y.p.n a.y.p.c)
  have h6 := h5.set_ 6 (.bool a.y.l.neg)
  exact (((((((h.set hO (i := 0) rfl (by simp) _).set h0 (i := 1) rfl (by simp) _).set h1 (i := 2) rfl (by simp) _).set h2 (i := 3) rfl (by simp) _).set h3 (i := 4) rfl (by simp) _).set h4 (i := 5) rfl (by simp) _).set h5 (i := 6) rfl (by simp) _).set h6 (i := 7) rfl (by simp) _
theorem PV.is.putP {b : PV} {p q r s : Int} (h : b.is w p q r s) (hO : Own w g t z8) : b.is (Proofs.YthcpaagfgkbjaaaDoor.putP w g a) p q r s := ⟨h.x.putP hO, h.y.putP hO⟩
theorem Below.putP {B : Nat} (h : Below B w0 w) (hg : B ≤ g) : Below B w0 (Proofs.YthcpaagfgkbjaaaDoor.putP w g a) :=
  (((((((h.setCell hg _).setCell hg _).setCell hg _).setCell hg _).setCell hg _).setCell hg _).setCell hg _).setCell hg _
end
/-- A fraction is returned. -/
def RetF (w : World) (p q : Int) (e : Ending) (w' : World) : Prop := ∃ f : FV, e = .returned (.agg #[.bool f.p.neg, .slice f.p.A f.p.n f.p.c, .bool f.l.neg, .slice f.l.A f.l.n f.l.c]) ∧ Below w.heap.size w w' ∧ f.is w' p q
def RetP (w : World) (p q r s : Int) (e : Ending) (w' : World) : Prop := ∃ a : PV, e = .returned (.agg #[.bool a.x.p.neg, .slice a.x.p.A a.x.p.n a.x.p.c, .bool a.x.l.neg, .slice a.x.l.A a.x.l.n a.x.l.c, .bool a.y.p.neg, .slice a.y.p.A a.y.p.n a.y.p.c, .bool a.y.l.neg, .slice a.y.l.A a.y.l.n a.y.l.c]) ∧ Below w.heap.size w w' ∧ a.is w' p q r s
theorem put_F {w w1 : World} {g : Nat} {t : TypeId} {a b c d : Value} (hW : Below w.heap.size w w1) (hg : w.heap.size ≤ g) (hO : Own w1 g t [a, b, c, d]) (ha : ∀ n, a ≠ .int .u32 n) (hb : ∀ n, b ≠ .int .u32 n) (hc : ∀ n, c ≠ .int .u32 n) (hd : ∀ n, d ≠ .int .u32 n) {f : FV} {p q : Int} (hf : f.is w1 p q) :
    RetF w p q (.returned (.agg #[.bool f.p.neg, .slice f.p.A f.p.n f.p.c, .bool f.l.neg, .slice f.l.A f.l.n f.l.c])) ((((w1.setCell ⟨g, 0, none⟩ (.bool f.p.neg)).setCell ⟨g, 1, none⟩ (.slice f.p.A f.p.n f.p.c)).setCell ⟨g, 2, none⟩ (.bool f.l.neg)).setCell ⟨g, 3, none⟩ (.slice f.l.A f.l.n f.l.c)) :=
  ⟨f, rfl, Below.put4 hW hg _ _ _ _, hf.put4 hO ha hb hc hd _ _ _ _⟩

set_option maxRecDepth 100000 in
set_option maxHeartbeats 1600000 in
theorem whole_any (n : Int) (w : World) (n0 : -9223372036854775808 ≤ n) (n1 : n ≤ 9223372036854775807) : Calls Tryd.prog 39 #[.int .i64 n] w (RetF w n 1) := by
  go_enter Tryd.func39, Tryd.ntmps39
  have hO := Own.new4 w 29 (.bool false) (.slice none 0 0) (.bool false) (.slice none 0 0)
  have hB := below_new w (.cells #[.bool false, .slice none 0 0, .bool false, .slice none 0 0] 29)
  go_upto_region 1 with fail
  generalize w.alloc (.cells #[.bool false, .slice none 0 0, .bool false, .slice none 0 0] 29) = W at hO hB ⊢
  go_wp2_with fail
  refine (Of_any n 1 _ n0 n1 (by omega) (by omega) (by omega)).mono ?_
  rintro e w1 ⟨f, rfl, hb1, hf⟩
  rw [(mk_one n).1, (mk_one n).2] at hf
  go_upto_region 2 with fail
  have hb2 := below_new w1 (.cells #[.bool f.p.neg, .slice f.p.A f.p.n f.p.c, .bool f.l.neg, .slice f.l.A f.l.n f.l.c] 29)
  have hQ := Own.newF w1 29 f
  generalize w1.alloc (.cells #[.bool f.p.neg, .slice f.p.A f.p.n f.p.c, .bool f.l.neg, .slice f.l.A f.l.n f.l.c] 29) = w2 at hb2 hQ ⊢
  have oz := (hO.on hb1).on hb2
  have hB3 := Below.call (Below.call hB hb1) hb2
  have hf2 := hf.on hb2
  have y0 := hQ.c0
  have y1 := hQ.c1
  have y2 := hQ.c2
  have y3 := hQ.c3
  have f0 := oz.frozen 0
  have f1 := oz.frozen 1
  have f2 := oz.frozen 2
  have f3 := oz.frozen 3
  have z0 := oz.c0
  have z10 := oz.c1
  have z20 := oz.c2
  have z30 := oz.c3
  have hp := put_F hB3 (Nat.le_refl _) oz (by simp) (by simp) (by simp) (by simp) hf2
  have hO5 := oz.put4 (.bool f.p.neg) (.slice f.p.A f.p.n f.p.c) (.bool f.l.neg) (.slice f.l.A f.l.n f.l.c)
  have q0 := hO5.c0
  have q1 := hO5.c1
  have q2 := hO5.c2
  have q3 := hO5.c3
  have HP := Lib.hid hp
  clear hp hO5
  go_wp2
  exact bodyPost_ret (v := .agg #[.bool f.p.neg, .slice f.p.A f.p.n f.p.c, .bool f.l.neg, .slice f.l.A f.l.n f.l.c]) (by simp [results, Tryd.results39, go_sem, q0, q1, q2, q3]) rfl HP.out

set_option maxRecDepth 100000 in
set_option maxHeartbeats 1600000 in
theorem POf_any (x y : Int) (w : World) (x0 : -9223372036854775808 ≤ x) (x1 : x ≤ 9223372036854775807) (y0 : -9223372036854775808 ≤ y) (y1 : y ≤ 9223372036854775807) : Calls Tryd.prog 17 #[.agg #[.int .i64 x, .int .i64 y]] w (RetP w x 1 y 1) := by
  go_enter Tryd.func17, Tryd.ntmps17
  go_upto_region 1 with fail
  have hS1 := (Own.new2 w 40 (.int .i64 x) (.int .i64 y)).alloc (.cells #[.bool false, .slice none 0 0, .bool false, .slice none 0 0, .bool false, .slice none 0 0, .bool false, .slice none 0 0] 31)
  have hO : Own ((w.alloc (.cells #[.int .i64 x, .int .i64 y] 40)).alloc (.cells #[.bool false, .slice none 0 0, .bool false, .slice none 0 0, .bool false, .slice none 0 0, .bool false, .slice none 0 0] 31)) _ _ z8 := Own.new8 (w.alloc (.cells #[.int .i64 x, .int .i64 y] 40)) 31 _ _ _ _ _ _ _ _
  have hB : Below w.heap.size w ((w.alloc (.cells #[.int .i64 x, .int .i64 y] 40)).alloc (.cells #[.bool false, .slice none 0 0, .bool false, .slice none 0 0, .bool false, .slice none 0 0, .bool false, .slice none 0 0] 31)) := by go_grown
  have hgs : (w.alloc (.cells #[.int .i64 x, .int .i64 y] 40)).heap.size = w.heap.size + 1 := by simp
  rw [hgs] at hO
  clear hgs
  generalize (w.alloc (.cells #[.int .i64 x, .int .i64 y] 40)).alloc (.cells #[.bool false, .slice none 0 0, .bool false, .slice none 0 0, .bool false, .slice none 0 0, .bool false, .slice none 0 0] 31) = W at hS1 hO hB ⊢
  obtain ⟨b1, hb1⟩ : ∃ b1, b1 = w.heap.size := ⟨_, rfl⟩
  obtain ⟨b2, hb2⟩ : ∃ b2, b2 = w.heap.size + 1 := ⟨_, rfl⟩
  have hw2 : w.heap.size ≤ b2 := by omega
  have m1 : b1 ≠ b2 := by omega
  rw [← hb2] at hO ⊢
  rw [← hb1] at hS1 ⊢
  clear hb1 hb2
  go_region_held3 (fun w' => w'.cell? ⟨b1, 0, none⟩ = some (.int .i64 x) ∧ w'.cell? ⟨b1, 1, none⟩ = some (.int .i64 y))
    (first | with_reducible exact ⟨hS1.drew.c0, hS1.drew.c1⟩ | with_reducible exact ⟨hT1.c0, hT1.c1⟩ | with_reducible exact ⟨hU1.c0, hU1.c1⟩ | with_reducible exact ⟨hV1.c0, hV1.c1⟩)
    (first
      | (go_at_call_of 39 #[Value.int .i64 x]; (with_reducible refine (whole_any x _ x0 x1).mono ?_); rintro e w1 ⟨fx, rfl, k1', hfx⟩; have k1 := Below.of_drew k1'; have hT1 := hS1.on k1; have hT2 := hO.on k1; have hB1 := Below.call hB k1)
      | (go_at_call_of 39 #[Value.int .i64 y]; (with_reducible refine (whole_any y _ y0 y1).mono ?_); rintro e w2 ⟨fy, rfl, k2, hfy⟩; have hU1 := hT1.on k2; have hU2 := hT2.on k2; have hB2 := Below.call hB1 k2; have hfx2 := hfx.on k2; have z0 := hU2.c0; have z10 := hU2.c1; have z20 := hU2.c2; have z30 := hU2.c3; have z40 := hU2.c4; have z50 := hU2.c5; have z60 := hU2.c6; have z70 := hU2.c7; have f0 := hU2.frozen 0; have f1 := hU2.frozen 1; have f2 := hU2.frozen 2; have f3 := hU2.frozen 3; have f4 := hU2.frozen 4; have f5 := hU2.frozen 5; have f6 := hU2.frozen 6; have f7 := hU2.frozen 7; have hV1 := hU1.putPfar (a := ⟨fx, fy⟩) m1))
  have hp : RetP w x 1 y 1 (.returned (.agg #[.bool (⟨fx, fy⟩ : PV).x.p.neg, .slice (⟨fx, fy⟩ : PV).x.p.A (⟨fx, fy⟩ : PV).x.p.n (⟨fx, fy⟩ : PV).x.p.c, .bool (⟨fx, fy⟩ : PV).x.l.neg, .slice (⟨fx, fy⟩ : PV).x.l.A (⟨fx, fy⟩ : PV).x.l.n (⟨fx, fy⟩ : PV).x.l.c, .bool (⟨fx, fy⟩ : PV).y.p.neg, .slice (⟨fx, fy⟩ : PV).y.p.A (⟨fx, fy⟩ : PV).y.p.n (⟨fx, fy⟩ : PV).y.p.c, .bool (⟨fx, fy⟩ : PV).y.l.neg, .slice (⟨fx, fy⟩ : PV).y.l.A (⟨fx, fy⟩ : PV).y.l.n (⟨fx, fy⟩ : PV).y.l.c])) (putP w2 b2 ⟨fx, fy⟩) := ⟨⟨fx, fy⟩, rfl, Below.putP hB2 hw2, PV.is.putP (b := ⟨fx, fy⟩) ⟨hfx2, hfy⟩ hU2⟩
  have hO5 := hU2.putP (a := ⟨fx, fy⟩)
  have q0 := hO5.c0
  have q1 := hO5.c1
  have q2 := hO5.c2
  have q3 := hO5.c3
  have q4 := hO5.c4
  have q5 := hO5.c5
  have q6 := hO5.c6
  have q7 := hO5.c7
  have HP := Lib.hid hp
  clear hp hO5 hV1
  go_wp2
  exact bodyPost_ret (v := .agg #[.bool fx.p.neg, .slice fx.p.A fx.p.n fx.p.c, .bool fx.l.neg, .slice fx.l.A fx.l.n fx.l.c, .bool fy.p.neg, .slice fy.p.A fy.p.n fy.p.c, .bool fy.l.neg, .slice fy.l.A fy.l.n fy.l.c]) (by simp [results, Tryd.results17, go_sem, q0, q1, q2, q3, q4, q5, q6, q7]) rfl HP.out
end Go.Proofs.YthcpaagfgkbjaaaDoor
