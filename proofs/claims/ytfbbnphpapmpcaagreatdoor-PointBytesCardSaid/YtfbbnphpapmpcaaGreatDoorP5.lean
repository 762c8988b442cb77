/-
  Contracts of package point: whole, Of, and what a point is.
-/
import Derived.Test.YtfbbnphpapmpcaaGreatDoorF10
namespace Go.Proofs.YtfbbnphpapmpcaaGreatDoor
open Go.RowKit Mag

theorem mk_one (n : Int) : mkP n 1 = n ∧ mkQ n 1 = 1 := by
  unfold mkP mkQ
  simp
/-- Cells that hold no word. -/
theorem IV.is.set {x : IV} {w : World} {z : Int} (h : x.is w z) {g i : Nat} {t : TypeId} {xs : List Value} {v : Value} (hO : Own w g t xs) (hi : xs[i]? = some v) (hv : ∀ n, v ≠ .int .u32 n) (u : Value) : x.is (w.setCell ⟨g, i, none⟩ u) z :=
  WI.put h ((hO.cell i).trans hi) hv u
theorem FV.is.set {f : FV} {w : World} {p q : Int} (h : f.is w p q) {g i : Nat} {t : TypeId} {xs : List Value} {v : Value} (hO : Own w g t xs) (hi : xs[i]? = some v) (hv : ∀ n, v ≠ .int .u32 n) (u : Value) : f.is (w.setCell ⟨g, i, none⟩ u) p q :=
  ⟨h.num.set hO hi hv u, h.less.set hO hi hv u, h.pos, h.fits, h.cop⟩
section
variable {w : World} {g : Nat} {t : TypeId} {a b c d e f x y : Value} {l : List Value}
theorem Own.c4 (h : Own w g t (a :: b :: c :: d :: x :: l)) : w.cell? ⟨g, 4, none⟩ = some x := h.cell 4
theorem Own.c5 (h : Own w g t (a :: b :: c :: d :: e :: x :: l)) : w.cell? ⟨g, 5, none⟩ = some x := h.cell 5
theorem Own.c6 (h : Own w g t (a :: b :: c :: d :: e :: f :: x :: l)) : w.cell? ⟨g, 6, none⟩ = some x := h.cell 6
theorem Own.c7 (h : Own w g t (a :: b :: c :: d :: e :: f :: y :: x :: l)) : w.cell? ⟨g, 7, none⟩ = some x := h.cell 7
theorem Own.new8 (w : World) (t : TypeId) (a b c d e f x y : Value) : Own (w.alloc (.cells #[a, b, c, d, e, f, x, y] t)) w.heap.size t [a, b, c, d, e, f, x, y] := Own.new w t [a, b, c, d, e, f, x, y]
end
/-- A block with the zero value of a point. -/
def z8 : List Value := [.bool false, .slice none 0 0, .bool false, .slice none 0 0, .bool false, .slice none 0 0, .bool false, .slice none 0 0]
/-- A point: its two coordinates. -/
structure PV where
  x : FV
  y : FV
structure PV.is (a : PV) (w : World) (p q r s : Int) : Prop where
  x : a.x.is w p q
  y : a.y.is w r s
theorem PV.is.on {a : PV} {w w' : World} {p q r s : Int} (h : a.is w p q r s) (hb : Below w.heap.size w w') : a.is w' p q r s := ⟨h.x.on hb, h.y.on hb⟩
theorem PV.is.drew {a : PV} {w : World} {p q r s : Int} (h : a.is w p q r s) : a.is w.drew p q r s := ⟨h.x.drew, h.y.drew⟩
def PV.zero : PV := ⟨FV.zero, FV.zero⟩
theorem PV.zero_is (w : World) : PV.zero.is w 0 1 0 1 := ⟨FV.zero_is w, FV.zero_is w⟩
/-- The store of a point into a block that held the zero value. -/
abbrev putP (w : World) (g : Nat) (a : PV) : World :=
  (((((((w.setCell ⟨g, 0, none⟩ (.bool a.x.p.neg)).setCell ⟨g, 1, none⟩ (.slice a.x.p.A a.x.p.n a.x.p.c)).setCell ⟨g, 2, none⟩ (.bool a.x.l.neg)).setCell ⟨g, 3, none⟩ (.slice a.x.l.A a.x.l.n a.x.l.c)).setCell ⟨g, 4, none⟩ (.bool a.y.p.neg)).setCell ⟨g, 5, none⟩ (.slice a.y.p.A a.y.p.n a.y.p.c)).setCell ⟨g, 6, none⟩ (.bool a.y.l.neg)).setCell ⟨g, 7, none⟩ (.slice a.y.l.A a.y.l.n a.y.l.c)
section
variable {w w0 : World} {g : Nat} {t : TypeId} {a : PV}
theorem Own.putP (hO : Own w g t z8) : Own (putP w g a) g t [.bool a.x.p.neg, .slice a.x.p.A a.x.p.n a.x.p.c, .bool a.x.l.neg, .slice a.x.l.A a.x.l.n a.x.l.c, .bool a.y.p.neg, .slice a.y.p.A a.y.p.n a.y.p.c, .bool a.y.l.neg, .slice a.y.l.A a.y.l.n a.y.l.c] :=
  (((((((hO.set_ 0 (.bool a.x.p.neg)).set_ 1 (.slice a.x.p.A a.x.p.n a.x.p.c)).set_ 2 (.bool a.x.l.neg)).set_ 3 (.slice a.x.l.A a.x.l.n a.x.l.c)).set_ 4 (.bool a.y.p.neg)).set_ 5 (.slice a.y.p.A a.y.p.n a.y.p.c)).set_ 6 (.bool a.y.l.neg)).set_ 7 (.slice a.y.l.A a.y.l.n a.y.l.c)
theorem Own.putPfar {g' : Nat} {xs : List Value} (hO : Own w g' t xs) (hg : g' ≠ g) : Own (Proofs.YtfbbnphpapmpcaaGreatDoor.putP w g a) g' t xs :=
  (((((((hO.far (p := ⟨g, 0, none⟩) hg _).far (p := ⟨g, 1, none⟩) hg _).far (p := ⟨g, 2, none⟩) hg _).far (p := ⟨g, 3, none⟩) hg _).far (p := ⟨g, 4, none⟩) hg _).far (p := ⟨g, 5, none⟩) hg _).far (p := ⟨g, 6, none⟩) hg _).far (p := ⟨g, 7, none⟩) hg _
theorem FV.is.putP {f : FV} {p q : Int} (h : f.is w p q) (hO : Own w g t z8) : f.is (Proofs.YtfbbnphpapmpcaaGreatDoor.putP w g a) p q := by
  have h0 := hO.set_ 0 (.bool a.x.p.neg)
  have h1 := h0.set_ 1 (.slice a.x.p.A a.x.p.n a.x.p.c)
  have h2 := h1.set_ 2 (.bool a.x.l.neg)
  have h3 := h2.set_ 3 (.slice a.x.l.A a.x.l.n a.x.l.c)
  have h4 := h3.set_ 4 (.bool a.y.p.neg)
  have h5 := h4.set_ 5 (.slice a.y.p.A a.y.p.n a.y.p.c)
  have h6 := h5.set_ 6 (.bool a.y.l.neg)
  exact (((((((h.set hO (i := 0) rfl (by simp) _).set h0 (i := 1) rfl (by simp) _).set h1 (i := 2) rfl (by simp) _).set h2 (i := 3) rfl (by simp) _).set h3 (i := 4) rfl (by simp) _).set h4 (i := 5) rfl (by simp) _).set h5 (i := 6) rfl (by simp) _).set h6 (i := 7) rfl (by simp) _
theorem PV.is.putP {b : PV} {p q r s : Int} (h : b.is w p q r s) (hO : Own w g t z8) : b.is (Proofs.YtfbbnphpapmpcaaGreatDoor.putP w g a) p q r s := ⟨h.x.putP hO, h.y.putP hO⟩
theorem Below.putP {B : Nat} (h : Below B w0 w) (hg : B ≤ g) : Below B w0 (Proofs.YtfbbnphpapmpcaaGreatDoor.putP w g a) :=
  (((((((h.setCell hg _).setCell hg _).setCell hg _).setCell hg _).setCell hg _).setCell hg _).setCell hg _).setCell hg _
end
/-- A fraction is returned. -/
def RetF (w : World) (p q : Int) (e : Ending) (w' : World) : Prop := ∃ f : FV, e = .returned (.agg #[.bool f.p.neg, .slice f.p.A f.p.n f.p.c, .bool f.l.neg, .slice f.l.A f.l.n f.l.c]) ∧ Below w.heap.size w w' ∧ f.is w' p q
def RetP (w : World) (p q r s : Int) (e : Ending) (w' : World) : Prop := ∃ a : PV, e = .returned (.agg #[.bool a.x.p.neg, .slice a.x.p.A a.x.p.n a.x.p.c, .bool a.x.l.neg, .slice a.x.l.A a.x.l.n a.x.l.c, .bool a.y.p.neg, .slice a.y.p.A a.y.p.n a.y.p.c, .bool a.y.l.neg, .slice a.y.l.A a.y.l.n a.y.l.c]) ∧ Below w.heap.size w w' ∧ a.is w' p q r s
theorem put_F {w w1 : World} {g : Nat} {t : TypeId} {a b c d : Value} (hW : Below w.heap.size w w1) (hg : w.heap.size ≤ g) (hO : Own w1 g t [a, b, c, d]) (ha : ∀ n, a ≠ .int .u32 n) (hb : ∀ n, b ≠ .int .u32 n) (hc : ∀ n, c ≠ .int .u32 n) (hd : ∀ n, d ≠ .int .u32 n) {f : FV} {p q : Int} (hf : f.is w1 p q) :
    RetF w p q (.returned (.agg #[.bool f.p.neg, .slice f.p.A f.p.n f.p.c, .bool f.l.neg, .slice f.l.A f.l.n f.l.c])) ((((w1.setCell ⟨g, 0, none⟩ (.bool f.p.neg)).setCell ⟨g, 1, none⟩ (.slice f.p.A f.p.n f.p.c)).setCell ⟨g, 2, none⟩ (.bool f.l.neg)).setCell ⟨g, 3, none⟩ (.slice f.l.A f.l.n f.l.c)) :=
  ⟨f, rfl, Below.put4 hW hg _ _ _ _, hf.put4 hO ha hb hc hd _ _ _ _⟩

set_option maxRecDepth 100000 in
set_option maxHeartbeats 1600000 in
theorem whole_any (n : Int) (w : World) (n0 : -9223372036854775808 ≤ n) (n1 : n ≤ 9223372036854775807) : Calls Tryz.prog 46 #[.int .i64 n] w (RetF w n 1) := by
  go_enter Tryz.func46, Tryz.ntmps46
  have hO := Own.new4 w 31 (.bool false) (.slice none 0 0) (.bool false) (.slice none 0 0)
  have hB := below_new w (.cells #[.bool false, .slice none 0 0, .bool false, .slice none 0 0] 31)
  go_upto_region 1 with fail
  generalize w.alloc (.cells #[.bool false, .slice none 0 0, .bool false, .slice none 0 0] 31) = W at hO hB ⊢
  go_wp2_with fail
  refine (Of_any n 1 _ n0 n1 (by omega) (by omega) (by omega)).mono ?_
  rintro e w1 ⟨f, rfl, hb1, hf⟩
  rw [(mk_one n).1, (mk_one n).2] at hf
  go_upto_region 2 with fail
  have hb2 := below_new w1 (.cells #[.bool f.p.neg, .slice f.p.A f.p.n f.p.c, .bool f.l.neg, .slice f.l.A f.l.n f.l.c] 31)
  have hQ := Own.newF w1 31 f
  generalize w1.alloc (.cells #[.bool f.p.neg, .slice f.p.A f.p.n f.p.c, .bool f.l.neg, .slice f.l.A f.l.n f.l.c] 31) = w2 at hb2 hQ ⊢
  have oz := (hO.on hb1).on hb2
  have hB3 := Below.call (Below.call hB hb1) hb2
  have hf2 := hf.on hb2
  have y0 := hQ.c0
  have y1 := hQ.c1
  have y2 := hQ.c2
  have y3 := hQ.c3
  have f0 := oz.frozen 0
  have f1 := oz.frozen 1
  have f2 := oz.frozen 2
  have f3 := oz.frozen 3
  have z0 := oz.c0
  have z10 := oz.c1
  have z20 := oz.c2
  have z30 := oz.c3
  have hp := put_F hB3 (Nat.le_refl _) oz (by simp) (by simp) (by simp) (by simp) hf2
  have hO5 := oz.put4 (.bool f.p.neg) (.slice f.p.A f.p.n f.p.c) (.bool f.l.neg) (.slice f.l.A f.l.n f.l.c)
  have q0 := hO5.c0
  have q1 := hO5.c1
  have q2 := hO5.c2
  have q3 := hO5.c3
  have HP := Lib.hid hp
  clear hp hO5
  go_wp2
  exact bodyPost_ret (v := .agg #[.bool f.p.neg, .slice f.p.A f.p.n f.p.c, .bool f.l.neg, .slice f.l.A f.l.n f.l.c]) (by simp [results, Tryz.results46, go_sem, q0, q1, q2, q3]) rfl HP.out

set_option maxRecDepth 100000 in
set_option maxHeartbeats 1600000 in
theorem POf_any (x y : Int) (w : World) (x0 : -9223372036854775808 ≤ x) (x1 : x ≤ 9223372036854775807) (y0 : -9223372036854775808 ≤ y) (y1 : y ≤ 9223372036854775807) : Calls Tryz.prog 26 #[.agg #[.int .i64 x, .int .i64 y]] w (RetP w x 1 y 1) := by
  go_enter Tryz.func26, Tryz.ntmps26
  go_upto_region 1 with fail
  have hS1 := (Own.new2 w 55 (.int .i64 x) (.int .i64 y)).alloc (.cells #[.bool false, .slice none 0 0, .bool false, .slice none 0 0, .bool false, .slice none 0 0, .bool false, .slice none 0 0] 33)
  have hO : Own ((w.alloc (.cells #[.int .i64 x, .int .i64 y] 55)).alloc (.cells #[.bool false, .slice none 0 0, .bool false, .slice none 0 0, .bool false, .slice none 0 0, .bool false, .slice none 0 0] 33)) _ _ z8 := Own.new8 (w.alloc (.cells #[.int .i64 x, .int .i64 y] 55)) 33 _ _ _ _ _ _ _ _
  have hB : Below w.heap.size w ((w.alloc (.cells #[.int .i64 x, .int .i64 y] 55)).alloc (.cells #[.bool false, .slice none 0 0, .bool false, .slice none 0 0, .bool false, .slice none 0 0, .bool false, .slice none 0 0] 33)) := by go_grown
  have hgs : (w.alloc (.cells #[.int .i64 x, .int .i64 y] 55)).heap.size = w.heap.size + 1 := by simp
  rw [hgs] at hO
  clear hgs
  generalize (w.alloc (.cells #[.int .i64 x, .int .i64 y] 55)).alloc (.cells #[.bool false, .slice none 0 0, .bool false, .slice none 0 0, .bool false, .slice none 0 0, .bool false, .slice none 0 0] 33) = W at hS1 hO hB ⊢
  obtain ⟨b1, hb1⟩ : ∃ b1, b1 = w.heap.size := ⟨_, rfl⟩
  obtain ⟨b2, hb2⟩ : ∃ b2, b2 = w.heap.size + 1 := ⟨_, rfl⟩
  have hw2 : w.heap.size ≤ b2 := by omega
  have m1 : b1 ≠ b2 := by omega
  rw [← hb2] at hO ⊢
  rw [← hb1] at hS1 ⊢
  clear hb1 hb2
  go_region_held3 (fun w' => w'.cell? ⟨b1, 0, none⟩ = some (.int .i64 x) ∧ w'.cell? ⟨b1, 1, none⟩ = some (.int .i64 y))
    (first | with_reducible exact ⟨hS1.drew.c0, hS1.drew.c1⟩ | with_reducible exact ⟨hT1.c0, hT1.c1⟩ | with_reducible exact ⟨hU1.c0, hU1.c1⟩ | with_reducible exact ⟨hV1.c0, hV1.c1⟩)
    (first
      | (go_at_call_of 46 #[Value.int .i64 x]; (with_reducible refine (whole_any x _ x0 x1).mono ?_); rintro e w1 ⟨fx, rfl, k1', hfx⟩; have k1 := Below.of_drew k1'; have hT1 := hS1.on k1; have hT2 := hO.on k1; have hB1 := Below.call hB k1)
      | (go_at_call_of 46 #[Value.int .i64 y]; (with_reducible refine (whole_any y _ y0 y1).mono ?_); rintro e w2 ⟨fy, rfl, k2, hfy⟩; have hU1 := hT1.on k2; have hU2 := hT2.on k2; have hB2 := Below.call hB1 k2; have hfx2 := hfx.on k2; have z0 := hU2.c0; have z10 := hU2.c1; have z20 := hU2.c2; have z30 := hU2.c3; have z40 := hU2.c4; have z50 := hU2.c5; have z60 := hU2.c6; have z70 := hU2.c7; have f0 := hU2.frozen 0; have f1 := hU2.frozen 1; have f2 := hU2.frozen 2; have f3 := hU2.frozen 3; have f4 := hU2.frozen 4; have f5 := hU2.frozen 5; have f6 := hU2.frozen 6; have f7 := hU2.frozen 7; have hV1 := hU1.putPfar (a := ⟨fx, fy⟩) m1))
  have hp : RetP w x 1 y 1 (.returned (.agg #[.bool (⟨fx, fy⟩ : PV).x.p.neg, .slice (⟨fx, fy⟩ : PV).x.p.A (⟨fx, fy⟩ : PV).x.p.n (⟨fx, fy⟩ : PV).x.p.c, .bool (⟨fx, fy⟩ : PV).x.l.neg, .slice (⟨fx, fy⟩ : PV).x.l.A (⟨fx, fy⟩ : PV).x.l.n (⟨fx, fy⟩ : PV).x.l.c, .bool (⟨fx, fy⟩ : PV).y.p.neg, .slice (⟨fx, fy⟩ : PV).y.p.A (⟨fx, fy⟩ : PV).y.p.n (⟨fx, fy⟩ : PV).y.p.c, .bool (⟨fx, fy⟩ : PV).y.l.neg, .slice (⟨fx, fy⟩ : PV).y.l.A (⟨fx, fy⟩ : PV).y.l.n (⟨fx, fy⟩ : PV).y.l.c])) (putP w2 b2 ⟨fx, fy⟩) := ⟨⟨fx, fy⟩, rfl, Below.putP hB2 hw2, PV.is.putP (b := ⟨fx, fy⟩) ⟨hfx2, hfy⟩ hU2⟩
  have hO5 := hU2.putP (a := ⟨fx, fy⟩)
  have q0 := hO5.c0
  have q1 := hO5.c1
  have q2 := hO5.c2
  have q3 := hO5.c3
  have q4 := hO5.c4
  have q5 := hO5.c5
  have q6 := hO5.c6
  have q7 := hO5.c7
  have HP := Lib.hid hp
  clear hp hO5 hV1
  go_wp2
  exact bodyPost_ret (v := .agg #[.bool fx.p.neg, .slice fx.p.A fx.p.n fx.p.c, .bool fx.l.neg, .slice fx.l.A fx.l.n fx.l.c, .bool fy.p.neg, .slice fy.p.A fy.p.n fy.p.c, .bool fy.l.neg, .slice fy.l.A fy.l.n fy.l.c]) (by simp [results, Tryz.results26, go_sem, q0, q1, q2, q3, q4, q5, q6, q7]) rfl HP.out
end Go.Proofs.YtfbbnphpapmpcaaGreatDoor

/-
  (second part)
-/
namespace Go.Proofs.YtfbbnphpapmpcaaGreatDoor
open Go.RowKit Mag

theorem cmpI_le {x y : Int} : (cmpI x y ≤ 0) ↔ x ≤ y := by
  rcases Int.lt_trichotomy x y with h | h | h
  · rw [cmpI_lt h]; omega
  · rw [cmpI_eq h]; omega
  · rw [cmpI_gt h]; omega
def RetB (w : World) (b : Bool) (e : Ending) (w' : World) : Prop := e = .returned (.bool b) ∧ Below w.heap.size w w'
set_option maxRecDepth 100000 in
theorem within_int (lo x hi : Int) (w : World) : Calls Tryz.prog 75 #[.int .i64 lo, .int .i64 x, .int .i64 hi, .func (.func 76) #[] #[]] w (RetB w (decide (lo ≤ x) && decide (x ≤ hi))) := by
  by_cases h : lo ≤ x
  · have h1 : decide (cmpI lo x ≤ 0) = true := by simp [cmpI_le, h]
    have h2 : decide (cmpI x hi ≤ 0) = (decide (lo ≤ x) && decide (x ≤ hi)) := by simp [cmpI_le, h]
    clear h
    go_enter Tryz.func75, Tryz.ntmps75
    go_wp2_with fail
    refine (cmp_int lo x _).mono ?_
    rintro e w1 ⟨rfl, rfl⟩
    go_wp2_with fail
    refine (cmp_int x hi _).mono ?_
    rintro e w1 ⟨rfl, rfl⟩
    go_wp2
    go_returns
    exact ⟨by simp, by go_grown⟩
  · have h1 : decide (cmpI lo x ≤ 0) = false := by simp [cmpI_le]; omega
    have h2 : (decide (lo ≤ x) && decide (x ≤ hi)) = false := by simp; omega

    go_enter Tryz.func75, Tryz.ntmps75
    go_wp2_with fail
    refine (cmp_int lo x _).mono ?_
    rintro e w1 ⟨rfl, rfl⟩
    go_wp2
    go_returns
    exact ⟨by simp; omega, by go_grown⟩
/-- A coordinate within the limits. -/
def goodC (n : Int) : Bool := decide (-1073741824 ≤ n) && decide (n ≤ 1073741824)
def goodV (x y : Int) : Int := if goodC x && goodC y then 0 else 5
set_option maxRecDepth 100000 in
theorem index2_0 (x y : Value) (w : World) : (Instr.index 126 (.agg #[x, y]) (.int .i64 0)).run Tryz.prog w = .ok x w := by kernel_rfl
theorem index2_1 (x y : Value) (w : World) : (Instr.index 126 (.agg #[x, y]) (.int .i64 1)).run Tryz.prog w = .ok y w := by kernel_rfl
theorem within_good (x : Int) (w : World) : Calls Tryz.prog 75 #[.int .i64 (-1073741824), .int .i64 x, .int .i64 1073741824, .func (.func 76) #[] #[]] w (RetB w (goodC x)) := within_int _ _ _ _
set_option maxRecDepth 100000 in
theorem PValid_any (x y : Int) (w : World) : Calls Tryz.prog 48 #[.agg #[.int .i64 x, .int .i64 y]] w (RetInt w (goodV x y)) := by
  go_enter Tryz.func48, Tryz.ntmps48
  go_wp2_with fail
  have hb0 := below_new w (.cells #[.int .i64 x, .int .i64 y] 55)
  generalize w.alloc (.cells #[.int .i64 x, .int .i64 y] 55) = W at hb0 ⊢
  go_loopw [10] (fun i wr => ∃ k : Nat, k ≤ 2 ∧ i = .int .i64 k ∧ Hid ((0 < k → goodC x = true) ∧ (1 < k → goodC y = true)) ∧ Below w.heap.size w wr) (fun i _ => 2 - (intOf i).toNat)
  case atStart => exact ⟨0, by omega, rfl, Lib.hid ⟨by omega, by omega⟩, hb0⟩
  case round =>
    obtain ⟨k, hk, rfl, hg, hb⟩ := hrel
    rcases (by omega : k = 0 ∨ k = 1 ∨ k = 2) with rfl | rfl | rfl
    · have hix := index2_0 (.int .i64 x) (.int .i64 y)
      go_wp2_with fail
      refine (within_good x _).mono ?_
      rintro e w1 ⟨rfl, hb1⟩
      have hb2 := Below.call hb hb1
      by_cases hc : goodC x = true
      · rw [hc]
        have HC := Lib.hid hc
        clear hc
        go_wp2_with fail
        go_roundw
        case rel => exact ⟨1, by omega, rfl, Lib.hid ⟨by intro _; exact HC.out, by omega⟩, hb2⟩
        case measure => simp [intOf]
      · have hc2 : goodC x = false := by simpa using hc
        rw [hc2]
        have hv : goodV x y = 5 := by simp [goodV, hc2]
        have HV := Lib.hid hv
        clear hc hc2 hv
        go_wp2
        go_returns
        exact ⟨by rw [HV.out]; simp, hb2⟩
    · have hix := index2_1 (.int .i64 x) (.int .i64 y)
      go_wp2_with fail
      refine (within_good y _).mono ?_
      rintro e w1 ⟨rfl, hb1⟩
      have hb2 := Below.call hb hb1
      by_cases hc : goodC y = true
      · rw [hc]
        have HC := Lib.hid hc
        clear hc
        go_wp2_with fail
        go_roundw
        case rel => exact ⟨2, by omega, rfl, Lib.hid ⟨by intro _; exact hg.out.1 (by omega), by intro _; exact HC.out⟩, hb2⟩
        case measure => simp [intOf]
      · have hc2 : goodC y = false := by simpa using hc
        rw [hc2]
        have hv : goodV x y = 5 := by simp [goodV, hc2]
        have HV := Lib.hid hv
        clear hc hc2 hv
        go_wp2
        go_returns
        exact ⟨by rw [HV.out]; simp, hb2⟩
    · have hv : goodV x y = 0 := by simp [goodV, hg.out.1 (by omega), hg.out.2 (by omega)]
      have HV := Lib.hid hv
      clear hv
      go_wp2
      go_returns
      exact ⟨by rw [HV.out]; simp, hb⟩
end Go.Proofs.YtfbbnphpapmpcaaGreatDoor

/-
  (second part)
-/
namespace Go.Proofs.YtfbbnphpapmpcaaGreatDoor
open Go.RowKit Mag

theorem goodV_cases (x y : Int) : goodV x y = 0 ∨ goodV x y = 5 := by
  unfold goodV
  split
  · exact .inl rfl
  · exact .inr rfl
def goodB (a b c d : Int) : Int := if goodV a b = 0 ∧ goodV c d = 0 ∧ a ≤ c ∧ b ≤ d then 0 else 5
theorem Own.newB (w : World) (t : TypeId) (a b c d : Int) : Own (w.alloc (.cells #[.int .i64 a, .int .i64 b, .int .i64 c, .int .i64 d] t)) w.heap.size t [.int .i64 a, .int .i64 b, .int .i64 c, .int .i64 d] := Own.new w t [.int .i64 a, .int .i64 b, .int .i64 c, .int .i64 d]
end Go.Proofs.YtfbbnphpapmpcaaGreatDoor

/-
  (second part)
-/
namespace Go.Proofs.YtfbbnphpapmpcaaGreatDoor
open Go.RowKit Mag

def orI (a b : Int) : Int := if a = 0 then b else a
set_option maxRecDepth 100000 in
theorem or_int {a b : Int} {g : Nat} {t : TypeId} {w : World} (hO : Own w g t [.int .i64 a, .int .i64 b]) : Calls Tryz.prog 21 #[.slice (some ⟨g, 0, none⟩) 2 2] w (RetInt w (orI a b)) := by
  go_enter Tryz.func21, Tryz.ntmps21
  have e0 := hO.c0
  have e1 := hO.c1
  go_wp2_with fail
  go_loopw [8] (fun i wr => ∃ k : Nat, k ≤ 2 ∧ i = .int .i64 k ∧ Hid ((0 < k → a = 0) ∧ (1 < k → b = 0)) ∧ Below w.heap.size w wr) (fun i _ => 2 - (intOf i).toNat)
  case atStart => exact ⟨0, by omega, rfl, Lib.hid ⟨by omega, by omega⟩, Below.refl _ _⟩
  case round =>
    obtain ⟨k, hk, rfl, hg, hb⟩ := hrel
    have hO1 := hO.on hb
    have c0 := hO1.c0
    have c1 := hO1.c1
    clear e0 e1
    rcases (by omega : k = 0 ∨ k = 1 ∨ k = 2) with rfl | rfl | rfl
    · by_cases hc : a = 0
      · have hd : (a != 0) = false := by simp [hc]
        have HC := Lib.hid hc
        clear hc
        go_wp2_with fail
        go_roundw
        case rel => exact ⟨1, by omega, rfl, Lib.hid ⟨by intro _; exact HC.out, by omega⟩, hb⟩
        case measure => simp [intOf]
      · have hd : (a != 0) = true := by simp [hc]
        have hv : orI a b = a := if_neg hc
        have HV := Lib.hid hv
        clear hc hv
        go_wp2
        go_returns
        exact ⟨by rw [HV.out]; simp, hb⟩
    · by_cases hc : b = 0
      · have hd : (b != 0) = false := by simp [hc]
        have HC := Lib.hid hc
        clear hc
        go_wp2_with fail
        go_roundw
        case rel => exact ⟨2, by omega, rfl, Lib.hid ⟨by intro _; exact hg.out.1 (by omega), by intro _; exact HC.out⟩, hb⟩
        case measure => simp [intOf]
      · have hd : (b != 0) = true := by simp [hc]
        have hv : orI a b = b := if_pos (hg.out.1 (by omega))
        have HV := Lib.hid hv
        clear hc hv
        go_wp2
        go_returns
        exact ⟨by rw [HV.out]; simp, hb⟩
    · have hv : orI a b = 0 := by rw [orI, if_pos (hg.out.1 (by omega))]; exact hg.out.2 (by omega)
      have HV := Lib.hid hv
      clear hv
      go_wp2
      go_returns
      exact ⟨by rw [HV.out]; simp, hb⟩

/-- The order of two points. -/
def cmpPt (p q r s p' q' r' s' : Int) : Int := orI (cmpI (p * q') (p' * q)) (cmpI (r * s') (r' * s))
theorem Own.newPt (w : World) (t : TypeId) (a : PV) : Own (w.alloc (.cells #[.bool a.x.p.neg, .slice a.x.p.A a.x.p.n a.x.p.c, .bool a.x.l.neg, .slice a.x.l.A a.x.l.n a.x.l.c, .bool a.y.p.neg, .slice a.y.p.A a.y.p.n a.y.p.c, .bool a.y.l.neg, .slice a.y.l.A a.y.l.n a.y.l.c] t)) w.heap.size t [.bool a.x.p.neg, .slice a.x.p.A a.x.p.n a.x.p.c, .bool a.x.l.neg, .slice a.x.l.A a.x.l.n a.x.l.c, .bool a.y.p.neg, .slice a.y.p.A a.y.p.n a.y.p.c, .bool a.y.l.neg, .slice a.y.l.A a.y.l.n a.y.l.c] := Own.new w t [.bool a.x.p.neg, .slice a.x.p.A a.x.p.n a.x.p.c, .bool a.x.l.neg, .slice a.x.l.A a.x.l.n a.x.l.c, .bool a.y.p.neg, .slice a.y.p.A a.y.p.n a.y.p.c, .bool a.y.l.neg, .slice a.y.l.A a.y.l.n a.y.l.c]
set_option maxRecDepth 100000 in
set_option maxHeartbeats 1600000 in
theorem PCompare_any {a b : PV} {p q r s p' q' r' s' : Int} {w : World} (ha : a.is w p q r s) (hb : b.is w p' q' r' s') : Calls Tryz.prog 6 #[.agg #[.bool a.x.p.neg, .slice a.x.p.A a.x.p.n a.x.p.c, .bool a.x.l.neg, .slice a.x.l.A a.x.l.n a.x.l.c, .bool a.y.p.neg, .slice a.y.p.A a.y.p.n a.y.p.c, .bool a.y.l.neg, .slice a.y.l.A a.y.l.n a.y.l.c], .agg #[.bool b.x.p.neg, .slice b.x.p.A b.x.p.n b.x.p.c, .bool b.x.l.neg, .slice b.x.l.A b.x.l.n b.x.l.c, .bool b.y.p.neg, .slice b.y.p.A b.y.p.n b.y.p.c, .bool b.y.l.neg, .slice b.y.l.A b.y.l.n b.y.l.c]] w (RetInt w (cmpPt p q r s p' q' r' s')) := by
  go_enter Tryz.func6, Tryz.ntmps6
  go_upto_region 1 with fail
  have hS1 := (Own.newPt w 33 a).alloc (.cells #[.bool b.x.p.neg, .slice b.x.p.A b.x.p.n b.x.p.c, .bool b.x.l.neg, .slice b.x.l.A b.x.l.n b.x.l.c, .bool b.y.p.neg, .slice b.y.p.A b.y.p.n b.y.p.c, .bool b.y.l.neg, .slice b.y.l.A b.y.l.n b.y.l.c] 33)
  have hS2 := Own.newPt (w.alloc (.cells #[.bool a.x.p.neg, .slice a.x.p.A a.x.p.n a.x.p.c, .bool a.x.l.neg, .slice a.x.l.A a.x.l.n a.x.l.c, .bool a.y.p.neg, .slice a.y.p.A a.y.p.n a.y.p.c, .bool a.y.l.neg, .slice a.y.l.A a.y.l.n a.y.l.c] 33)) 33 b
  have hB : Below w.heap.size w ((w.alloc (.cells #[.bool a.x.p.neg, .slice a.x.p.A a.x.p.n a.x.p.c, .bool a.x.l.neg, .slice a.x.l.A a.x.l.n a.x.l.c, .bool a.y.p.neg, .slice a.y.p.A a.y.p.n a.y.p.c, .bool a.y.l.neg, .slice a.y.l.A a.y.l.n a.y.l.c] 33)).alloc (.cells #[.bool b.x.p.neg, .slice b.x.p.A b.x.p.n b.x.p.c, .bool b.x.l.neg, .slice b.x.l.A b.x.l.n b.x.l.c, .bool b.y.p.neg, .slice b.y.p.A b.y.p.n b.y.p.c, .bool b.y.l.neg, .slice b.y.l.A b.y.l.n b.y.l.c] 33)) := by go_grown
  have hgs : (w.alloc (.cells #[.bool a.x.p.neg, .slice a.x.p.A a.x.p.n a.x.p.c, .bool a.x.l.neg, .slice a.x.l.A a.x.l.n a.x.l.c, .bool a.y.p.neg, .slice a.y.p.A a.y.p.n a.y.p.c, .bool a.y.l.neg, .slice a.y.l.A a.y.l.n a.y.l.c] 33)).heap.size = w.heap.size + 1 := by simp
  rw [hgs] at hS2
  clear hgs
  generalize (w.alloc (.cells #[.bool a.x.p.neg, .slice a.x.p.A a.x.p.n a.x.p.c, .bool a.x.l.neg, .slice a.x.l.A a.x.l.n a.x.l.c, .bool a.y.p.neg, .slice a.y.p.A a.y.p.n a.y.p.c, .bool a.y.l.neg, .slice a.y.l.A a.y.l.n a.y.l.c] 33)).alloc (.cells #[.bool b.x.p.neg, .slice b.x.p.A b.x.p.n b.x.p.c, .bool b.x.l.neg, .slice b.x.l.A b.x.l.n b.x.l.c, .bool b.y.p.neg, .slice b.y.p.A b.y.p.n b.y.p.c, .bool b.y.l.neg, .slice b.y.l.A b.y.l.n b.y.l.c] 33) = W at hS1 hS2 hB ⊢
  have haW := ha.on hB
  have hbW := hb.on hB
  obtain ⟨b1, hb1⟩ : ∃ b1, b1 = w.heap.size := ⟨_, rfl⟩
  obtain ⟨b2, hb2⟩ : ∃ b2, b2 = w.heap.size + 1 := ⟨_, rfl⟩
  rw [← hb2] at hS2 ⊢
  rw [← hb1] at hS1 ⊢
  clear hb1 hb2
  go_region_held3 (fun w' => w'.cell? ⟨b1, 0, none⟩ = some (.bool a.x.p.neg) ∧ w'.cell? ⟨b1, 1, none⟩ = some (.slice a.x.p.A a.x.p.n a.x.p.c) ∧ w'.cell? ⟨b1, 2, none⟩ = some (.bool a.x.l.neg) ∧ w'.cell? ⟨b1, 3, none⟩ = some (.slice a.x.l.A a.x.l.n a.x.l.c) ∧
      w'.cell? ⟨b1, 4, none⟩ = some (.bool a.y.p.neg) ∧ w'.cell? ⟨b1, 5, none⟩ = some (.slice a.y.p.A a.y.p.n a.y.p.c) ∧ w'.cell? ⟨b1, 6, none⟩ = some (.bool a.y.l.neg) ∧ w'.cell? ⟨b1, 7, none⟩ = some (.slice a.y.l.A a.y.l.n a.y.l.c) ∧
      w'.cell? ⟨b2, 0, none⟩ = some (.bool b.x.p.neg) ∧ w'.cell? ⟨b2, 1, none⟩ = some (.slice b.x.p.A b.x.p.n b.x.p.c) ∧ w'.cell? ⟨b2, 2, none⟩ = some (.bool b.x.l.neg) ∧ w'.cell? ⟨b2, 3, none⟩ = some (.slice b.x.l.A b.x.l.n b.x.l.c) ∧
      w'.cell? ⟨b2, 4, none⟩ = some (.bool b.y.p.neg) ∧ w'.cell? ⟨b2, 5, none⟩ = some (.slice b.y.p.A b.y.p.n b.y.p.c) ∧ w'.cell? ⟨b2, 6, none⟩ = some (.bool b.y.l.neg) ∧ w'.cell? ⟨b2, 7, none⟩ = some (.slice b.y.l.A b.y.l.n b.y.l.c))
    (first | with_reducible exact ⟨hS1.drew.c0, hS1.drew.c1, hS1.drew.c2, hS1.drew.c3, hS1.drew.c4, hS1.drew.c5, hS1.drew.c6, hS1.drew.c7, hS2.drew.c0, hS2.drew.c1, hS2.drew.c2, hS2.drew.c3, hS2.drew.c4, hS2.drew.c5, hS2.drew.c6, hS2.drew.c7⟩ | with_reducible exact ⟨hT1.c0, hT1.c1, hT1.c2, hT1.c3, hT1.c4, hT1.c5, hT1.c6, hT1.c7, hT2.c0, hT2.c1, hT2.c2, hT2.c3, hT2.c4, hT2.c5, hT2.c6, hT2.c7⟩ | with_reducible exact ⟨hU1.c0, hU1.c1, hU1.c2, hU1.c3, hU1.c4, hU1.c5, hU1.c6, hU1.c7, hU2.c0, hU2.c1, hU2.c2, hU2.c3, hU2.c4, hU2.c5, hU2.c6, hU2.c7⟩ | with_reducible exact ⟨hV1.c0, hV1.c1, hV1.c2, hV1.c3, hV1.c4, hV1.c5, hV1.c6, hV1.c7, hV2.c0, hV2.c1, hV2.c2, hV2.c3, hV2.c4, hV2.c5, hV2.c6, hV2.c7⟩ | with_reducible exact ⟨hX1.c0, hX1.c1, hX1.c2, hX1.c3, hX1.c4, hX1.c5, hX1.c6, hX1.c7, hX2.c0, hX2.c1, hX2.c2, hX2.c3, hX2.c4, hX2.c5, hX2.c6, hX2.c7⟩)
    (first
      | (go_at_call 22; (with_reducible refine (Compare_frac haW.x.drew hbW.x.drew).mono ?_); rintro e w1 ⟨rfl, k1'⟩; have k1 := Below.of_drew k1'; have hT1 := hS1.on k1; have hT2 := hS2.on k1; have hB1 := Below.call hB k1; have ha1 := haW.on k1; have hb1 := hbW.on k1; generalize hz : cmpI (p * q') (p' * q) = z1; have HZ1 := Lib.hid hz; clear hz)
      | (go_at_call 22; (with_reducible refine (Compare_frac ha1.y hb1.y).mono ?_); rintro e w2 ⟨rfl, k2⟩; have hU1 := hT1.on k2; have hU2 := hT2.on k2; have hB2 := Below.call hB1 k2; generalize hz : cmpI (r * s') (r' * s) = z2; have HZ2 := Lib.hid hz; clear hz; have hN := Own.new2 w2 3 (.int .i64 z1) (.int .i64 z2); have k4 := below_new w2 (.cells #[.int .i64 z1, .int .i64 z2] 3); have hV1 := hU1.alloc (.cells #[.int .i64 z1, .int .i64 z2] 3); have hV2 := hU2.alloc (.cells #[.int .i64 z1, .int .i64 z2] 3))
      | (go_at_call 21; (with_reducible refine (or_int hN).mono ?_); rintro e w3 ⟨rfl, k3⟩; have hX1 := hV1.on k3; have hX2 := hV2.on k3; have hB3 := Below.call (Below.call hB2 k4) k3))
  have HV : Hid (cmpPt p q r s p' q' r' s' = orI z1 z2) := Lib.hid (by rw [cmpPt, HZ1.out, HZ2.out])
  clear hX1 hX2 hV1 hV2
  go_wp2
  go_returns
  exact ⟨by rw [HV.out]; simp, hB3⟩
end Go.Proofs.YtfbbnphpapmpcaaGreatDoor

/-
  (second part)
-/
namespace Go.Proofs.YtfbbnphpapmpcaaGreatDoor
open Go.RowKit Mag

/-- A number of 64 bits. -/
def in64 (z : Int) : Prop := -9223372036854775808 ≤ z ∧ z ≤ 9223372036854775807
def small (z : Int) : Bool := decide (-9223372036854775808 ≤ z) && decide (z ≤ 9223372036854775807)
def sm (z : Int) : Int := if small z then z else 0
def whOK (p q : Int) : Bool := small q && small p && decide (q = 1)
/-- Whether a point is one of the grid. -/
def whPt (p q r s : Int) : Bool := whOK p q && whOK r s && decide (goodV p r = 0)
/-- A number, or 0. -/
def pick0 (b : Bool) (x : Int) : Int := if b then x else 0
theorem pick0_t (x : Int) : pick0 true x = x := rfl
theorem pick0_f (x : Int) : pick0 false x = 0 := rfl
def RetW (w : World) (x y : Int) (b : Bool) (e : Ending) (w' : World) : Prop := e = .returned (.tuple #[.agg #[.int .i64 x, .int .i64 y], .bool b]) ∧ Below w.heap.size w w'
end Go.Proofs.YtfbbnphpapmpcaaGreatDoor
