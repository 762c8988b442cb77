/-
  Contracts of package point: Mid, where all is in range.
-/
import Derived.Test.YtfbbnphpapmpcaaGreatDoorP8
namespace Go.Proofs.YtfbbnphpapmpcaaGreatDoor
open Go.RowKit Mag

section
variable {w w0 w' : World} {g : Nat} {t : TypeId} {a b c d e f x y u0 u1 u2 u3 u4 u5 u6 u7 v : Value} {P Q R S : Int}
theorem FV.is.put8 {z : FV} (h : z.is w P Q) (hO : Own w g t [a, b, c, d, e, f, x, y]) (h0 : ∀ n, a ≠ .int .u32 n) (h1 : ∀ n, b ≠ .int .u32 n) (h2 : ∀ n, c ≠ .int .u32 n) (h3 : ∀ n, d ≠ .int .u32 n) (h4 : ∀ n, e ≠ .int .u32 n) (h5 : ∀ n, f ≠ .int .u32 n) (h6 : ∀ n, x ≠ .int .u32 n) (h7 : ∀ n, y ≠ .int .u32 n) (u0 u1 u2 u3 u4 u5 u6 u7 : Value) : z.is ((((((((w.setCell ⟨g, 0, none⟩ u0).setCell ⟨g, 1, none⟩ u1).setCell ⟨g, 2, none⟩ u2).setCell ⟨g, 3, none⟩ u3).setCell ⟨g, 4, none⟩ u4).setCell ⟨g, 5, none⟩ u5).setCell ⟨g, 6, none⟩ u6).setCell ⟨g, 7, none⟩ u7) P Q := ((((((((h.set hO (i := 0) rfl h0 u0).set (hO.set_ 0 u0) (i := 1) rfl h1 u1).set ((hO.set_ 0 u0).set_ 1 u1) (i := 2) rfl h2 u2).set (((hO.set_ 0 u0).set_ 1 u1).set_ 2 u2) (i := 3) rfl h3 u3).set ((((hO.set_ 0 u0).set_ 1 u1).set_ 2 u2).set_ 3 u3) (i := 4) rfl h4 u4).set (((((hO.set_ 0 u0).set_ 1 u1).set_ 2 u2).set_ 3 u3).set_ 4 u4) (i := 5) rfl h5 u5).set ((((((hO.set_ 0 u0).set_ 1 u1).set_ 2 u2).set_ 3 u3).set_ 4 u4).set_ 5 u5) (i := 6) rfl h6 u6).set (((((((hO.set_ 0 u0).set_ 1 u1).set_ 2 u2).set_ 3 u3).set_ 4 u4).set_ 5 u5).set_ 6 u6) (i := 7) rfl h7 u7)
theorem Own.put8 (hO : Own w g t [a, b, c, d, e, f, x, y]) (u0 u1 u2 u3 u4 u5 u6 u7 : Value) : Own ((((((((w.setCell ⟨g, 0, none⟩ u0).setCell ⟨g, 1, none⟩ u1).setCell ⟨g, 2, none⟩ u2).setCell ⟨g, 3, none⟩ u3).setCell ⟨g, 4, none⟩ u4).setCell ⟨g, 5, none⟩ u5).setCell ⟨g, 6, none⟩ u6).setCell ⟨g, 7, none⟩ u7) g t [u0, u1, u2, u3, u4, u5, u6, u7] := ((((((((hO.set_ 0 u0).set_ 1 u1).set_ 2 u2).set_ 3 u3).set_ 4 u4).set_ 5 u5).set_ 6 u6).set_ 7 u7)
theorem Below.put8 {B : Nat} (h : Below B w0 w) (hg : B ≤ g) (u0 u1 u2 u3 u4 u5 u6 u7 : Value) : Below B w0 ((((((((w.setCell ⟨g, 0, none⟩ u0).setCell ⟨g, 1, none⟩ u1).setCell ⟨g, 2, none⟩ u2).setCell ⟨g, 3, none⟩ u3).setCell ⟨g, 4, none⟩ u4).setCell ⟨g, 5, none⟩ u5).setCell ⟨g, 6, none⟩ u6).setCell ⟨g, 7, none⟩ u7) := ((((((((h.setCell hg _).setCell hg _).setCell hg _).setCell hg _).setCell hg _).setCell hg _).setCell hg _).setCell hg _)
theorem IsF.put8 (h : IsF w v P Q) (hO : Own w g t [a, b, c, d, e, f, x, y]) (h0 : ∀ n, a ≠ .int .u32 n) (h1 : ∀ n, b ≠ .int .u32 n) (h2 : ∀ n, c ≠ .int .u32 n) (h3 : ∀ n, d ≠ .int .u32 n) (h4 : ∀ n, e ≠ .int .u32 n) (h5 : ∀ n, f ≠ .int .u32 n) (h6 : ∀ n, x ≠ .int .u32 n) (h7 : ∀ n, y ≠ .int .u32 n) (u0 u1 u2 u3 u4 u5 u6 u7 : Value) : IsF ((((((((w.setCell ⟨g, 0, none⟩ u0).setCell ⟨g, 1, none⟩ u1).setCell ⟨g, 2, none⟩ u2).setCell ⟨g, 3, none⟩ u3).setCell ⟨g, 4, none⟩ u4).setCell ⟨g, 5, none⟩ u5).setCell ⟨g, 6, none⟩ u6).setCell ⟨g, 7, none⟩ u7) v P Q := by
  obtain ⟨z, e, hz⟩ := h
  exact ⟨z, e, hz.put8 hO h0 h1 h2 h3 h4 h5 h6 h7 u0 u1 u2 u3 u4 u5 u6 u7⟩
def IsP (w : World) (v : Value) (P Q R S : Int) : Prop := ∃ a, v = .agg #[.bool a.x.p.neg, .slice a.x.p.A a.x.p.n a.x.p.c, .bool a.x.l.neg, .slice a.x.l.A a.x.l.n a.x.l.c, .bool a.y.p.neg, .slice a.y.p.A a.y.p.n a.y.p.c, .bool a.y.l.neg, .slice a.y.l.A a.y.l.n a.y.l.c] ∧ PV.is a w P Q R S
theorem IsP.on (h : IsP w v P Q R S) (hb : Below w.heap.size w w') : IsP w' v P Q R S := by
  obtain ⟨a, e, ha⟩ := h
  exact ⟨a, e, ha.on hb⟩
theorem IsP.put8 (h : IsP w v P Q R S) (hO : Own w g t [a, b, c, d, e, f, x, y]) (h0 : ∀ n, a ≠ .int .u32 n) (h1 : ∀ n, b ≠ .int .u32 n) (h2 : ∀ n, c ≠ .int .u32 n) (h3 : ∀ n, d ≠ .int .u32 n) (h4 : ∀ n, e ≠ .int .u32 n) (h5 : ∀ n, f ≠ .int .u32 n) (h6 : ∀ n, x ≠ .int .u32 n) (h7 : ∀ n, y ≠ .int .u32 n) (u0 u1 u2 u3 u4 u5 u6 u7 : Value) : IsP ((((((((w.setCell ⟨g, 0, none⟩ u0).setCell ⟨g, 1, none⟩ u1).setCell ⟨g, 2, none⟩ u2).setCell ⟨g, 3, none⟩ u3).setCell ⟨g, 4, none⟩ u4).setCell ⟨g, 5, none⟩ u5).setCell ⟨g, 6, none⟩ u6).setCell ⟨g, 7, none⟩ u7) v P Q R S := by
  obtain ⟨z, e, hz⟩ := h
  exact ⟨z, e, hz.x.put8 hO h0 h1 h2 h3 h4 h5 h6 h7 u0 u1 u2 u3 u4 u5 u6 u7, hz.y.put8 hO h0 h1 h2 h3 h4 h5 h6 h7 u0 u1 u2 u3 u4 u5 u6 u7⟩
end
/-- v points to a box of eight cells in a block from W on; dn: it holds src. -/
def BoxAt8 (W w : World) (t : TypeId) (v : Value) (dn : Prop) (src : Value) : Prop :=
  ∃ g c0 c1 c2 c3 c4 c5 c6 c7, v = .pointer (some ⟨g, 0, none⟩) ∧ W.heap.size ≤ g ∧ Own w g t [c0, c1, c2, c3, c4, c5, c6, c7] ∧ (∀ n, c0 ≠ .int .u32 n) ∧ (∀ n, c1 ≠ .int .u32 n) ∧ (∀ n, c2 ≠ .int .u32 n) ∧ (∀ n, c3 ≠ .int .u32 n) ∧ (∀ n, c4 ≠ .int .u32 n) ∧ (∀ n, c5 ≠ .int .u32 n) ∧ (∀ n, c6 ≠ .int .u32 n) ∧ (∀ n, c7 ≠ .int .u32 n) ∧ (dn → src = .agg #[c0, c1, c2, c3, c4, c5, c6, c7])
section
variable {W w w' : World} {t : TypeId} {v src src' : Value} {dn dn' : Prop}
theorem BoxAt8.on (h : BoxAt8 W w t v dn src) (hb : Below w.heap.size w w') : BoxAt8 W w' t v dn src := by
  obtain ⟨g, c0, c1, c2, c3, c4, c5, c6, c7, h1, h2, h3, h4⟩ := h
  exact ⟨g, c0, c1, c2, c3, c4, c5, c6, c7, h1, h2, h3.on hb, h4⟩
theorem BoxAt8.imp (h : BoxAt8 W w t v dn src) (hd : dn' → dn) : BoxAt8 W w t v dn' src := by
  obtain ⟨g, c0, c1, c2, c3, c4, c5, c6, c7, h1, h2, h3, k0, k1, k2, k3, k4, k5, k6, k7, k8⟩ := h
  exact ⟨g, c0, c1, c2, c3, c4, c5, c6, c7, h1, h2, h3, k0, k1, k2, k3, k4, k5, k6, k7, fun x => k8 (hd x)⟩
theorem BoxAt8.resrc (h : BoxAt8 W w t v dn src) (hd : ¬ dn') : BoxAt8 W w t v dn' src' := by
  obtain ⟨g, c0, c1, c2, c3, c4, c5, c6, c7, h1, h2, h3, k0, k1, k2, k3, k4, k5, k6, k7, k8⟩ := h
  exact ⟨g, c0, c1, c2, c3, c4, c5, c6, c7, h1, h2, h3, k0, k1, k2, k3, k4, k5, k6, k7, fun x => absurd x hd⟩
theorem BoxAt8.new (hW : W.heap.size ≤ w.heap.size) (hd : ¬ dn) : BoxAt8 W (w.alloc (.cells #[.bool false, .slice none 0 0, .bool false, .slice none 0 0, .bool false, .slice none 0 0, .bool false, .slice none 0 0] t)) t (.pointer (some ⟨w.heap.size, 0, none⟩)) dn src :=
  ⟨_, _, _, _, _, _, _, _, _, rfl, hW, Own.new8 w t _ _ _ _ _ _ _ _, by simp, by simp, by simp, by simp, by simp, by simp, by simp, by simp, fun x => absurd x hd⟩
end
def IsBox8 (W w : World) (v : Value) (P Q R S : Int) : Prop := ∃ g a, v = .pointer (some ⟨g, 0, none⟩) ∧ W.heap.size ≤ g ∧ Own w g 33 [.bool a.x.p.neg, .slice a.x.p.A a.x.p.n a.x.p.c, .bool a.x.l.neg, .slice a.x.l.A a.x.l.n a.x.l.c, .bool a.y.p.neg, .slice a.y.p.A a.y.p.n a.y.p.c, .bool a.y.l.neg, .slice a.y.l.A a.y.l.n a.y.l.c] ∧ PV.is a w P Q R S
theorem IsBox8.of {W w : World} {v src : Value} {P Q R S : Int} {dn : Prop} (h : BoxAt8 W w 33 v dn src) (hd : dn) (hs : IsP w src P Q R S) : IsBox8 W w v P Q R S := by
  obtain ⟨g, c0, c1, c2, c3, c4, c5, c6, c7, h1, h2, h3, k0, k1, k2, k3, k4, k5, k6, k7, k8⟩ := h
  obtain ⟨a, e, ha⟩ := hs
  have h9 := (k8 hd).symm.trans e
  simp at h9
  obtain ⟨rfl, rfl, rfl, rfl, rfl, rfl, rfl, rfl⟩ := h9
  exact ⟨g, a, h1, h2, h3, ha⟩
theorem Mid1_b {x y : FV} {p q r s : Int} {be : Nat} {W w : World} (hx : x.is w p q) (hy : y.is w r s) (he : Own w be 46 [.int .i64 0]) (hok : midOK p q r s) (hb : Below W.heap.size W w) :
    Calls Tryz.prog 43 #[.agg #[.bool x.p.neg, .slice x.p.A x.p.n x.p.c, .bool x.l.neg, .slice x.l.A x.l.n x.l.c], .agg #[.bool y.p.neg, .slice y.p.A y.p.n y.p.c, .bool y.l.neg, .slice y.l.A y.l.n y.l.c], .pointer (some ⟨be, 0, none⟩)] w fun e w' => ∃ v : Value, e = .returned v ∧ Below W.heap.size W w' ∧ Below w.heap.size w w' ∧ IsF w' v (midP p q r s) (midQ p q r s) :=
  (Mid1_ok hx hy he hok).mono (fun _ _ ⟨f, h1, h2, h3⟩ => ⟨_, h1, Below.call hb h2, h2, f, rfl, h3⟩)
/-- What holds when the operations L of the region have come up. -/
structure MidR (L : Array Bool) (W : World) (a b : PV) (p q r s p' q' r' s' : Int) (b2 b3 b6 : Nat) (s10 s11 s12 s13 s14 s15 s16 s17 s18 s19 s20 s21 s22 s8 : Value) (w : World) : Prop where
  bel : Below W.heap.size W w
  p0 : done L 0 → s10 = .func (.func 43) #[] #[.pointer (some ⟨b6, 0, none⟩)]
  p1 : done L 1 → s11 = .pointer (some ⟨b2, 0, none⟩)
  p2 : done L 2 → s12 = .agg #[.bool a.x.p.neg, .slice a.x.p.A a.x.p.n a.x.p.c, .bool a.x.l.neg, .slice a.x.l.A a.x.l.n a.x.l.c]
  p3 : done L 3 → s13 = .pointer (some ⟨b3, 0, none⟩)
  p4 : done L 4 → s14 = .agg #[.bool b.x.p.neg, .slice b.x.p.A b.x.p.n b.x.p.c, .bool b.x.l.neg, .slice b.x.l.A b.x.l.n b.x.l.c]
  c5 : done L 5 → IsF w s15 (midP p q p' q') (midQ p q p' q')
  p6 : done L 6 → s16 = .func (.func 43) #[] #[.pointer (some ⟨b6, 0, none⟩)]
  p7 : done L 7 → s17 = .pointer (some ⟨b2, 4, none⟩)
  p8 : done L 8 → s18 = .agg #[.bool a.y.p.neg, .slice a.y.p.A a.y.p.n a.y.p.c, .bool a.y.l.neg, .slice a.y.l.A a.y.l.n a.y.l.c]
  p9 : done L 9 → s19 = .pointer (some ⟨b3, 4, none⟩)
  p10 : done L 10 → s20 = .agg #[.bool b.y.p.neg, .slice b.y.p.A b.y.p.n b.y.p.c, .bool b.y.l.neg, .slice b.y.l.A b.y.l.n b.y.l.c]
  c11 : done L 11 → IsF w s21 (midP r s r' s') (midQ r s r' s')
  c12 : done L 12 → IsP w s22 (midP p q p' q') (midQ p q p' q') (midP r s r' s') (midQ r s r' s')
  a13 : done L 13 → BoxAt8 W w 33 s8 (done L 14) s22
  e14 : done L 14 → done L 13 ∧ done L 12
theorem MidR.up {L : Array Bool} {W : World} {a b : PV} {p q r s p' q' r' s' : Int} {b2 b3 b6 : Nat} {s10 s11 s12 s13 s14 s15 s16 s17 s18 s19 s20 s21 s22 s8 : Value} {w : World} (h : MidR L W a b p q r s p' q' r' s' b2 b3 b6 s10 s11 s12 s13 s14 s15 s16 s17 s18 s19 s20 s21 s22 s8 w) {w' : World} (hb : Below w.heap.size w w') : MidR L W a b p q r s p' q' r' s' b2 b3 b6 s10 s11 s12 s13 s14 s15 s16 s17 s18 s19 s20 s21 s22 s8 w' :=
  ⟨Below.call h.bel hb, h.p0, h.p1, h.p2, h.p3, h.p4, fun d => (h.c5 d).on hb, h.p6, h.p7, h.p8, h.p9, h.p10, fun d => (h.c11 d).on hb, fun d => (h.c12 d).on hb, fun d => (h.a13 d).on hb, h.e14⟩
theorem MidR.set0 {L : Array Bool} {W : World} {a b : PV} {p q r s p' q' r' s' : Int} {b2 b3 b6 : Nat} {s10 s11 s12 s13 s14 s15 s16 s17 s18 s19 s20 s21 s22 s8 : Value} {w : World} (h : MidR L W a b p q r s p' q' r' s' b2 b3 b6 s10 s11 s12 s13 s14 s15 s16 s17 s18 s19 s20 s21 s22 s8 w) (_hk : ¬ done L 0) {v : Value} (hv : v = .func (.func 43) #[] #[.pointer (some ⟨b6, 0, none⟩)]) : MidR (L.setIfInBounds 0 true) W a b p q r s p' q' r' s' b2 b3 b6 v s11 s12 s13 s14 s15 s16 s17 s18 s19 s20 s21 s22 s8 w :=
  ⟨h.bel, fun _ => hv, fun d => h.p1 (done_set d (by decide)), fun d => h.p2 (done_set d (by decide)), fun d => h.p3 (done_set d (by decide)), fun d => h.p4 (done_set d (by decide)), fun d => h.c5 (done_set d (by decide)), fun d => h.p6 (done_set d (by decide)), fun d => h.p7 (done_set d (by decide)), fun d => h.p8 (done_set d (by decide)), fun d => h.p9 (done_set d (by decide)), fun d => h.p10 (done_set d (by decide)), fun d => h.c11 (done_set d (by decide)), fun d => h.c12 (done_set d (by decide)), fun d => (h.a13 (done_set d (by decide))).imp (fun x => done_set x (by decide)), fun d => ⟨done_up (h.e14 (done_set d (by decide))).1, done_up (h.e14 (done_set d (by decide))).2⟩⟩
theorem MidR.set1 {L : Array Bool} {W : World} {a b : PV} {p q r s p' q' r' s' : Int} {b2 b3 b6 : Nat} {s10 s11 s12 s13 s14 s15 s16 s17 s18 s19 s20 s21 s22 s8 : Value} {w : World} (h : MidR L W a b p q r s p' q' r' s' b2 b3 b6 s10 s11 s12 s13 s14 s15 s16 s17 s18 s19 s20 s21 s22 s8 w) (_hk : ¬ done L 1) {v : Value} (hv : v = .pointer (some ⟨b2, 0, none⟩)) : MidR (L.setIfInBounds 1 true) W a b p q r s p' q' r' s' b2 b3 b6 s10 v s12 s13 s14 s15 s16 s17 s18 s19 s20 s21 s22 s8 w :=
  ⟨h.bel, fun d => h.p0 (done_set d (by decide)), fun _ => hv, fun d => h.p2 (done_set d (by decide)), fun d => h.p3 (done_set d (by decide)), fun d => h.p4 (done_set d (by decide)), fun d => h.c5 (done_set d (by decide)), fun d => h.p6 (done_set d (by decide)), fun d => h.p7 (done_set d (by decide)), fun d => h.p8 (done_set d (by decide)), fun d => h.p9 (done_set d (by decide)), fun d => h.p10 (done_set d (by decide)), fun d => h.c11 (done_set d (by decide)), fun d => h.c12 (done_set d (by decide)), fun d => (h.a13 (done_set d (by decide))).imp (fun x => done_set x (by decide)), fun d => ⟨done_up (h.e14 (done_set d (by decide))).1, done_up (h.e14 (done_set d (by decide))).2⟩⟩
theorem MidR.set2 {L : Array Bool} {W : World} {a b : PV} {p q r s p' q' r' s' : Int} {b2 b3 b6 : Nat} {s10 s11 s12 s13 s14 s15 s16 s17 s18 s19 s20 s21 s22 s8 : Value} {w : World} (h : MidR L W a b p q r s p' q' r' s' b2 b3 b6 s10 s11 s12 s13 s14 s15 s16 s17 s18 s19 s20 s21 s22 s8 w) (_hk : ¬ done L 2) {v : Value} (hv : v = .agg #[.bool a.x.p.neg, .slice a.x.p.A a.x.p.n a.x.p.c, .bool a.x.l.neg, .slice a.x.l.A a.x.l.n a.x.l.c]) : MidR (L.setIfInBounds 2 true) W a b p q r s p' q' r' s' b2 b3 b6 s10 s11 v s13 s14 s15 s16 s17 s18 s19 s20 s21 s22 s8 w :=
  ⟨h.bel, fun d => h.p0 (done_set d (by decide)), fun d => h.p1 (done_set d (by decide)), fun _ => hv, fun d => h.p3 (done_set d (by decide)), fun d => h.p4 (done_set d (by decide)), fun d => h.c5 (done_set d (by decide)), fun d => h.p6 (done_set d (by decide)), fun d => h.p7 (done_set d (by decide)), fun d => h.p8 (done_set d (by decide)), fun d => h.p9 (done_set d (by decide)), fun d => h.p10 (done_set d (by decide)), fun d => h.c11 (done_set d (by decide)), fun d => h.c12 (done_set d (by decide)), fun d => (h.a13 (done_set d (by decide))).imp (fun x => done_set x (by decide)), fun d => ⟨done_up (h.e14 (done_set d (by decide))).1, done_up (h.e14 (done_set d (by decide))).2⟩⟩
theorem MidR.set3 {L : Array Bool} {W : World} {a b : PV} {p q r s p' q' r' s' : Int} {b2 b3 b6 : Nat} {s10 s11 s12 s13 s14 s15 s16 s17 s18 s19 s20 s21 s22 s8 : Value} {w : World} (h : MidR L W a b p q r s p' q' r' s' b2 b3 b6 s10 s11 s12 s13 s14 s15 s16 s17 s18 s19 s20 s21 s22 s8 w) (_hk : ¬ done L 3) {v : Value} (hv : v = .pointer (some ⟨b3, 0, none⟩)) : MidR (L.setIfInBounds 3 true) W a b p q r s p' q' r' s' b2 b3 b6 s10 s11 s12 v s14 s15 s16 s17 s18 s19 s20 s21 s22 s8 w :=
  ⟨h.bel, fun d => h.p0 (done_set d (by decide)), fun d => h.p1 (done_set d (by decide)), fun d => h.p2 (done_set d (by decide)), fun _ => hv, fun d => h.p4 (done_set d (by decide)), fun d => h.c5 (done_set d (by decide)), fun d => h.p6 (done_set d (by decide)), fun d => h.p7 (done_set d (by decide)), fun d => h.p8 (done_set d (by decide)), fun d => h.p9 (done_set d (by decide)), fun d => h.p10 (done_set d (by decide)), fun d => h.c11 (done_set d (by decide)), fun d => h.c12 (done_set d (by decide)), fun d => (h.a13 (done_set d (by decide))).imp (fun x => done_set x (by decide)), fun d => ⟨done_up (h.e14 (done_set d (by decide))).1, done_up (h.e14 (done_set d (by decide))).2⟩⟩
theorem MidR.set4 {L : Array Bool} {W : World} {a b : PV} {p q r s p' q' r' s' : Int} {b2 b3 b6 : Nat} {s10 s11 s12 s13 s14 s15 s16 s17 s18 s19 s20 s21 s22 s8 : Value} {w : World} (h : MidR L W a b p q r s p' q' r' s' b2 b3 b6 s10 s11 s12 s13 s14 s15 s16 s17 s18 s19 s20 s21 s22 s8 w) (_hk : ¬ done L 4) {v : Value} (hv : v = .agg #[.bool b.x.p.neg, .slice b.x.p.A b.x.p.n b.x.p.c, .bool b.x.l.neg, .slice b.x.l.A b.x.l.n b.x.l.c]) : MidR (L.setIfInBounds 4 true) W a b p q r s p' q' r' s' b2 b3 b6 s10 s11 s12 s13 v s15 s16 s17 s18 s19 s20 s21 s22 s8 w :=
  ⟨h.bel, fun d => h.p0 (done_set d (by decide)), fun d => h.p1 (done_set d (by decide)), fun d => h.p2 (done_set d (by decide)), fun d => h.p3 (done_set d (by decide)), fun _ => hv, fun d => h.c5 (done_set d (by decide)), fun d => h.p6 (done_set d (by decide)), fun d => h.p7 (done_set d (by decide)), fun d => h.p8 (done_set d (by decide)), fun d => h.p9 (done_set d (by decide)), fun d => h.p10 (done_set d (by decide)), fun d => h.c11 (done_set d (by decide)), fun d => h.c12 (done_set d (by decide)), fun d => (h.a13 (done_set d (by decide))).imp (fun x => done_set x (by decide)), fun d => ⟨done_up (h.e14 (done_set d (by decide))).1, done_up (h.e14 (done_set d (by decide))).2⟩⟩
theorem MidR.set5 {L : Array Bool} {W : World} {a b : PV} {p q r s p' q' r' s' : Int} {b2 b3 b6 : Nat} {s10 s11 s12 s13 s14 s15 s16 s17 s18 s19 s20 s21 s22 s8 : Value} {w : World} (h : MidR L W a b p q r s p' q' r' s' b2 b3 b6 s10 s11 s12 s13 s14 s15 s16 s17 s18 s19 s20 s21 s22 s8 w) (_hk : ¬ done L 5) {v : Value} (hv : IsF w v (midP p q p' q') (midQ p q p' q')) : MidR (L.setIfInBounds 5 true) W a b p q r s p' q' r' s' b2 b3 b6 s10 s11 s12 s13 s14 v s16 s17 s18 s19 s20 s21 s22 s8 w :=
  ⟨h.bel, fun d => h.p0 (done_set d (by decide)), fun d => h.p1 (done_set d (by decide)), fun d => h.p2 (done_set d (by decide)), fun d => h.p3 (done_set d (by decide)), fun d => h.p4 (done_set d (by decide)), fun _ => hv, fun d => h.p6 (done_set d (by decide)), fun d => h.p7 (done_set d (by decide)), fun d => h.p8 (done_set d (by decide)), fun d => h.p9 (done_set d (by decide)), fun d => h.p10 (done_set d (by decide)), fun d => h.c11 (done_set d (by decide)), fun d => h.c12 (done_set d (by decide)), fun d => (h.a13 (done_set d (by decide))).imp (fun x => done_set x (by decide)), fun d => ⟨done_up (h.e14 (done_set d (by decide))).1, done_up (h.e14 (done_set d (by decide))).2⟩⟩
theorem MidR.set6 {L : Array Bool} {W : World} {a b : PV} {p q r s p' q' r' s' : Int} {b2 b3 b6 : Nat} {s10 s11 s12 s13 s14 s15 s16 s17 s18 s19 s20 s21 s22 s8 : Value} {w : World} (h : MidR L W a b p q r s p' q' r' s' b2 b3 b6 s10 s11 s12 s13 s14 s15 s16 s17 s18 s19 s20 s21 s22 s8 w) (_hk : ¬ done L 6) {v : Value} (hv : v = .func (.func 43) #[] #[.pointer (some ⟨b6, 0, none⟩)]) : MidR (L.setIfInBounds 6 true) W a b p q r s p' q' r' s' b2 b3 b6 s10 s11 s12 s13 s14 s15 v s17 s18 s19 s20 s21 s22 s8 w :=
  ⟨h.bel, fun d => h.p0 (done_set d (by decide)), fun d => h.p1 (done_set d (by decide)), fun d => h.p2 (done_set d (by decide)), fun d => h.p3 (done_set d (by decide)), fun d => h.p4 (done_set d (by decide)), fun d => h.c5 (done_set d (by decide)), fun _ => hv, fun d => h.p7 (done_set d (by decide)), fun d => h.p8 (done_set d (by decide)), fun d => h.p9 (done_set d (by decide)), fun d => h.p10 (done_set d (by decide)), fun d => h.c11 (done_set d (by decide)), fun d => h.c12 (done_set d (by decide)), fun d => (h.a13 (done_set d (by decide))).imp (fun x => done_set x (by decide)), fun d => ⟨done_up (h.e14 (done_set d (by decide))).1, done_up (h.e14 (done_set d (by decide))).2⟩⟩
theorem MidR.set7 {L : Array Bool} {W : World} {a b : PV} {p q r s p' q' r' s' : Int} {b2 b3 b6 : Nat} {s10 s11 s12 s13 s14 s15 s16 s17 s18 s19 s20 s21 s22 s8 : Value} {w : World} (h : MidR L W a b p q r s p' q' r' s' b2 b3 b6 s10 s11 s12 s13 s14 s15 s16 s17 s18 s19 s20 s21 s22 s8 w) (_hk : ¬ done L 7) {v : Value} (hv : v = .pointer (some ⟨b2, 4, none⟩)) : MidR (L.setIfInBounds 7 true) W a b p q r s p' q' r' s' b2 b3 b6 s10 s11 s12 s13 s14 s15 s16 v s18 s19 s20 s21 s22 s8 w :=
  ⟨h.bel, fun d => h.p0 (done_set d (by decide)), fun d => h.p1 (done_set d (by decide)), fun d => h.p2 (done_set d (by decide)), fun d => h.p3 (done_set d (by decide)), fun d => h.p4 (done_set d (by decide)), fun d => h.c5 (done_set d (by decide)), fun d => h.p6 (done_set d (by decide)), fun _ => hv, fun d => h.p8 (done_set d (by decide)), fun d => h.p9 (done_set d (by decide)), fun d => h.p10 (done_set d (by decide)), fun d => h.c11 (done_set d (by decide)), fun d => h.c12 (done_set d (by decide)), fun d => (h.a13 (done_set d (by decide))).imp (fun x => done_set x (by decide)), fun d => ⟨done_up (h.e14 (done_set d (by decide))).1, done_up (h.e14 (done_set d (by decide))).2⟩⟩
theorem MidR.set8 {L : Array Bool} {W : World} {a b : PV} {p q r s p' q' r' s' : Int} {b2 b3 b6 : Nat} {s10 s11 s12 s13 s14 s15 s16 s17 s18 s19 s20 s21 s22 s8 : Value} {w : World} (h : MidR L W a b p q r s p' q' r' s' b2 b3 b6 s10 s11 s12 s13 s14 s15 s16 s17 s18 s19 s20 s21 s22 s8 w) (_hk : ¬ done L 8) {v : Value} (hv : v = .agg #[.bool a.y.p.neg, .slice a.y.p.A a.y.p.n a.y.p.c, .bool a.y.l.neg, .slice a.y.l.A a.y.l.n a.y.l.c]) : MidR (L.setIfInBounds 8 true) W a b p q r s p' q' r' s' b2 b3 b6 s10 s11 s12 s13 s14 s15 s16 s17 v s19 s20 s21 s22 s8 w :=
  ⟨h.bel, fun d => h.p0 (done_set d (by decide)), fun d => h.p1 (done_set d (by decide)), fun d => h.p2 (done_set d (by decide)), fun d => h.p3 (done_set d (by decide)), fun d => h.p4 (done_set d (by decide)), fun d => h.c5 (done_set d (by decide)), fun d => h.p6 (done_set d (by decide)), fun d => h.p7 (done_set d (by decide)), fun _ => hv, fun d => h.p9 (done_set d (by decide)), fun d => h.p10 (done_set d (by decide)), fun d => h.c11 (done_set d (by decide)), fun d => h.c12 (done_set d (by decide)), fun d => (h.a13 (done_set d (by decide))).imp (fun x => done_set x (by decide)), fun d => ⟨done_up (h.e14 (done_set d (by decide))).1, done_up (h.e14 (done_set d (by decide))).2⟩⟩
theorem MidR.set9 {L : Array Bool} {W : World} {a b : PV} {p q r s p' q' r' s' : Int} {b2 b3 b6 : Nat} {s10 s11 s12 s13 s14 s15 s16 s17 s18 s19 s20 s21 s22 s8 : Value} {w : World} (h : MidR L W a b p q r s p' q' r' s' b2 b3 b6 s10 s11 s12 s13 s14 s15 s16 s17 s18 s19 s20 s21 s22 s8 w) (_hk : ¬ done L 9) {v : Value} (hv : v = .pointer (some ⟨b3, 4, none⟩)) : MidR (L.setIfInBounds 9 true) W a b p q r s p' q' r' s' b2 b3 b6 s10 s11 s12 s13 s14 s15 s16 s17 s18 v s20 s21 s22 s8 w :=
  ⟨h.bel, fun d => h.p0 (done_set d (by decide)), fun d => h.p1 (done_set d (by decide)), fun d => h.p2 (done_set d (by decide)), fun d => h.p3 (done_set d (by decide)), fun d => h.p4 (done_set d (by decide)), fun d => h.c5 (done_set d (by decide)), fun d => h.p6 (done_set d (by decide)), fun d => h.p7 (done_set d (by decide)), fun d => h.p8 (done_set d (by decide)), fun _ => hv, fun d => h.p10 (done_set d (by decide)), fun d => h.c11 (done_set d (by decide)), fun d => h.c12 (done_set d (by decide)), fun d => (h.a13 (done_set d (by decide))).imp (fun x => done_set x (by decide)), fun d => ⟨done_up (h.e14 (done_set d (by decide))).1, done_up (h.e14 (done_set d (by decide))).2⟩⟩
theorem MidR.set10 {L : Array Bool} {W : World} {a b : PV} {p q r s p' q' r' s' : Int} {b2 b3 b6 : Nat} {s10 s11 s12 s13 s14 s15 s16 s17 s18 s19 s20 s21 s22 s8 : Value} {w : World} (h : MidR L W a b p q r s p' q' r' s' b2 b3 b6 s10 s11 s12 s13 s14 s15 s16 s17 s18 s19 s20 s21 s22 s8 w) (_hk : ¬ done L 10) {v : Value} (hv : v = .agg #[.bool b.y.p.neg, .slice b.y.p.A b.y.p.n b.y.p.c, .bool b.y.l.neg, .slice b.y.l.A b.y.l.n b.y.l.c]) : MidR (L.setIfInBounds 10 true) W a b p q r s p' q' r' s' b2 b3 b6 s10 s11 s12 s13 s14 s15 s16 s17 s18 s19 v s21 s22 s8 w :=
  ⟨h.bel, fun d => h.p0 (done_set d (by decide)), fun d => h.p1 (done_set d (by decide)), fun d => h.p2 (done_set d (by decide)), fun d => h.p3 (done_set d (by decide)), fun d => h.p4 (done_set d (by decide)), fun d => h.c5 (done_set d (by decide)), fun d => h.p6 (done_set d (by decide)), fun d => h.p7 (done_set d (by decide)), fun d => h.p8 (done_set d (by decide)), fun d => h.p9 (done_set d (by decide)), fun _ => hv, fun d => h.c11 (done_set d (by decide)), fun d => h.c12 (done_set d (by decide)), fun d => (h.a13 (done_set d (by decide))).imp (fun x => done_set x (by decide)), fun d => ⟨done_up (h.e14 (done_set d (by decide))).1, done_up (h.e14 (done_set d (by decide))).2⟩⟩
theorem MidR.set11 {L : Array Bool} {W : World} {a b : PV} {p q r s p' q' r' s' : Int} {b2 b3 b6 : Nat} {s10 s11 s12 s13 s14 s15 s16 s17 s18 s19 s20 s21 s22 s8 : Value} {w : World} (h : MidR L W a b p q r s p' q' r' s' b2 b3 b6 s10 s11 s12 s13 s14 s15 s16 s17 s18 s19 s20 s21 s22 s8 w) (_hk : ¬ done L 11) {v : Value} (hv : IsF w v (midP r s r' s') (midQ r s r' s')) : MidR (L.setIfInBounds 11 true) W a b p q r s p' q' r' s' b2 b3 b6 s10 s11 s12 s13 s14 s15 s16 s17 s18 s19 s20 v s22 s8 w :=
  ⟨h.bel, fun d => h.p0 (done_set d (by decide)), fun d => h.p1 (done_set d (by decide)), fun d => h.p2 (done_set d (by decide)), fun d => h.p3 (done_set d (by decide)), fun d => h.p4 (done_set d (by decide)), fun d => h.c5 (done_set d (by decide)), fun d => h.p6 (done_set d (by decide)), fun d => h.p7 (done_set d (by decide)), fun d => h.p8 (done_set d (by decide)), fun d => h.p9 (done_set d (by decide)), fun d => h.p10 (done_set d (by decide)), fun _ => hv, fun d => h.c12 (done_set d (by decide)), fun d => (h.a13 (done_set d (by decide))).imp (fun x => done_set x (by decide)), fun d => ⟨done_up (h.e14 (done_set d (by decide))).1, done_up (h.e14 (done_set d (by decide))).2⟩⟩
theorem MidR.set12 {L : Array Bool} {W : World} {a b : PV} {p q r s p' q' r' s' : Int} {b2 b3 b6 : Nat} {s10 s11 s12 s13 s14 s15 s16 s17 s18 s19 s20 s21 s22 s8 : Value} {w : World} (h : MidR L W a b p q r s p' q' r' s' b2 b3 b6 s10 s11 s12 s13 s14 s15 s16 s17 s18 s19 s20 s21 s22 s8 w) (hk : ¬ done L 12) {v : Value} (hv : IsP w v (midP p q p' q') (midQ p q p' q') (midP r s r' s') (midQ r s r' s')) : MidR (L.setIfInBounds 12 true) W a b p q r s p' q' r' s' b2 b3 b6 s10 s11 s12 s13 s14 s15 s16 s17 s18 s19 s20 s21 v s8 w :=
  ⟨h.bel, fun d => h.p0 (done_set d (by decide)), fun d => h.p1 (done_set d (by decide)), fun d => h.p2 (done_set d (by decide)), fun d => h.p3 (done_set d (by decide)), fun d => h.p4 (done_set d (by decide)), fun d => h.c5 (done_set d (by decide)), fun d => h.p6 (done_set d (by decide)), fun d => h.p7 (done_set d (by decide)), fun d => h.p8 (done_set d (by decide)), fun d => h.p9 (done_set d (by decide)), fun d => h.p10 (done_set d (by decide)), fun d => h.c11 (done_set d (by decide)), fun _ => hv, fun d => (h.a13 (done_set d (by decide))).resrc (fun x => hk (h.e14 (done_set x (by decide))).2), fun d => ⟨done_up (h.e14 (done_set d (by decide))).1, done_up (h.e14 (done_set d (by decide))).2⟩⟩
theorem MidR.set13 {L : Array Bool} {W : World} {a b : PV} {p q r s p' q' r' s' : Int} {b2 b3 b6 : Nat} {s10 s11 s12 s13 s14 s15 s16 s17 s18 s19 s20 s21 s22 s8 : Value} {w : World} (h : MidR L W a b p q r s p' q' r' s' b2 b3 b6 s10 s11 s12 s13 s14 s15 s16 s17 s18 s19 s20 s21 s22 s8 w) (hk : ¬ done L 13) : MidR (L.setIfInBounds 13 true) W a b p q r s p' q' r' s' b2 b3 b6 s10 s11 s12 s13 s14 s15 s16 s17 s18 s19 s20 s21 s22 (.pointer (some ⟨w.heap.size, 0, none⟩)) (w.alloc (.cells #[.bool false, .slice none 0 0, .bool false, .slice none 0 0, .bool false, .slice none 0 0, .bool false, .slice none 0 0] 33)) :=
  have h' := h.up (below_new w (.cells #[.bool false, .slice none 0 0, .bool false, .slice none 0 0, .bool false, .slice none 0 0, .bool false, .slice none 0 0] 33))
  ⟨h'.bel, fun d => h'.p0 (done_set d (by decide)), fun d => h'.p1 (done_set d (by decide)), fun d => h'.p2 (done_set d (by decide)), fun d => h'.p3 (done_set d (by decide)), fun d => h'.p4 (done_set d (by decide)), fun d => h'.c5 (done_set d (by decide)), fun d => h'.p6 (done_set d (by decide)), fun d => h'.p7 (done_set d (by decide)), fun d => h'.p8 (done_set d (by decide)), fun d => h'.p9 (done_set d (by decide)), fun d => h'.p10 (done_set d (by decide)), fun d => h'.c11 (done_set d (by decide)), fun d => h'.c12 (done_set d (by decide)), fun _ => BoxAt8.new h.bel.size (fun x => hk (h.e14 (done_set x (by decide))).1), fun d => ⟨done_up (h.e14 (done_set d (by decide))).1, done_up (h.e14 (done_set d (by decide))).2⟩⟩
theorem MidR.set14 {L : Array Bool} {W : World} {a b : PV} {p q r s p' q' r' s' : Int} {b2 b3 b6 : Nat} {s10 s11 s12 s13 s14 s15 s16 s17 s18 s19 s20 s21 s22 s8 : Value} {w : World} (h : MidR L W a b p q r s p' q' r' s' b2 b3 b6 s10 s11 s12 s13 s14 s15 s16 s17 s18 s19 s20 s21 s22 s8 w) (da : done L 13) (ds : done L 12) {x : PV} {gb : Nat} {c0 c1 c2 c3 c4 c5 c6 c7 : Value} (es : s8 = .pointer (some ⟨gb, 0, none⟩)) (ex : s22 = .agg #[.bool x.x.p.neg, .slice x.x.p.A x.x.p.n x.x.p.c, .bool x.x.l.neg, .slice x.x.l.A x.x.l.n x.x.l.c, .bool x.y.p.neg, .slice x.y.p.A x.y.p.n x.y.p.c, .bool x.y.l.neg, .slice x.y.l.A x.y.l.n x.y.l.c]) (hgb : W.heap.size ≤ gb) (hO : Own w gb 33 [c0, c1, c2, c3, c4, c5, c6, c7]) (h0 : ∀ n, c0 ≠ .int .u32 n) (h1 : ∀ n, c1 ≠ .int .u32 n) (h2 : ∀ n, c2 ≠ .int .u32 n) (h3 : ∀ n, c3 ≠ .int .u32 n) (h4 : ∀ n, c4 ≠ .int .u32 n) (h5 : ∀ n, c5 ≠ .int .u32 n) (h6 : ∀ n, c6 ≠ .int .u32 n) (h7 : ∀ n, c7 ≠ .int .u32 n) :
    MidR (L.setIfInBounds 14 true) W a b p q r s p' q' r' s' b2 b3 b6 s10 s11 s12 s13 s14 s15 s16 s17 s18 s19 s20 s21 s22 s8 ((((((((w.setCell ⟨gb, 0, none⟩ (.bool x.x.p.neg)).setCell ⟨gb, 1, none⟩ (.slice x.x.p.A x.x.p.n x.x.p.c)).setCell ⟨gb, 2, none⟩ (.bool x.x.l.neg)).setCell ⟨gb, 3, none⟩ (.slice x.x.l.A x.x.l.n x.x.l.c)).setCell ⟨gb, 4, none⟩ (.bool x.y.p.neg)).setCell ⟨gb, 5, none⟩ (.slice x.y.p.A x.y.p.n x.y.p.c)).setCell ⟨gb, 6, none⟩ (.bool x.y.l.neg)).setCell ⟨gb, 7, none⟩ (.slice x.y.l.A x.y.l.n x.y.l.c)) :=
  ⟨Below.put8 h.bel hgb _ _ _ _ _ _ _ _, fun d => h.p0 (done_set d (by decide)), fun d => h.p1 (done_set d (by decide)), fun d => h.p2 (done_set d (by decide)), fun d => h.p3 (done_set d (by decide)), fun d => h.p4 (done_set d (by decide)), fun d => (h.c5 (done_set d (by decide))).put8 hO h0 h1 h2 h3 h4 h5 h6 h7 _ _ _ _ _ _ _ _, fun d => h.p6 (done_set d (by decide)), fun d => h.p7 (done_set d (by decide)), fun d => h.p8 (done_set d (by decide)), fun d => h.p9 (done_set d (by decide)), fun d => h.p10 (done_set d (by decide)), fun d => (h.c11 (done_set d (by decide))).put8 hO h0 h1 h2 h3 h4 h5 h6 h7 _ _ _ _ _ _ _ _, fun d => (h.c12 (done_set d (by decide))).put8 hO h0 h1 h2 h3 h4 h5 h6 h7 _ _ _ _ _ _ _ _, fun _ => ⟨gb, _, _, _, _, _, _, _, _, es, hgb, hO.put8 _ _ _ _ _ _ _ _, by simp, by simp, by simp, by simp, by simp, by simp, by simp, by simp, fun _ => ex⟩, fun _ => ⟨done_up da, done_up ds⟩⟩
theorem MidR.start {W : World} {a b : PV} {p q r s p' q' r' s' : Int} {b2 b3 b6 : Nat} {s10 s11 s12 s13 s14 s15 s16 s17 s18 s19 s20 s21 s22 s8 : Value} : MidR (Array.replicate 15 false) W a b p q r s p' q' r' s' b2 b3 b6 s10 s11 s12 s13 s14 s15 s16 s17 s18 s19 s20 s21 s22 s8 W.drew :=
  ⟨Below.drew (Below.refl _ _), fun d => absurd d (done_none _ _), fun d => absurd d (done_none _ _), fun d => absurd d (done_none _ _), fun d => absurd d (done_none _ _), fun d => absurd d (done_none _ _), fun d => absurd d (done_none _ _), fun d => absurd d (done_none _ _), fun d => absurd d (done_none _ _), fun d => absurd d (done_none _ _), fun d => absurd d (done_none _ _), fun d => absurd d (done_none _ _), fun d => absurd d (done_none _ _), fun d => absurd d (done_none _ _), fun d => absurd d (done_none _ _), fun d => absurd d (done_none _ _)⟩
/-- The same of a frame. -/
def MidRJ (W : World) (a b : PV) (p q r s p' q' r' s' : Int) (b2 b3 b6 : Nat) (b4 : Nat) (L : Array Bool) (ac : Act) (wx : World) : Prop := ∃ s10 s11 s12 s13 s14 s15 s16 s17 s18 s19 s20 s21 s22 s8 : Value, ac = { tmps := #[.agg #[.bool a.x.p.neg, .slice a.x.p.A a.x.p.n a.x.p.c, .bool a.x.l.neg, .slice a.x.l.A a.x.l.n a.x.l.c, .bool a.y.p.neg, .slice a.y.p.A a.y.p.n a.y.p.c, .bool a.y.l.neg, .slice a.y.l.A a.y.l.n a.y.l.c], .agg #[.bool b.x.p.neg, .slice b.x.p.A b.x.p.n b.x.p.c, .bool b.x.l.neg, .slice b.x.l.A b.x.l.n b.x.l.c, .bool b.y.p.neg, .slice b.y.p.A b.y.p.n b.y.p.c, .bool b.y.l.neg, .slice b.y.l.A b.y.l.n b.y.l.c], .pointer (some ⟨b2, 0, none⟩), .pointer (some ⟨b3, 0, none⟩), .pointer (some ⟨b4, 0, none⟩), .int .i64 0, .pointer (some ⟨b6, 0, none⟩), .func (.func 43) #[] #[.pointer (some ⟨b6, 0, none⟩)], s8, .func (.func 43) #[] #[.pointer (some ⟨b6, 0, none⟩)], s10, s11, s12, s13, s14, s15, s16, s17, s18, s19, s20, s21, s22, undef, undef, undef, undef, undef], defers := [] } ∧ L.size = 15 ∧ MidR L W a b p q r s p' q' r' s' b2 b3 b6 s10 s11 s12 s13 s14 s15 s16 s17 s18 s19 s20 s21 s22 s8 wx

set_option maxRecDepth 100000 in
set_option maxHeartbeats 3200000 in
theorem PMid_ok {a b : PV} {p q r s p' q' r' s' : Int} {w : World} (ha : a.is w p q r s) (hb : b.is w p' q' r' s') (h1 : Hid (midOK p q p' q')) (h2 : Hid (midOK r s r' s')) :
    Calls Tryz.prog 25 #[.agg #[.bool a.x.p.neg, .slice a.x.p.A a.x.p.n a.x.p.c, .bool a.x.l.neg, .slice a.x.l.A a.x.l.n a.x.l.c, .bool a.y.p.neg, .slice a.y.p.A a.y.p.n a.y.p.c, .bool a.y.l.neg, .slice a.y.l.A a.y.l.n a.y.l.c], .agg #[.bool b.x.p.neg, .slice b.x.p.A b.x.p.n b.x.p.c, .bool b.x.l.neg, .slice b.x.l.A b.x.l.n b.x.l.c, .bool b.y.p.neg, .slice b.y.p.A b.y.p.n b.y.p.c, .bool b.y.l.neg, .slice b.y.l.A b.y.l.n b.y.l.c]] w fun e w' => ∃ m : PV, e = .returned (.tuple #[.agg #[.bool m.x.p.neg, .slice m.x.p.A m.x.p.n m.x.p.c, .bool m.x.l.neg, .slice m.x.l.A m.x.l.n m.x.l.c, .bool m.y.p.neg, .slice m.y.p.A m.y.p.n m.y.p.c, .bool m.y.l.neg, .slice m.y.l.A m.y.l.n m.y.l.c], .int .i64 0]) ∧ Below w.heap.size w w' ∧ m.is w' (midP p q p' q') (midQ p q p' q') (midP r s r' s') (midQ r s r' s') := by
  have hmf : ∀ (fn : Fn) (first cap : Array Value) (w : World), (Instr.makeFunc fn first cap).run Tryz.prog w = .ok (.func fn first cap) w := fun _ _ _ _ => rfl
  go_enter Tryz.func25, Tryz.ntmps25
  have hS1 := ((Own.newPt w 33 a).alloc (.cells #[.bool b.x.p.neg, .slice b.x.p.A b.x.p.n b.x.p.c, .bool b.x.l.neg, .slice b.x.l.A b.x.l.n b.x.l.c, .bool b.y.p.neg, .slice b.y.p.A b.y.p.n b.y.p.c, .bool b.y.l.neg, .slice b.y.l.A b.y.l.n b.y.l.c] 33)).alloc (.cells #[.bool false, .slice none 0 0, .bool false, .slice none 0 0, .bool false, .slice none 0 0, .bool false, .slice none 0 0] 33)
  have hS2 := (Own.newPt (w.alloc (.cells #[.bool a.x.p.neg, .slice a.x.p.A a.x.p.n a.x.p.c, .bool a.x.l.neg, .slice a.x.l.A a.x.l.n a.x.l.c, .bool a.y.p.neg, .slice a.y.p.A a.y.p.n a.y.p.c, .bool a.y.l.neg, .slice a.y.l.A a.y.l.n a.y.l.c] 33)) 33 b).alloc (.cells #[.bool false, .slice none 0 0, .bool false, .slice none 0 0, .bool false, .slice none 0 0, .bool false, .slice none 0 0] 33)
  have hS4 : Own (((w.alloc (.cells #[.bool a.x.p.neg, .slice a.x.p.A a.x.p.n a.x.p.c, .bool a.x.l.neg, .slice a.x.l.A a.x.l.n a.x.l.c, .bool a.y.p.neg, .slice a.y.p.A a.y.p.n a.y.p.c, .bool a.y.l.neg, .slice a.y.l.A a.y.l.n a.y.l.c] 33)).alloc (.cells #[.bool b.x.p.neg, .slice b.x.p.A b.x.p.n b.x.p.c, .bool b.x.l.neg, .slice b.x.l.A b.x.l.n b.x.l.c, .bool b.y.p.neg, .slice b.y.p.A b.y.p.n b.y.p.c, .bool b.y.l.neg, .slice b.y.l.A b.y.l.n b.y.l.c] 33)).alloc (.cells #[.bool false, .slice none 0 0, .bool false, .slice none 0 0, .bool false, .slice none 0 0, .bool false, .slice none 0 0] 33)) _ _ z8 := Own.new8 ((w.alloc (.cells #[.bool a.x.p.neg, .slice a.x.p.A a.x.p.n a.x.p.c, .bool a.x.l.neg, .slice a.x.l.A a.x.l.n a.x.l.c, .bool a.y.p.neg, .slice a.y.p.A a.y.p.n a.y.p.c, .bool a.y.l.neg, .slice a.y.l.A a.y.l.n a.y.l.c] 33)).alloc (.cells #[.bool b.x.p.neg, .slice b.x.p.A b.x.p.n b.x.p.c, .bool b.x.l.neg, .slice b.x.l.A b.x.l.n b.x.l.c, .bool b.y.p.neg, .slice b.y.p.A b.y.p.n b.y.p.c, .bool b.y.l.neg, .slice b.y.l.A b.y.l.n b.y.l.c] 33)) 33 _ _ _ _ _ _ _ _
  have hB : Below w.heap.size w (((w.alloc (.cells #[.bool a.x.p.neg, .slice a.x.p.A a.x.p.n a.x.p.c, .bool a.x.l.neg, .slice a.x.l.A a.x.l.n a.x.l.c, .bool a.y.p.neg, .slice a.y.p.A a.y.p.n a.y.p.c, .bool a.y.l.neg, .slice a.y.l.A a.y.l.n a.y.l.c] 33)).alloc (.cells #[.bool b.x.p.neg, .slice b.x.p.A b.x.p.n b.x.p.c, .bool b.x.l.neg, .slice b.x.l.A b.x.l.n b.x.l.c, .bool b.y.p.neg, .slice b.y.p.A b.y.p.n b.y.p.c, .bool b.y.l.neg, .slice b.y.l.A b.y.l.n b.y.l.c] 33)).alloc (.cells #[.bool false, .slice none 0 0, .bool false, .slice none 0 0, .bool false, .slice none 0 0, .bool false, .slice none 0 0] 33)) := by go_grown
  have g1 : (w.alloc (.cells #[.bool a.x.p.neg, .slice a.x.p.A a.x.p.n a.x.p.c, .bool a.x.l.neg, .slice a.x.l.A a.x.l.n a.x.l.c, .bool a.y.p.neg, .slice a.y.p.A a.y.p.n a.y.p.c, .bool a.y.l.neg, .slice a.y.l.A a.y.l.n a.y.l.c] 33)).heap.size = w.heap.size + 1 := by simp
  have g2 : ((w.alloc (.cells #[.bool a.x.p.neg, .slice a.x.p.A a.x.p.n a.x.p.c, .bool a.x.l.neg, .slice a.x.l.A a.x.l.n a.x.l.c, .bool a.y.p.neg, .slice a.y.p.A a.y.p.n a.y.p.c, .bool a.y.l.neg, .slice a.y.l.A a.y.l.n a.y.l.c] 33)).alloc (.cells #[.bool b.x.p.neg, .slice b.x.p.A b.x.p.n b.x.p.c, .bool b.x.l.neg, .slice b.x.l.A b.x.l.n b.x.l.c, .bool b.y.p.neg, .slice b.y.p.A b.y.p.n b.y.p.c, .bool b.y.l.neg, .slice b.y.l.A b.y.l.n b.y.l.c] 33)).heap.size = w.heap.size + 1 + 1 := by simp
  rw [g1] at hS2
  rw [g2] at hS4
  clear g1 g2
  go_upto_region 1 with fail
  generalize ((w.alloc (.cells #[.bool a.x.p.neg, .slice a.x.p.A a.x.p.n a.x.p.c, .bool a.x.l.neg, .slice a.x.l.A a.x.l.n a.x.l.c, .bool a.y.p.neg, .slice a.y.p.A a.y.p.n a.y.p.c, .bool a.y.l.neg, .slice a.y.l.A a.y.l.n a.y.l.c] 33)).alloc (.cells #[.bool b.x.p.neg, .slice b.x.p.A b.x.p.n b.x.p.c, .bool b.x.l.neg, .slice b.x.l.A b.x.l.n b.x.l.c, .bool b.y.p.neg, .slice b.y.p.A b.y.p.n b.y.p.c, .bool b.y.l.neg, .slice b.y.l.A b.y.l.n b.y.l.c] 33)).alloc (.cells #[.bool false, .slice none 0 0, .bool false, .slice none 0 0, .bool false, .slice none 0 0, .bool false, .slice none 0 0] 33) = W0 at hS1 hS2 hS4 hB ⊢
  obtain ⟨b2, hb2⟩ : ∃ b2, b2 = w.heap.size := ⟨_, rfl⟩
  obtain ⟨b3, hb3⟩ : ∃ b3, b3 = w.heap.size + 1 := ⟨_, rfl⟩
  obtain ⟨b4, hb4⟩ : ∃ b4, b4 = w.heap.size + 1 + 1 := ⟨_, rfl⟩
  have hw4 : w.heap.size ≤ b4 := by omega
  rw [← hb2] at hS1
  rw [← hb3] at hS2
  rw [← hb4] at hS4
  rw [← hb4, ← hb3, ← hb2]
  clear hb2 hb3 hb4
  go_upto_region 3 with fail
  have k1 := below_new W0 (.cells #[.int .i64 0] 46)
  have heW : Own (W0.alloc (.cells #[.int .i64 0] 46)) W0.heap.size 46 [.int .i64 0] := Own.new W0 46 [.int .i64 0]
  generalize W0.alloc (.cells #[.int .i64 0] 46) = W at k1 heW ⊢
  obtain ⟨b6, hb6⟩ : ∃ b6, b6 = W0.heap.size := ⟨_, rfl⟩
  rw [← hb6] at heW ⊢
  have hS1 := hS1.on k1
  have hS2 := hS2.on k1
  have hS4 := hS4.on k1
  have hB := Below.call hB k1
  have haW := ha.on hB
  have hbW := hb.on hB
  have HMx := h1
  have HMy := h2
  clear k1 hb6
  go_cut [8] (fun s8 wx => IsBox8 W wx s8 (midP p q p' q') (midQ p q p' q') (midP r s r' s') (midQ r s r' s') ∧ Below W.heap.size W wx)
  case first =>
    refine region_inv (by kernel_rfl) (MidRJ W a b p q r s p' q' r' s' b2 b3 b6 b4) ?_ ?_ ?_
    · exact ⟨_, _, _, _, _, _, _, _, _, _, _, _, _, _, rfl, by simp, MidR.start⟩
    · intro L a wx i hJ hi
      obtain ⟨hlt, hnd, hdep⟩ := ready_spec hi
      obtain ⟨s10, s11, s12, s13, s14, s15, s16, s17, s18, s19, s20, s21, s22, s8, rfl, hsz, h⟩ := hJ
      have hlt2 : i < 15 := hlt
      clear hi hlt
      rcases (by omega : i = 0 ∨ i = 1 ∨ i = 2 ∨ i = 3 ∨ i = 4 ∨ i = 5 ∨ i = 6 ∨ i = 7 ∨ i = 8 ∨ i = 9 ∨ i = 10 ∨ i = 11 ∨ i = 12 ∨ i = 13 ∨ i = 14) with rfl | rfl | rfl | rfl | rfl | rfl | rfl | rfl | rfl | rfl | rfl | rfl | rfl | rfl | rfl
      · clear hdep
        refine wpOp_step rfl (fun K hK => ?_)
        go_wp2_with fail
        exact ⟨_, _, _, _, _, _, _, _, _, _, _, _, _, _, rfl, by simp [hsz], h.set0 hnd rfl⟩
      · clear hdep
        refine wpOp_step rfl (fun K hK => ?_)
        go_wp2_with fail
        exact ⟨_, _, _, _, _, _, _, _, _, _, _, _, _, _, rfl, by simp [hsz], h.set1 hnd rfl⟩
      · have d1 : done L 1 := hdep _ rfl { on := 1, ground := Ground.data } (by simp) rfl
        have e1 := h.p1 d1
        subst e1
        have l0 := (hS1.on h.bel).c0
        have l1 := (hS1.on h.bel).c1
        have l2 := (hS1.on h.bel).c2
        have l3 := (hS1.on h.bel).c3
        clear hdep
        refine wpOp_step rfl (fun K hK => ?_)
        go_wp2_with fail
        exact ⟨_, _, _, _, _, _, _, _, _, _, _, _, _, _, rfl, by simp [hsz], h.set2 hnd rfl⟩
      · clear hdep
        refine wpOp_step rfl (fun K hK => ?_)
        go_wp2_with fail
        exact ⟨_, _, _, _, _, _, _, _, _, _, _, _, _, _, rfl, by simp [hsz], h.set3 hnd rfl⟩
      · have d3 : done L 3 := hdep _ rfl { on := 3, ground := Ground.data } (by simp) rfl
        have e3 := h.p3 d3
        subst e3
        have l0 := (hS2.on h.bel).c0
        have l1 := (hS2.on h.bel).c1
        have l2 := (hS2.on h.bel).c2
        have l3 := (hS2.on h.bel).c3
        clear hdep
        refine wpOp_step rfl (fun K hK => ?_)
        go_wp2_with fail
        exact ⟨_, _, _, _, _, _, _, _, _, _, _, _, _, _, rfl, by simp [hsz], h.set4 hnd rfl⟩
      · have d0 : done L 0 := hdep _ rfl { on := 0, ground := Ground.data } (by simp) rfl
        have d2 : done L 2 := hdep _ rfl { on := 2, ground := Ground.data } (by simp) rfl
        have d4 : done L 4 := hdep _ rfl { on := 4, ground := Ground.data } (by simp) rfl
        have e0 := h.p0 d0
        have e2 := h.p2 d2
        have e4 := h.p4 d4
        subst e0
        subst e2
        subst e4
        clear hdep
        refine wpOp_step rfl (fun K hK => ?_)
        go_wp2_with fail
        refine (Mid1_b (x := a.x) (y := b.x) (haW.x.on h.bel) (hbW.x.on h.bel) (heW.on h.bel) HMx.out h.bel).mono ?_
        rintro e v ⟨v, rfl, j, k, hr⟩
        go_wp2_with fail
        exact ⟨_, _, _, _, _, _, _, _, _, _, _, _, _, _, rfl, by simp [hsz], (h.up k).set5 hnd hr⟩
      · clear hdep
        refine wpOp_step rfl (fun K hK => ?_)
        go_wp2_with fail
        exact ⟨_, _, _, _, _, _, _, _, _, _, _, _, _, _, rfl, by simp [hsz], h.set6 hnd rfl⟩
      · clear hdep
        refine wpOp_step rfl (fun K hK => ?_)
        go_wp2_with fail
        exact ⟨_, _, _, _, _, _, _, _, _, _, _, _, _, _, rfl, by simp [hsz], h.set7 hnd rfl⟩
      · have d7 : done L 7 := hdep _ rfl { on := 7, ground := Ground.data } (by simp) rfl
        have e7 := h.p7 d7
        subst e7
        have l4 := (hS1.on h.bel).c4
        have l5 := (hS1.on h.bel).c5
        have l6 := (hS1.on h.bel).c6
        have l7 := (hS1.on h.bel).c7
        clear hdep
        refine wpOp_step rfl (fun K hK => ?_)
        go_wp2_with fail
        exact ⟨_, _, _, _, _, _, _, _, _, _, _, _, _, _, rfl, by simp [hsz], h.set8 hnd rfl⟩
      · clear hdep
        refine wpOp_step rfl (fun K hK => ?_)
        go_wp2_with fail
        exact ⟨_, _, _, _, _, _, _, _, _, _, _, _, _, _, rfl, by simp [hsz], h.set9 hnd rfl⟩
      · have d9 : done L 9 := hdep _ rfl { on := 9, ground := Ground.data } (by simp) rfl
        have e9 := h.p9 d9
        subst e9
        have l4 := (hS2.on h.bel).c4
        have l5 := (hS2.on h.bel).c5
        have l6 := (hS2.on h.bel).c6
        have l7 := (hS2.on h.bel).c7
        clear hdep
        refine wpOp_step rfl (fun K hK => ?_)
        go_wp2_with fail
        exact ⟨_, _, _, _, _, _, _, _, _, _, _, _, _, _, rfl, by simp [hsz], h.set10 hnd rfl⟩
      · have d6 : done L 6 := hdep _ rfl { on := 6, ground := Ground.data } (by simp) rfl
        have d8 : done L 8 := hdep _ rfl { on := 8, ground := Ground.data } (by simp) rfl
        have d10 : done L 10 := hdep _ rfl { on := 10, ground := Ground.data } (by simp) rfl
        have e6 := h.p6 d6
        have e8 := h.p8 d8
        have e10 := h.p10 d10
        subst e6
        subst e8
        subst e10
        clear hdep
        refine wpOp_step rfl (fun K hK => ?_)
        go_wp2_with fail
        refine (Mid1_b (x := a.y) (y := b.y) (haW.y.on h.bel) (hbW.y.on h.bel) (heW.on h.bel) HMy.out h.bel).mono ?_
        rintro e v ⟨v, rfl, j, k, hr⟩
        go_wp2_with fail
        exact ⟨_, _, _, _, _, _, _, _, _, _, _, _, _, _, rfl, by simp [hsz], (h.up k).set11 hnd hr⟩
      · have d5 : done L 5 := hdep _ rfl { on := 5, ground := Ground.data } (by simp) rfl
        have d11 : done L 11 := hdep _ rfl { on := 11, ground := Ground.data } (by simp) rfl
        obtain ⟨x5, e5, hx5⟩ := h.c5 d5
        obtain ⟨x11, e11, hx11⟩ := h.c11 d11
        subst e5
        subst e11
        clear hdep
        refine wpOp_step rfl (fun K hK => ?_)
        go_wp2_with fail
        exact ⟨_, _, _, _, _, _, _, _, _, _, _, _, _, _, rfl, by simp [hsz], h.set12 hnd ⟨⟨x5, x11⟩, rfl, ⟨hx5, hx11⟩⟩⟩
      · clear hdep
        refine wpOp_step rfl (fun K hK => ?_)
        go_wp2_with fail
        exact ⟨_, _, _, _, _, _, _, _, _, _, _, _, _, _, rfl, by simp [hsz], h.set13 hnd⟩
      · have d13 : done L 13 := hdep _ rfl { on := 13, ground := Ground.data } (by simp) rfl
        have d12 : done L 12 := hdep _ rfl { on := 12, ground := Ground.data } (by simp) rfl
        obtain ⟨gb, c0, c1, c2, c3, c4, c5, c6, c7, es, hgb, hO, h0, h1, h2, h3, h4, h5, h6, h7, _⟩ := h.a13 d13
        obtain ⟨x, ex, _⟩ := h.c12 d12
        have hn := h.set14 d13 d12 es ex hgb hO h0 h1 h2 h3 h4 h5 h6 h7
        have z0 := hO.c0
        have z1 := hO.c1
        have z2 := hO.c2
        have z3 := hO.c3
        have z4 := hO.c4
        have z5 := hO.c5
        have z6 := hO.c6
        have z7 := hO.c7
        have f0 := hO.frozen 0
        have f1 := hO.frozen 1
        have f2 := hO.frozen 2
        have f3 := hO.frozen 3
        have f4 := hO.frozen 4
        have f5 := hO.frozen 5
        have f6 := hO.frozen 6
        have f7 := hO.frozen 7
        have HN := Lib.hid hn
        clear hn hdep
        subst es ex
        refine wpOp_step rfl (fun K hK => ?_)
        go_wp2_with fail
        exact ⟨_, _, _, _, _, _, _, _, _, _, _, _, _, _, rfl, by simp [hsz], HN.out⟩
    · intro L a wx hJ hr
      obtain ⟨s10, s11, s12, s13, s14, s15, s16, s17, s18, s19, s20, s21, s22, s8, rfl, hsz, h⟩ := hJ
      have D := all_done hr hsz (by kernel_rfl)
      have D2 : ∀ k, k < 15 → done L k := D
      clear D
      have B8 := IsBox8.of (h.a13 (D2 13 (by omega))) (D2 14 (by omega)) (h.c12 (D2 12 (by omega)))
      have hbw := h.bel
      clear h D2
      go_wp2_with fail
      go_meet
      exact ⟨B8, hbw⟩
  case rest =>
    obtain ⟨⟨g8, m, rfl, l8, hO8, hm⟩, hbw⟩ := hcut
    have he := heW.on hbw
    have hS4 := hS4.on hbw
    have hB := Below.call hB hbw
    have e0 := he.c0
    have y0 := hO8.c0
    have y1 := hO8.c1
    have y2 := hO8.c2
    have y3 := hO8.c3
    have y4 := hO8.c4
    have y5 := hO8.c5
    have y6 := hO8.c6
    have y7 := hO8.c7
    have z0 := hS4.c0
    have z10 := hS4.c1
    have z20 := hS4.c2
    have z30 := hS4.c3
    have z40 := hS4.c4
    have z50 := hS4.c5
    have z60 := hS4.c6
    have z70 := hS4.c7
    have f0 := hS4.frozen 0
    have f1 := hS4.frozen 1
    have f2 := hS4.frozen 2
    have f3 := hS4.frozen 3
    have f4 := hS4.frozen 4
    have f5 := hS4.frozen 5
    have f6 := hS4.frozen 6
    have f7 := hS4.frozen 7
    have hB9 : Below w.heap.size w (putP wc b4 m) := Below.putP hB hw4
    have hm9 : m.is (putP wc b4 m) (midP p q p' q') (midQ p q p' q') (midP r s r' s') (midQ r s r' s') := PV.is.putP hm hS4
    have hO9 := hS4.putP (a := m)
    have q0 := hO9.c0
    have q1 := hO9.c1
    have q2 := hO9.c2
    have q3 := hO9.c3
    have q4 := hO9.c4
    have q5 := hO9.c5
    have q6 := hO9.c6
    have q7 := hO9.c7
    have HP := Lib.hid (And.intro hB9 hm9)
    clear hO9 hB9 hm9
    go_wp2
    exact bodyPost_ret (v := .tuple #[.agg #[.bool m.x.p.neg, .slice m.x.p.A m.x.p.n m.x.p.c, .bool m.x.l.neg, .slice m.x.l.A m.x.l.n m.x.l.c, .bool m.y.p.neg, .slice m.y.p.A m.y.p.n m.y.p.c, .bool m.y.l.neg, .slice m.y.l.A m.y.l.n m.y.l.c], .int .i64 0]) (by simp [results, Tryz.results25, go_sem, q0, q1, q2, q3, q4, q5, q6, q7]) rfl ⟨m, rfl, HP.out⟩
end Go.Proofs.YtfbbnphpapmpcaaGreatDoor
