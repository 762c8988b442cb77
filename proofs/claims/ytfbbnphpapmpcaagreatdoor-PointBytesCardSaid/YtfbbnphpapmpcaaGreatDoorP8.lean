/-
  Contracts of package point: Mid, where all is in range.
-/
import Derived.Test.YtfbbnphpapmpcaaGreatDoorP5
namespace Go.Proofs.YtfbbnphpapmpcaaGreatDoor
open Go.RowKit Mag

/-- A store of what a cell holds already. -/
theorem Below.same {w : World} {g i : Nat} {t : TypeId} {xs : List Value} {v : Value} {B : Nat} (hO : Own w g t xs) (hi : xs[i]? = some v) : Below B w (w.setCell ⟨g, i, none⟩ v) := by
  refine ⟨rfl, rfl, rfl, by simp [World.setCell], fun k _ => ?_⟩
  by_cases hk : k = g
  · subst hk
    have h1 := hO.set_ i v
    have h2 : xs.set i v = xs := by
      apply List.ext_getElem?
      intro n
      rw [List.getElem?_set]
      split
      · subst_vars
        split
        · exact hi.symm
        · rw [List.getElem?_eq_none (by omega)]
      · rfl
    rw [h2] at h1
    exact h1.trans hO.symm
  · exact Below.heap_setCell w ⟨g, i, none⟩ v k hk
/-- The middle of two numbers. -/
def midP (p q r s : Int) : Int := mkP (mkP (p * s + r * q) (q * s) * 1) (mkQ (p * s + r * q) (q * s) * 2)
def midQ (p q r s : Int) : Int := mkQ (mkP (p * s + r * q) (q * s) * 1) (mkQ (p * s + r * q) (q * s) * 2)
def midOK (p q r s : Int) : Prop := addOK p q r s ∧ inR (midP p q r s) (midQ p q r s)
theorem Add_ok {f g : FV} {p q r s : Int} {w : World} (hf : f.is w p q) (hg : g.is w r s) (h : addOK p q r s) : Calls Tryz.prog 44 #[.agg #[.bool f.p.neg, .slice f.p.A f.p.n f.p.c, .bool f.l.neg, .slice f.l.A f.l.n f.l.c], .agg #[.bool g.p.neg, .slice g.p.A g.p.n g.p.c, .bool g.l.neg, .slice g.l.A g.l.n g.l.c]] w (FracE w (mkP (p * s + r * q) (q * s)) (mkQ (p * s + r * q) (q * s)) 0) :=
  (AddF_any hf hg).mono fun _ _ h1 => h1.elim (fun h2 => h2.2) (fun h2 => absurd h h2.1)
theorem Div_ok {f g : FV} {p q r s : Int} {w : World} (hf : f.is w p q) (hg : g.is w r s) (h0 : r ≠ 0) (h : inR (mkP (p * s) (q * r)) (mkQ (p * s) (q * r))) : Calls Tryz.prog 45 #[.agg #[.bool f.p.neg, .slice f.p.A f.p.n f.p.c, .bool f.l.neg, .slice f.l.A f.l.n f.l.c], .agg #[.bool g.p.neg, .slice g.p.A g.p.n g.p.c, .bool g.l.neg, .slice g.l.A g.l.n g.l.c]] w (FracE w (mkP (p * s) (q * r)) (mkQ (p * s) (q * r)) 0) :=
  (DivF_any hf hg).mono fun _ _ h1 => h1.elim (fun h2 => absurd h2.1 h0) (fun h2 => h2.2.elim (fun h3 => h3.2) (fun h3 => absurd h h3.1))
/-- Where the closure's variables lie. -/
structure MidSt (w : World) (x y : FV) (p q r s : Int) (wx : World) : Prop where
  o3 : Own wx w.heap.size 31 [.bool x.p.neg, .slice x.p.A x.p.n x.p.c, .bool x.l.neg, .slice x.l.A x.l.n x.l.c]
  o4 : Own wx (w.heap.size + 1) 31 [.bool y.p.neg, .slice y.p.A y.p.n y.p.c, .bool y.l.neg, .slice y.l.A y.l.n y.l.c]
  o5 : Own wx (w.heap.size + 1 + 1) 31 [.bool false, .slice none 0 0, .bool false, .slice none 0 0]
  o6 : Own wx (w.heap.size + 1 + 1 + 1) 31 [.bool false, .slice none 0 0, .bool false, .slice none 0 0]
  ix : x.is wx p q
  iy : y.is wx r s
  bel : Below w.heap.size w wx
theorem MidSt.start {w : World} {x y : FV} {p q r s : Int} (hx : x.is w p q) (hy : y.is w r s) : MidSt w x y p q r s ((((w.alloc (.cells #[.bool x.p.neg, .slice x.p.A x.p.n x.p.c, .bool x.l.neg, .slice x.l.A x.l.n x.l.c] 31)).alloc (.cells #[.bool y.p.neg, .slice y.p.A y.p.n y.p.c, .bool y.l.neg, .slice y.l.A y.l.n y.l.c] 31)).alloc (.cells #[.bool false, .slice none 0 0, .bool false, .slice none 0 0] 31)).alloc (.cells #[.bool false, .slice none 0 0, .bool false, .slice none 0 0] 31)) := by
  have hB : Below w.heap.size w ((((w.alloc (.cells #[.bool x.p.neg, .slice x.p.A x.p.n x.p.c, .bool x.l.neg, .slice x.l.A x.l.n x.l.c] 31)).alloc (.cells #[.bool y.p.neg, .slice y.p.A y.p.n y.p.c, .bool y.l.neg, .slice y.l.A y.l.n y.l.c] 31)).alloc (.cells #[.bool false, .slice none 0 0, .bool false, .slice none 0 0] 31)).alloc (.cells #[.bool false, .slice none 0 0, .bool false, .slice none 0 0] 31)) := by go_grown
  refine ⟨(((Own.newF w _ x).alloc _).alloc _).alloc _, ?_, ?_, ?_, hx.on hB, hy.on hB, hB⟩
  · have := ((Own.newF (w.alloc (.cells #[.bool x.p.neg, .slice x.p.A x.p.n x.p.c, .bool x.l.neg, .slice x.l.A x.l.n x.l.c] 31)) 31 y).alloc (.cells #[.bool false, .slice none 0 0, .bool false, .slice none 0 0] 31)).alloc (.cells #[.bool false, .slice none 0 0, .bool false, .slice none 0 0] 31)
    simpa using this
  · have := (Own.new4 ((w.alloc (.cells #[.bool x.p.neg, .slice x.p.A x.p.n x.p.c, .bool x.l.neg, .slice x.l.A x.l.n x.l.c] 31)).alloc (.cells #[.bool y.p.neg, .slice y.p.A y.p.n y.p.c, .bool y.l.neg, .slice y.l.A y.l.n y.l.c] 31)) 31 (.bool false) (.slice none 0 0) (.bool false) (.slice none 0 0)).alloc (.cells #[.bool false, .slice none 0 0, .bool false, .slice none 0 0] 31)
    simpa using this
  · have := Own.new4 (((w.alloc (.cells #[.bool x.p.neg, .slice x.p.A x.p.n x.p.c, .bool x.l.neg, .slice x.l.A x.l.n x.l.c] 31)).alloc (.cells #[.bool y.p.neg, .slice y.p.A y.p.n y.p.c, .bool y.l.neg, .slice y.l.A y.l.n y.l.c] 31)).alloc (.cells #[.bool false, .slice none 0 0, .bool false, .slice none 0 0] 31)) 31 (.bool false) (.slice none 0 0) (.bool false) (.slice none 0 0)
    simpa using this
set_option maxRecDepth 100000 in
set_option maxHeartbeats 1600000 in
theorem Mid1_ok {x y : FV} {p q r s : Int} {be : Nat} {w : World} (hx : x.is w p q) (hy : y.is w r s) (he : Own w be 46 [.int .i64 0]) (hok : midOK p q r s) :
    Calls Tryz.prog 43 #[.agg #[.bool x.p.neg, .slice x.p.A x.p.n x.p.c, .bool x.l.neg, .slice x.l.A x.l.n x.l.c], .agg #[.bool y.p.neg, .slice y.p.A y.p.n y.p.c, .bool y.l.neg, .slice y.l.A y.l.n y.l.c], .pointer (some ⟨be, 0, none⟩)] w (RetF w (midP p q r s) (midQ p q r s)) := by
  have hlt := he.lt
  go_enter Tryz.func43, Tryz.ntmps43
  have hS := MidSt.start hx hy
  go_upto_region 2 with fail
  generalize (((w.alloc (.cells #[.bool x.p.neg, .slice x.p.A x.p.n x.p.c, .bool x.l.neg, .slice x.l.A x.l.n x.l.c] 31)).alloc (.cells #[.bool y.p.neg, .slice y.p.A y.p.n y.p.c, .bool y.l.neg, .slice y.l.A y.l.n y.l.c] 31)).alloc (.cells #[.bool false, .slice none 0 0, .bool false, .slice none 0 0] 31)).alloc (.cells #[.bool false, .slice none 0 0, .bool false, .slice none 0 0] 31) = W at hS ⊢
  obtain ⟨b3, hb3⟩ : ∃ b3, b3 = w.heap.size := ⟨_, rfl⟩
  obtain ⟨b4, hb4⟩ : ∃ b4, b4 = w.heap.size + 1 := ⟨_, rfl⟩
  obtain ⟨b5, hb5⟩ : ∃ b5, b5 = w.heap.size + 1 + 1 := ⟨_, rfl⟩
  obtain ⟨b6, hb6⟩ : ∃ b6, b6 = w.heap.size + 1 + 1 + 1 := ⟨_, rfl⟩
  have hO3 := hS.o3
  have hO4 := hS.o4
  have hO5 := hS.o5
  have hO6 := hS.o6
  have hxW := hS.ix
  have hyW := hS.iy
  have hB := hS.bel
  have heW := he.on hB
  rw [← hb3] at hO3
  rw [← hb4] at hO4
  rw [← hb5] at hO5
  rw [← hb6] at hO6
  rw [← hb6, ← hb5, ← hb4, ← hb3]
  have hw5 : w.heap.size ≤ b5 := by omega
  have hw6 : w.heap.size ≤ b6 := by omega
  have m1 : b5 ≠ b6 := by omega
  have m2 : be ≠ b6 := by omega
  have m3 : be ≠ b5 := by omega
  have m4 : b6 ≠ be := by omega
  have m5 : b5 ≠ be := by omega
  have m6 : b6 ≠ b5 := by omega
  clear hS hb3 hb4 hb5 hb6
  have e0 := heW.c0
  have l0 := hO3.c0
  have l1 := hO3.c1
  have l2 := hO3.c2
  have l3 := hO3.c3
  have l4 := hO4.c0
  have l5 := hO4.c1
  have l6 := hO4.c2
  have l7 := hO4.c3
  go_wp2_with fail
  refine (Add_ok hxW hyW hok.1).mono ?_
  rintro e w1 ⟨f1, rfl, k1, hf1⟩
  have hO5 := hO5.on k1
  have hO6 := hO6.on k1
  have he1 := heW.on k1
  have hB := Below.call hB k1
  clear hO3 hO4 l0 l1 l2 l3 l4 l5 l6 l7 e0
  have z0 := hO6.c0
  have z1 := hO6.c1
  have z2 := hO6.c2
  have z3 := hO6.c3
  have f0 := hO6.frozen 0
  have f1' := hO6.frozen 1
  have f2 := hO6.frozen 2
  have f3 := hO6.frozen 3
  have e0 := he1.c0
  have e1 := he1.frozen 0
  go_upto_region 4 with fail
  have hf2 := hf1.put4 hO6 (by simp) (by simp) (by simp) (by simp) (.bool f1.p.neg) (.slice f1.p.A f1.p.n f1.p.c) (.bool f1.l.neg) (.slice f1.l.A f1.l.n f1.l.c)
  have hB2 := Below.put4 hB hw6 (.bool f1.p.neg) (.slice f1.p.A f1.p.n f1.p.c) (.bool f1.l.neg) (.slice f1.l.A f1.l.n f1.l.c)
  have hO5 := hO5.put4far m1 (.bool f1.p.neg) (.slice f1.p.A f1.p.n f1.p.c) (.bool f1.l.neg) (.slice f1.l.A f1.l.n f1.l.c)
  have he2 := he1.put4far m2 (.bool f1.p.neg) (.slice f1.p.A f1.p.n f1.p.c) (.bool f1.l.neg) (.slice f1.l.A f1.l.n f1.l.c)
  have hO6 := hO6.put4 (.bool f1.p.neg) (.slice f1.p.A f1.p.n f1.p.c) (.bool f1.l.neg) (.slice f1.l.A f1.l.n f1.l.c)
  clear z0 z1 z2 z3 f0 f1' f2 f3 e0 e1
  generalize (((w1.setCell ⟨b6, 0, none⟩ (.bool f1.p.neg)).setCell ⟨b6, 1, none⟩ (.slice f1.p.A f1.p.n f1.p.c)).setCell ⟨b6, 2, none⟩ (.bool f1.l.neg)).setCell ⟨b6, 3, none⟩ (.slice f1.l.A f1.l.n f1.l.c) = w2 at hf2 hB2 hO5 he2 hO6 ⊢
  have k3 : Below w2.heap.size w2 (w2.setCell ⟨be, 0, none⟩ (.int .i64 0)) := Below.same he2 rfl
  generalize w2.setCell ⟨be, 0, none⟩ (.int .i64 0) = w3 at k3 ⊢
  have hO5 := hO5.on k3
  have hO6 := hO6.on k3
  have he3 := he2.on k3
  have hf3 := hf2.on k3
  have hB3 := Below.call hB2 k3
  have e0 := he3.c0
  have d0 := he3.drew
  have d6 := hO6.drew
  have y0 := hO6.c0
  have y1 := hO6.c1
  have y2 := hO6.c2
  have y3 := hO6.c3
  have HR : inR (mkP (mkP (p * s + r * q) (q * s) * 1) (mkQ (p * s + r * q) (q * s) * 2)) (mkQ (mkP (p * s + r * q) (q * s) * 1) (mkQ (p * s + r * q) (q * s) * 2)) := hok.2
  go_wp2_with fail
  go_region_with
    (first
      | (go_at_call 46; (with_reducible refine (whole_any 2 _ (by omega) (by omega)).mono ?_); rintro e w4 ⟨g2, rfl, k4', hg2⟩; have k4 := Below.of_drew k4'; have hO5' := hO5.on k4; have hO6' := hO6.on k4; have he4 := he3.on k4; have hf4 := hf3.on k4; have hB4 := Below.call hB3 k4; have c0 := hO6'.c0; have c1 := hO6'.c1; have c2 := hO6'.c2; have c3 := hO6'.c3)
      | (go_at_call 45; (with_reducible refine (Div_ok hf4 hg2 (by omega) HR).mono ?_); rintro e w5 ⟨f5, rfl, k5, hf5⟩; have hO5'' := hO5'.on k5; have hO6'' := hO6'.on k5; have he5 := he4.on k5; have hB5 := Below.call hB4 k5; have t0 := hO6''.c0; have t1 := hO6''.c1; have t2 := hO6''.c2; have t3 := hO6''.c3; have f0 := hO6''.frozen 0; have f1' := hO6''.frozen 1; have f2 := hO6''.frozen 2; have f3 := hO6''.frozen 3; have e5 := he5.c0; have e6 := he5.frozen 0))
  all_goals
    have hf6 := hf5.put4 hO6'' (by simp) (by simp) (by simp) (by simp) (.bool f5.p.neg) (.slice f5.p.A f5.p.n f5.p.c) (.bool f5.l.neg) (.slice f5.l.A f5.l.n f5.l.c)
    have hB6 := Below.put4 hB5 hw6 (.bool f5.p.neg) (.slice f5.p.A f5.p.n f5.p.c) (.bool f5.l.neg) (.slice f5.l.A f5.l.n f5.l.c)
    have hO7 := hO5''.put4far m1 (.bool f5.p.neg) (.slice f5.p.A f5.p.n f5.p.c) (.bool f5.l.neg) (.slice f5.l.A f5.l.n f5.l.c)
    have he6 := he5.put4far m2 (.bool f5.p.neg) (.slice f5.p.A f5.p.n f5.p.c) (.bool f5.l.neg) (.slice f5.l.A f5.l.n f5.l.c)
    have hO8 := hO6''.put4 (.bool f5.p.neg) (.slice f5.p.A f5.p.n f5.p.c) (.bool f5.l.neg) (.slice f5.l.A f5.l.n f5.l.c)
    clear t0 t1 t2 t3 f0 f1' f2 f3 e5 e6 c0 c1 c2 c3
    go_upto_region 6 with fail
    generalize (((w5.setCell ⟨b6, 0, none⟩ (.bool f5.p.neg)).setCell ⟨b6, 1, none⟩ (.slice f5.p.A f5.p.n f5.p.c)).setCell ⟨b6, 2, none⟩ (.bool f5.l.neg)).setCell ⟨b6, 3, none⟩ (.slice f5.l.A f5.l.n f5.l.c) = w6 at hf6 hB6 hO7 he6 hO8 ⊢
    have k7 : Below w6.heap.size w6 (w6.setCell ⟨be, 0, none⟩ (.int .i64 0)) := Below.same he6 rfl
    generalize w6.setCell ⟨be, 0, none⟩ (.int .i64 0) = w7 at k7 ⊢
    have oz := hO7.on k7
    have ov := hO8.on k7
    have hf7 := hf6.on k7
    have hB7 := Below.call hB6 k7
    have y0 := ov.c0
    have y1 := ov.c1
    have y2 := ov.c2
    have y3 := ov.c3
    have z0 := oz.c0
    have z10 := oz.c1
    have z20 := oz.c2
    have z30 := oz.c3
    have f0 := oz.frozen 0
    have f1' := oz.frozen 1
    have f2 := oz.frozen 2
    have f3 := oz.frozen 3
    have hp := put_F hB7 hw5 oz (by simp) (by simp) (by simp) (by simp) hf7
    have hO9 := oz.put4 (.bool f5.p.neg) (.slice f5.p.A f5.p.n f5.p.c) (.bool f5.l.neg) (.slice f5.l.A f5.l.n f5.l.c)
    have q0 := hO9.c0
    have q1 := hO9.c1
    have q2 := hO9.c2
    have q3 := hO9.c3
    have HP := Lib.hid hp
    clear hp hO9
    go_wp2
    exact bodyPost_ret (v := .agg #[.bool f5.p.neg, .slice f5.p.A f5.p.n f5.p.c, .bool f5.l.neg, .slice f5.l.A f5.l.n f5.l.c]) (by simp [results, Tryz.results43, go_sem, q0, q1, q2, q3]) rfl HP.out
end Go.Proofs.YtfbbnphpapmpcaaGreatDoor
