/-
  Contracts of package point: ValidBox, within of fractions.
-/
import Derived.Test.YthcpaagfgkbjaaaDoorP2
namespace Go.Proofs.YthcpaagfgkbjaaaDoor
open Go.RowKit Mag

theorem goodV_cases (x y : Int) : goodV x y = 0 ∨ goodV x y = 5 := by
  unfold goodV
  split
  · exact .inl rfl
  · exact .inr rfl
def goodB (a b c d : Int) : Int := if goodV a b = 0 ∧ goodV c d = 0 ∧ a ≤ c ∧ b ≤ d then 0 else 5
theorem Own.newB (w : World) (t : TypeId) (a b c d : Int) : Own (w.alloc (.cells #[.int .i64 a, .int .i64 b, .int .i64 c, .int .i64 d] t)) w.heap.size t [.int .i64 a, .int .i64 b, .int .i64 c, .int .i64 d] := Own.new w t [.int .i64 a, .int .i64 b, .int .i64 c, .int .i64 d]
set_option maxRecDepth 100000 in
set_option maxHeartbeats 800000 in
theorem PValidBox_any (a b c d : Int) (w : World) : Calls Tryd.prog 29 #[.agg #[.int .i64 a, .int .i64 b, .int .i64 c, .int .i64 d]] w (RetInt w (goodB a b c d)) := by
  go_enter Tryd.func29, Tryd.ntmps29
  go_upto_region 1 with fail
  have hO := Own.newB w 56 a b c d
  have hB := below_new w (.cells #[.int .i64 a, .int .i64 b, .int .i64 c, .int .i64 d] 56)
  generalize w.alloc (.cells #[.int .i64 a, .int .i64 b, .int .i64 c, .int .i64 d] 56) = W at hO hB ⊢
  have c0 := hO.c0
  have c1 := hO.c1
  go_wp2_with fail
  refine (PValid_any a b _).mono ?_
  rintro e w1 ⟨rfl, hb1⟩
  have hB1 := Below.call hB hb1
  have hO1 := hO.on hb1
  have d0 := hO1.c0
  have d1 := hO1.c1
  have d2 := hO1.c2
  have d3 := hO1.c3
  clear c0 c1
  rcases goodV_cases a b with h1 | h1
  · rw [h1]
    go_wp2_with fail
    refine (PValid_any c d _).mono ?_
    rintro e w2 ⟨rfl, hb2⟩
    have hB2 := Below.call hB1 hb2
    have hO2 := hO1.on hb2
    have e0 := hO2.c0
    have e1 := hO2.c1
    have e2 := hO2.c2
    have e3 := hO2.c3
    clear d0 d1 d2 d3
    rcases goodV_cases c d with h2 | h2
    · rw [h2]
      by_cases h3 : c < a
      · have k3 : decide (c < a) = true := by simp [h3]
        have hv : goodB a b c d = 5 := if_neg (by omega)
        have HV := Lib.hid hv
        clear h1 h2 h3 hv
        go_wp2
        go_returns
        exact ⟨by rw [HV.out]; simp, hB2⟩
      · have k3 : decide (c < a) = false := by simp; omega
        by_cases h4 : d < b
        · have k4 : decide (d < b) = true := by simp [h4]
          have hv : goodB a b c d = 5 := if_neg (by omega)
          have HV := Lib.hid hv
          clear h1 h2 h3 h4 hv
          go_wp2
          go_returns
          exact ⟨by rw [HV.out]; simp, hB2⟩
        · have k4 : decide (d < b) = false := by simp; omega
          have hv : goodB a b c d = 0 := if_pos ⟨h1, h2, by omega, by omega⟩
          have HV := Lib.hid hv
          clear h1 h2 h3 h4 hv
          go_wp2
          go_returns
          exact ⟨by rw [HV.out]; simp, hB2⟩
    · have hv : goodB a b c d = 5 := if_neg (by omega)
      rw [h2]
      have HV := Lib.hid hv
      clear h1 h2 hv
      go_wp2
      go_returns
      exact ⟨by rw [HV.out]; simp, hB2⟩
  · have hv : goodB a b c d = 5 := if_neg (by omega)
    rw [h1]
    have HV := Lib.hid hv
    clear h1 hv
    go_wp2
    go_returns
    exact ⟨by rw [HV.out]; simp, hB1⟩

set_option maxRecDepth 100000 in
set_option maxHeartbeats 800000 in
theorem within_frac {lo x hi : FV} {p q r s t u : Int} {w : World} (hl : lo.is w p q) (hx : x.is w r s) (hh : hi.is w t u) : Calls Tryd.prog 52 #[.agg #[.bool lo.p.neg, .slice lo.p.A lo.p.n lo.p.c, .bool lo.l.neg, .slice lo.l.A lo.l.n lo.l.c], .agg #[.bool x.p.neg, .slice x.p.A x.p.n x.p.c, .bool x.l.neg, .slice x.l.A x.l.n x.l.c], .agg #[.bool hi.p.neg, .slice hi.p.A hi.p.n hi.p.c, .bool hi.l.neg, .slice hi.l.A hi.l.n hi.l.c], .func (.func 18) #[] #[]] w (RetB w (decide (p * s ≤ r * q) && decide (r * u ≤ t * s))) := by
  go_enter Tryd.func52, Tryd.ntmps52
  go_upto_region 1 with fail
  have hO1 := ((Own.newF w 29 lo).alloc (.cells #[.bool x.p.neg, .slice x.p.A x.p.n x.p.c, .bool x.l.neg, .slice x.l.A x.l.n x.l.c] 29)).alloc (.cells #[.bool hi.p.neg, .slice hi.p.A hi.p.n hi.p.c, .bool hi.l.neg, .slice hi.l.A hi.l.n hi.l.c] 29)
  have hO2 := (Own.newF (w.alloc (.cells #[.bool lo.p.neg, .slice lo.p.A lo.p.n lo.p.c, .bool lo.l.neg, .slice lo.l.A lo.l.n lo.l.c] 29)) 29 x).alloc (.cells #[.bool hi.p.neg, .slice hi.p.A hi.p.n hi.p.c, .bool hi.l.neg, .slice hi.l.A hi.l.n hi.l.c] 29)
  have hO3 := Own.newF ((w.alloc (.cells #[.bool lo.p.neg, .slice lo.p.A lo.p.n lo.p.c, .bool lo.l.neg, .slice lo.l.A lo.l.n lo.l.c] 29)).alloc (.cells #[.bool x.p.neg, .slice x.p.A x.p.n x.p.c, .bool x.l.neg, .slice x.l.A x.l.n x.l.c] 29)) 29 hi
  have hB : Below w.heap.size w (((w.alloc (.cells #[.bool lo.p.neg, .slice lo.p.A lo.p.n lo.p.c, .bool lo.l.neg, .slice lo.l.A lo.l.n lo.l.c] 29)).alloc (.cells #[.bool x.p.neg, .slice x.p.A x.p.n x.p.c, .bool x.l.neg, .slice x.l.A x.l.n x.l.c] 29)).alloc (.cells #[.bool hi.p.neg, .slice hi.p.A hi.p.n hi.p.c, .bool hi.l.neg, .slice hi.l.A hi.l.n hi.l.c] 29)) := by go_grown
  have g1 : (w.alloc (.cells #[.bool lo.p.neg, .slice lo.p.A lo.p.n lo.p.c, .bool lo.l.neg, .slice lo.l.A lo.l.n lo.l.c] 29)).heap.size = w.heap.size + 1 := by simp
  have g2 : ((w.alloc (.cells #[.bool lo.p.neg, .slice lo.p.A lo.p.n lo.p.c, .bool lo.l.neg, .slice lo.l.A lo.l.n lo.l.c] 29)).alloc (.cells #[.bool x.p.neg, .slice x.p.A x.p.n x.p.c, .bool x.l.neg, .slice x.l.A x.l.n x.l.c] 29)).heap.size = w.heap.size + 1 + 1 := by simp
  rw [g1] at hO2
  rw [g2] at hO3
  clear g1 g2
  generalize ((w.alloc (.cells #[.bool lo.p.neg, .slice lo.p.A lo.p.n lo.p.c, .bool lo.l.neg, .slice lo.l.A lo.l.n lo.l.c] 29)).alloc (.cells #[.bool x.p.neg, .slice x.p.A x.p.n x.p.c, .bool x.l.neg, .slice x.l.A x.l.n x.l.c] 29)).alloc (.cells #[.bool hi.p.neg, .slice hi.p.A hi.p.n hi.p.c, .bool hi.l.neg, .slice hi.l.A hi.l.n hi.l.c] 29) = W at hO1 hO2 hO3 hB ⊢
  have hl1 := hl.on hB
  have hx1 := hx.on hB
  have hh1 := hh.on hB
  obtain ⟨b1, hb1⟩ : ∃ b1, b1 = w.heap.size := ⟨_, rfl⟩
  obtain ⟨b2, hb2⟩ : ∃ b2, b2 = w.heap.size + 1 := ⟨_, rfl⟩
  obtain ⟨b3, hb3⟩ : ∃ b3, b3 = w.heap.size + 1 + 1 := ⟨_, rfl⟩
  rw [← hb1] at hO1
  rw [← hb2] at hO2
  rw [← hb3] at hO3
  rw [← hb3, ← hb2, ← hb1]
  clear hb1 hb2 hb3
  have l0 := hO1.c0
  have l1 := hO1.c1
  have l2 := hO1.c2
  have l3 := hO1.c3
  have x0 := hO2.c0
  have x1 := hO2.c1
  have x2 := hO2.c2
  have x3 := hO2.c3
  go_wp2_with fail
  refine (Compare_frac hl1 hx1).mono ?_
  rintro e w1 ⟨rfl, k1⟩
  have hO2 := hO2.on k1
  have hO3 := hO3.on k1
  have hx1 := hx1.on k1
  have hh1 := hh1.on k1
  have hB := Below.call hB k1
  clear hO1 l0 l1 l2 l3 x0 x1 x2 x3
  by_cases h1 : p * s ≤ r * q
  · have h2 : decide (cmpI (p * s) (r * q) ≤ 0) = true := by simp [cmpI_le, h1]
    have h3 : decide (p * s ≤ r * q) = true := by simp [h1]
    obtain ⟨bb, hbb⟩ : ∃ bb, bb = decide (r * u ≤ t * s) := ⟨_, rfl⟩
    have HV : Hid ((decide (p * s ≤ r * q) && decide (r * u ≤ t * s)) = bb) := Lib.hid (by rw [h3, Bool.true_and, hbb])
    have HBB := Lib.hid hbb
    clear h1 h3 hbb
    generalize cmpI (p * s) (r * q) = z at h2 ⊢
    have x0 := hO2.c0
    have x1 := hO2.c1
    have x2 := hO2.c2
    have x3 := hO2.c3
    have y0 := hO3.c0
    have y1 := hO3.c1
    have y2 := hO3.c2
    have y3 := hO3.c3
    go_wp2_with fail
    refine (Compare_frac hx1 hh1).mono ?_
    rintro e w2 ⟨rfl, k2⟩
    have hB := Below.call hB k2
    have h3 : decide (cmpI (r * u) (t * s) ≤ 0) = bb := by rw [HBB.out]; simp [cmpI_le]
    generalize cmpI (r * u) (t * s) = z2 at h3 ⊢
    clear HBB
    go_wp2
    go_returns
    exact ⟨by rw [HV.out]; simp, hB⟩
  · have h2 : decide (cmpI (p * s) (r * q) ≤ 0) = false := by simp [cmpI_le]; omega
    have h3 : decide (p * s ≤ r * q) = false := by simp; omega
    have HV : Hid ((decide (p * s ≤ r * q) && decide (r * u ≤ t * s)) = false) := Lib.hid (by rw [h3, Bool.false_and])
    clear h1 h3
    generalize cmpI (p * s) (r * q) = z at h2 ⊢
    go_wp2
    go_returns
    exact ⟨by rw [HV.out]; simp, hB⟩
end Go.Proofs.YthcpaagfgkbjaaaDoor
