/-
  Contracts of the reference model of chapter 05: Good, GoodBox, Of, Meets.
-/
import Derived.Test.YthcpaagfgkbjaaaDoorP6
namespace Go.Proofs.YthcpaagfgkbjaaaDoor
open Go.RowKit Mag

set_option maxRecDepth 100000 in
set_option maxHeartbeats 800000 in
theorem Good_any (x y : Int) (w : World) : Calls Tryd.prog 34 #[.agg #[.int .i64 x, .int .i64 y]] w (RetInt w (goodV x y)) := by
  go_enter Tryd.func34, Tryd.ntmps34
  go_upto_region 1 with fail
  have hO := Own.new2 w 40 (.int .i64 x) (.int .i64 y)
  have hB := below_new w (.cells #[.int .i64 x, .int .i64 y] 40)
  generalize w.alloc (.cells #[.int .i64 x, .int .i64 y] 40) = W at hO hB ⊢
  have c0 := hO.c0
  have c1 := hO.c1
  by_cases h1 : x < -1073741824
  · have d1 : decide (x < -1073741824) = true := by simp [h1]
    have HV : Hid (goodV x y = 5) := Lib.hid (by simp [goodV, goodC]; omega)
    clear h1
    go_wp2
    go_returns
    exact ⟨by rw [HV.out]; simp, hB⟩
  · have d1 : decide (x < -1073741824) = false := by simp; omega
    by_cases h2 : 1073741824 < x
    · have d2 : decide (1073741824 < x) = true := by simp [h2]
      have HV : Hid (goodV x y = 5) := Lib.hid (by simp [goodV, goodC]; omega)
      clear h1 h2
      go_wp2
      go_returns
      exact ⟨by rw [HV.out]; simp, hB⟩
    · have d2 : decide (1073741824 < x) = false := by simp; omega
      by_cases h3 : y < -1073741824
      · have d3 : decide (y < -1073741824) = true := by simp [h3]
        have HV : Hid (goodV x y = 5) := Lib.hid (by simp [goodV, goodC]; omega)
        clear h1 h2 h3
        go_wp2
        go_returns
        exact ⟨by rw [HV.out]; simp, hB⟩
      · have d3 : decide (y < -1073741824) = false := by simp; omega
        by_cases h4 : 1073741824 < y
        · have d4 : decide (1073741824 < y) = true := by simp [h4]
          have HV : Hid (goodV x y = 5) := Lib.hid (by simp [goodV, goodC]; omega)
          clear h1 h2 h3 h4
          go_wp2
          go_returns
          exact ⟨by rw [HV.out]; simp, hB⟩
        · have d4 : decide (1073741824 < y) = false := by simp; omega
          have HV : Hid (goodV x y = 0) := Lib.hid (by simp [goodV, goodC]; omega)
          clear h1 h2 h3 h4
          go_wp2
          go_returns
          exact ⟨by rw [HV.out]; simp, hB⟩
set_option maxRecDepth 100000 in
set_option maxHeartbeats 800000 in
theorem GoodBox_any (a b c d : Int) (w : World) : Calls Tryd.prog 35 #[.agg #[.int .i64 a, .int .i64 b, .int .i64 c, .int .i64 d]] w (RetInt w (goodB a b c d)) := by
  go_enter Tryd.func35, Tryd.ntmps35
  go_upto_region 1 with fail
  have hO := Own.newB w 56 a b c d
  have hB := below_new w (.cells #[.int .i64 a, .int .i64 b, .int .i64 c, .int .i64 d] 56)
  generalize w.alloc (.cells #[.int .i64 a, .int .i64 b, .int .i64 c, .int .i64 d] 56) = W at hO hB ⊢
  have c0 := hO.c0
  have c1 := hO.c1
  go_wp2_with fail
  refine (Good_any a b _).mono ?_
  rintro e w1 ⟨rfl, hb1⟩
  have hB1 := Below.call hB hb1
  have hO1 := hO.on hb1
  have d0 := hO1.c0
  have d1 := hO1.c1
  have d2 := hO1.c2
  have d3 := hO1.c3
  clear c0 c1
  rcases goodV_cases a b with h1 | h1
  · rw [h1]
    go_wp2_with fail
    refine (Good_any c d _).mono ?_
    rintro e w2 ⟨rfl, hb2⟩
    have hB2 := Below.call hB1 hb2
    have hO2 := hO1.on hb2
    have e0 := hO2.c0
    have e1 := hO2.c1
    have e2 := hO2.c2
    have e3 := hO2.c3
    clear d0 d1 d2 d3
    rcases goodV_cases c d with h2 | h2
    · rw [h2]
      by_cases h3 : c < a
      · have k3 : decide (c < a) = true := by simp [h3]
        have hv : goodB a b c d = 5 := if_neg (by omega)
        have HV := Lib.hid hv
        clear h1 h2 h3 hv
        go_wp2
        go_returns
        exact ⟨by rw [HV.out]; simp, hB2⟩
      · have k3 : decide (c < a) = false := by simp; omega
        by_cases h4 : d < b
        · have k4 : decide (d < b) = true := by simp [h4]
          have hv : goodB a b c d = 5 := if_neg (by omega)
          have HV := Lib.hid hv
          clear h1 h2 h3 h4 hv
          go_wp2
          go_returns
          exact ⟨by rw [HV.out]; simp, hB2⟩
        · have k4 : decide (d < b) = false := by simp; omega
          have hv : goodB a b c d = 0 := if_pos ⟨h1, h2, by omega, by omega⟩
          have HV := Lib.hid hv
          clear h1 h2 h3 h4 hv
          go_wp2
          go_returns
          exact ⟨by rw [HV.out]; simp, hB2⟩
    · have hv : goodB a b c d = 5 := if_neg (by omega)
      rw [h2]
      have HV := Lib.hid hv
      clear h1 h2 hv
      go_wp2
      go_returns
      exact ⟨by rw [HV.out]; simp, hB2⟩
  · have hv : goodB a b c d = 5 := if_neg (by omega)
    rw [h1]
    have HV := Lib.hid hv
    clear h1 hv
    go_wp2
    go_returns
    exact ⟨by rw [HV.out]; simp, hB1⟩

set_option maxRecDepth 100000 in
set_option maxHeartbeats 800000 in
theorem RMeets_any (a0 a1 a2 a3 b0 b1 b2 b3 : Int) (w : World) : Calls Tryd.prog 28 #[.agg #[.int .i64 a0, .int .i64 a1, .int .i64 a2, .int .i64 a3], .agg #[.int .i64 b0, .int .i64 b1, .int .i64 b2, .int .i64 b3]] w (RetB w (meets a0 a1 a2 a3 b0 b1 b2 b3)) := by
  go_enter Tryd.func28, Tryd.ntmps28
  go_upto_region 1 with fail
  have hO1 := (Own.newB w 56 a0 a1 a2 a3).alloc (.cells #[.int .i64 b0, .int .i64 b1, .int .i64 b2, .int .i64 b3] 56)
  have hO2 := Own.newB (w.alloc (.cells #[.int .i64 a0, .int .i64 a1, .int .i64 a2, .int .i64 a3] 56)) 56 b0 b1 b2 b3
  have hB : Below w.heap.size w ((w.alloc (.cells #[.int .i64 a0, .int .i64 a1, .int .i64 a2, .int .i64 a3] 56)).alloc (.cells #[.int .i64 b0, .int .i64 b1, .int .i64 b2, .int .i64 b3] 56)) := by go_grown
  have hgs : (w.alloc (.cells #[.int .i64 a0, .int .i64 a1, .int .i64 a2, .int .i64 a3] 56)).heap.size = w.heap.size + 1 := by simp
  rw [hgs] at hO2
  clear hgs
  generalize (w.alloc (.cells #[.int .i64 a0, .int .i64 a1, .int .i64 a2, .int .i64 a3] 56)).alloc (.cells #[.int .i64 b0, .int .i64 b1, .int .i64 b2, .int .i64 b3] 56) = W at hO1 hO2 hB ⊢
  have c0 := hO1.c0
  have c1 := hO1.c1
  have c2 := hO1.c2
  have c3 := hO1.c3
  have d0 := hO2.c0
  have d1 := hO2.c1
  have d2 := hO2.c2
  have d3 := hO2.c3
  obtain ⟨m1, hm1⟩ : ∃ m1, m1 = decide (max a0 b0 ≤ min a2 b2) := ⟨_, rfl⟩
  have HV : Hid (meets a0 a1 a2 a3 b0 b1 b2 b3 = (m1 && decide (max a1 b1 ≤ min a3 b3))) := Lib.hid (by rw [hm1]; rfl)
  cases m1
  all_goals (replace hm1 := hm1.symm)
  · go_wp2_with fail
    clear hm1
    go_returns
    exact ⟨by rw [HV.out]; simp, hB⟩
  · go_wp2_with fail
    clear hm1
    go_returns
    exact ⟨by rw [HV.out]; simp, hB⟩


/-- A point of the reference model is returned. -/
def RetR (w : World) (X Y D : Int) (e : Ending) (w' : World) : Prop := e = .returned (.agg #[.int .i64 X, .int .i64 Y, .int .i64 D]) ∧ Below w.heap.size w w'
def RetG (w : World) (X Y : Int) (e : Ending) (w' : World) : Prop := e = .returned (.agg #[.int .i64 X, .int .i64 Y]) ∧ Below w.heap.size w w'
theorem Own.new3 (w : World) (t : TypeId) (x y z : Value) : Own (w.alloc (.cells #[x, y, z] t)) w.heap.size t [x, y, z] := Own.new w t [x, y, z]
theorem Own.put3 {w : World} {g : Nat} {t : TypeId} {a b c : Value} (hO : Own w g t [a, b, c]) (u v s : Value) : Own (((w.setCell ⟨g, 0, none⟩ u).setCell ⟨g, 1, none⟩ v).setCell ⟨g, 2, none⟩ s) g t [u, v, s] := ((hO.set_ 0 u).set_ 1 v).set_ 2 s
theorem Below.put3 {B : Nat} {a w : World} {g : Nat} (h : Below B a w) (hg : B ≤ g) (u v s : Value) : Below B a (((w.setCell ⟨g, 0, none⟩ u).setCell ⟨g, 1, none⟩ v).setCell ⟨g, 2, none⟩ s) := ((h.setCell hg u).setCell hg v).setCell hg s
set_option maxRecDepth 100000 in
theorem ROf_any (x y : Int) (w : World) : Calls Tryd.prog 27 #[.agg #[.int .i64 x, .int .i64 y]] w (RetR w x y 1) := by
  go_enter Tryd.func27, Tryd.ntmps27
  go_wp2
  go_returns
  exact ⟨by simp, by go_grown⟩
/-- What Around reckons. -/
def around (n m : Int) : Int := (if n < 0 then -(n + 1) else n) % m
theorem around_neg {n m : Int} (h : n < 0) : around n m = -((n + 1).tmod m) := by
  rw [around, if_pos h, ← Int.neg_tmod, Int.tmod_eq_emod_of_nonneg (by omega)]
theorem around_pos {n m : Int} (h : ¬ n < 0) : around n m = n % m := by rw [around, if_neg h]
theorem around_bd (n : Int) {m : Int} (h : 0 < m) : 0 ≤ around n m ∧ around n m < m := ⟨Int.emod_nonneg _ (by omega), Int.emod_lt_of_pos _ h⟩
set_option maxRecDepth 100000 in
theorem Around_any (n m : Int) (w : World) (n0 : -9223372036854775808 ≤ n) (n1 : n ≤ 9223372036854775807) (m0 : 0 < m) (m1 : m ≤ 9223372036854775807) : Calls Tryd.prog 20 #[.int .i64 n, .int .i64 m] w (RetInt w (around n m)) := by
  go_enter Tryd.func20, Tryd.ntmps20
  by_cases h : n < 0
  · have HV := Lib.hid (around_neg (m := m) h)
    go_wp2
    go_returns
    exact ⟨by rw [HV.out]; simp, by go_grown⟩
  · have HV := Lib.hid (around_pos (m := m) h)
    go_wp2
    go_returns
    exact ⟨by rw [HV.out]; simp, by go_grown⟩
end Go.Proofs.YthcpaagfgkbjaaaDoor
