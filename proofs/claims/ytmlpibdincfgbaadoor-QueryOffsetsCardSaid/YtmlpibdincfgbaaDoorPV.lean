/-
  Package point: Valid, ValidBox.
-/
import Derived.Test.YtmlpibdincfgbaaDoorT1
import Derived.Test.YtmlpibdincfgbaaDoorReg
namespace Go.Proofs.YtmlpibdincfgbaaDoor
open Go.RowKit Mag

theorem cmpI_le {x y : Int} : (cmpI x y ≤ 0) ↔ x ≤ y := by
  rcases Int.lt_trichotomy x y with h | h | h
  · rw [cmpI_lt h]; omega
  · rw [cmpI_eq h]; omega
  · rw [cmpI_gt h]; omega
def RetB (w : World) (b : Bool) (e : Ending) (w' : World) : Prop := e = .returned (.bool b) ∧ Below w.heap.size w w'
set_option maxRecDepth 100000 in
theorem within_int (lo x hi : Int) (w : World) : Calls Tryd.prog 97 #[.int .i64 lo, .int .i64 x, .int .i64 hi, .func (.func 98) #[] #[]] w (RetB w (decide (lo ≤ x) && decide (x ≤ hi))) := by
  by_cases h : lo ≤ x
  · have h1 : decide (cmpI lo x ≤ 0) = true := by simp [cmpI_le, h]
    have h2 : decide (cmpI x hi ≤ 0) = (decide (lo ≤ x) && decide (x ≤ hi)) := by simp [cmpI_le, h]
    clear h
    go_enter Tryd.func97, Tryd.ntmps97
    go_wp2_with fail
    refine (cmp_int lo x _).mono ?_
    rintro e w1 ⟨rfl, rfl⟩
    go_wp2_with fail
    refine (cmp_int x hi _).mono ?_
    rintro e w1 ⟨rfl, rfl⟩
    go_wp2
    go_returns
    exact ⟨by simp, by go_grown⟩
  · have h1 : decide (cmpI lo x ≤ 0) = false := by simp [cmpI_le]; omega
    have h2 : (decide (lo ≤ x) && decide (x ≤ hi)) = false := by simp; omega

    go_enter Tryd.func97, Tryd.ntmps97
    go_wp2_with fail
    refine (cmp_int lo x _).mono ?_
    rintro e w1 ⟨rfl, rfl⟩
    go_wp2
    go_returns
    exact ⟨by simp; omega, by go_grown⟩
/-- A coordinate within the limits. -/
def goodC (n : Int) : Bool := decide (-1073741824 ≤ n) && decide (n ≤ 1073741824)
def goodV (x y : Int) : Int := if goodC x && goodC y then 0 else 5
set_option maxRecDepth 100000 in
theorem index2_0 (x y : Value) (w : World) : (Instr.index 58 (.agg #[x, y]) (.int .i64 0)).run Tryd.prog w = .ok x w := by kernel_rfl
theorem index2_1 (x y : Value) (w : World) : (Instr.index 58 (.agg #[x, y]) (.int .i64 1)).run Tryd.prog w = .ok y w := by kernel_rfl
theorem within_good (x : Int) (w : World) : Calls Tryd.prog 97 #[.int .i64 (-1073741824), .int .i64 x, .int .i64 1073741824, .func (.func 98) #[] #[]] w (RetB w (goodC x)) := within_int _ _ _ _
set_option maxRecDepth 100000 in
theorem PValid_any (x y : Int) (w : World) : Calls Tryd.prog 83 #[.agg #[.int .i64 x, .int .i64 y]] w (RetInt w (goodV x y)) := by
  go_enter Tryd.func83, Tryd.ntmps83
  go_wp2_with fail
  have hb0 := below_new w (.cells #[.int .i64 x, .int .i64 y] 27)
  generalize w.alloc (.cells #[.int .i64 x, .int .i64 y] 27) = W at hb0 ⊢
  go_loopw [10] (fun i wr => ∃ k : Nat, k ≤ 2 ∧ i = .int .i64 k ∧ Hid ((0 < k → goodC x = true) ∧ (1 < k → goodC y = true)) ∧ Below w.heap.size w wr) (fun i _ => 2 - (intOf i).toNat)
  case atStart => exact ⟨0, by omega, rfl, Lib.hid ⟨by omega, by omega⟩, hb0⟩
  case round =>
    obtain ⟨k, hk, rfl, hg, hb⟩ := hrel
    rcases (by omega : k = 0 ∨ k = 1 ∨ k = 2) with rfl | rfl | rfl
    · have hix := index2_0 (.int .i64 x) (.int .i64 y)
      go_wp2_with fail
      refine (within_good x _).mono ?_
      rintro e w1 ⟨rfl, hb1⟩
      have hb2 := Below.call hb hb1
      by_cases hc : goodC x = true
      · rw [hc]
        have HC := Lib.hid hc
        clear hc
        go_wp2_with fail
        go_roundw
        case rel => exact ⟨1, by omega, rfl, Lib.hid ⟨by intro _; exact HC.out, by omega⟩, hb2⟩
        case measure => simp [intOf]
      · have hc2 : goodC x = false := by simpa using hc
        rw [hc2]
        have hv : goodV x y = 5 := by simp [goodV, hc2]
        have HV := Lib.hid hv
        clear hc hc2 hv
        go_wp2
        go_returns
        exact ⟨by rw [HV.out]; simp, hb2⟩
    · have hix := index2_1 (.int .i64 x) (.int .i64 y)
      go_wp2_with fail
      refine (within_good y _).mono ?_
      rintro e w1 ⟨rfl, hb1⟩
      have hb2 := Below.call hb hb1
      by_cases hc : goodC y = true
      · rw [hc]
        have HC := Lib.hid hc
        clear hc
        go_wp2_with fail
        go_roundw
        case rel => exact ⟨2, by omega, rfl, Lib.hid ⟨by intro _; exact hg.out.1 (by omega), by intro _; exact HC.out⟩, hb2⟩
        case measure => simp [intOf]
      · have hc2 : goodC y = false := by simpa using hc
        rw [hc2]
        have hv : goodV x y = 5 := by simp [goodV, hc2]
        have HV := Lib.hid hv
        clear hc hc2 hv
        go_wp2
        go_returns
        exact ⟨by rw [HV.out]; simp, hb2⟩
    · have hv : goodV x y = 0 := by simp [goodV, hg.out.1 (by omega), hg.out.2 (by omega)]
      have HV := Lib.hid hv
      clear hv
      go_wp2
      go_returns
      exact ⟨by rw [HV.out]; simp, hb⟩
end Go.Proofs.YtmlpibdincfgbaaDoor

/-
  (second part)
-/
namespace Go.Proofs.YtmlpibdincfgbaaDoor
open Go.RowKit Mag

theorem goodV_cases (x y : Int) : goodV x y = 0 ∨ goodV x y = 5 := by
  unfold goodV
  split
  · exact .inl rfl
  · exact .inr rfl
def goodB (a b c d : Int) : Int := if goodV a b = 0 ∧ goodV c d = 0 ∧ a ≤ c ∧ b ≤ d then 0 else 5
theorem Own.newB (w : World) (t : TypeId) (a b c d : Int) : Own (w.alloc (.cells #[.int .i64 a, .int .i64 b, .int .i64 c, .int .i64 d] t)) w.heap.size t [.int .i64 a, .int .i64 b, .int .i64 c, .int .i64 d] := Own.new w t [.int .i64 a, .int .i64 b, .int .i64 c, .int .i64 d]
set_option maxRecDepth 100000 in
set_option maxHeartbeats 800000 in
theorem PValidBox_any (a b c d : Int) (w : World) : Calls Tryd.prog 84 #[.agg #[.int .i64 a, .int .i64 b, .int .i64 c, .int .i64 d]] w (RetInt w (goodB a b c d)) := by
  go_enter Tryd.func84, Tryd.ntmps84
  go_upto_region 1 with fail
  have hO := Own.newB w 29 a b c d
  have hB := below_new w (.cells #[.int .i64 a, .int .i64 b, .int .i64 c, .int .i64 d] 29)
  generalize w.alloc (.cells #[.int .i64 a, .int .i64 b, .int .i64 c, .int .i64 d] 29) = W at hO hB ⊢
  have c0 := hO.c0
  have c1 := hO.c1
  go_wp2_with fail
  refine (PValid_any a b _).mono ?_
  rintro e w1 ⟨rfl, hb1⟩
  have hB1 := Below.call hB hb1
  have hO1 := hO.on hb1
  have d0 := hO1.c0
  have d1 := hO1.c1
  have d2 := hO1.c2
  have d3 := hO1.c3
  clear c0 c1
  rcases goodV_cases a b with h1 | h1
  · rw [h1]
    go_wp2_with fail
    refine (PValid_any c d _).mono ?_
    rintro e w2 ⟨rfl, hb2⟩
    have hB2 := Below.call hB1 hb2
    have hO2 := hO1.on hb2
    have e0 := hO2.c0
    have e1 := hO2.c1
    have e2 := hO2.c2
    have e3 := hO2.c3
    clear d0 d1 d2 d3
    rcases goodV_cases c d with h2 | h2
    · rw [h2]
      by_cases h3 : c < a
      · have k3 : decide (c < a) = true := by simp [h3]
        have hv : goodB a b c d = 5 := if_neg (by omega)
        have HV := Lib.hid hv
        clear h1 h2 h3 hv
        go_wp2
        go_returns
        exact ⟨by rw [HV.out]; simp, hB2⟩
      · have k3 : decide (c < a) = false := by simp; omega
        by_cases h4 : d < b
        · have k4 : decide (d < b) = true := by simp [h4]
          have hv : goodB a b c d = 5 := if_neg (by omega)
          have HV := Lib.hid hv
          clear h1 h2 h3 h4 hv
          go_wp2
          go_returns
          exact ⟨by rw [HV.out]; simp, hB2⟩
        · have k4 : decide (d < b) = false := by simp; omega
          have hv : goodB a b c d = 0 := if_pos ⟨h1, h2, by omega, by omega⟩
          have HV := Lib.hid hv
          clear h1 h2 h3 h4 hv
          go_wp2
          go_returns
          exact ⟨by rw [HV.out]; simp, hB2⟩
    · have hv : goodB a b c d = 5 := if_neg (by omega)
      rw [h2]
      have HV := Lib.hid hv
      clear h1 h2 hv
      go_wp2
      go_returns
      exact ⟨by rw [HV.out]; simp, hB2⟩
  · have hv : goodB a b c d = 5 := if_neg (by omega)
    rw [h1]
    have HV := Lib.hid hv
    clear h1 hv
    go_wp2
    go_returns
    exact ⟨by rw [HV.out]; simp, hB1⟩

end Go.Proofs.YtmlpibdincfgbaaDoor
