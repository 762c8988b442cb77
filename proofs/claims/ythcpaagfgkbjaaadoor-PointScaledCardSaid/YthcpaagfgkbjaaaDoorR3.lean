/-
  Contracts of the reference model of chapter 05: common.
-/
import Derived.Test.YthcpaagfgkbjaaaDoorR2
namespace Go.Proofs.YthcpaagfgkbjaaaDoor
open Go.RowKit Mag

set_option maxRecDepth 100000 in
theorem common_any (a b : Int) (w : World) (a0 : -9223372036854775808 < a) (a1 : a ≤ 9223372036854775807) (b0 : -9223372036854775808 < b) (b1 : b ≤ 9223372036854775807) : Calls Tryd.prog 53 #[.int .i64 a, .int .i64 b] w (RetInt w (Int.gcd a b : Nat)) := by
  go_enter Tryd.func53, Tryd.ntmps53
  by_cases ha : a < 0 <;> by_cases hb : b < 0
  all_goals
    go_wp2_with fail
    go_loopw [0, 1] (fun s0 s1 wr => ∃ x y : Int, s0 = .int .i64 x ∧ s1 = .int .i64 y ∧ 0 ≤ x ∧ x ≤ 9223372036854775807 ∧ 0 ≤ y ∧ y ≤ 9223372036854775807 ∧ Hid (Int.gcd x y = Int.gcd a b) ∧ wr = w) (fun _ s1 _ => (intOf s1).toNat)
    case atStart => exact ⟨_, _, rfl, rfl, by omega, by omega, by omega, by omega, Lib.hid (by simp [Int.neg_gcd, Int.gcd_neg]), rfl⟩
    case round =>
      obtain ⟨x, y, rfl, rfl, x0, x1, y0, y1, hg, rfl⟩ := hrel
      by_cases hy : 0 < y
      · have m0 := Int.emod_nonneg x (show y ≠ 0 by omega)
        have m1 := Int.emod_lt_of_pos x hy
        have hg2 : Int.gcd y (x % y) = Int.gcd a b := by
          rw [← hg.out, Int.gcd_comm x y]
          have h := Int.gcd_add_mul_left_right y (x % y) (x / y)
          rw [Int.emod_add_mul_ediv] at h
          exact h.symm
        have HG := Lib.hid hg2
        clear hg2
        go_wp2_with fail
        go_roundw
        case rel => exact ⟨y, x % y, rfl, rfl, by omega, by omega, by omega, by omega, HG, trivial⟩
        case measure => simp only [intOf]; omega
      · have hr : ((Int.gcd a b : Nat) : Int) = x := by
          rw [← hg.out, show y = 0 by omega, Int.gcd_zero_right]
          omega
        have HR := Lib.hid hr
        clear hr
        go_wp2
        go_returns
        exact ⟨by rw [HR.out]; simp, Below.refl _ _⟩
end Go.Proofs.YthcpaagfgkbjaaaDoor
