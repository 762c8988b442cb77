/-
  Contracts of the reference model of chapter 05: floor, nearest, Scaled.
-/
import Derived.Test.YthcpaagfgkbjaaaDoorR1
import Derived.Test.YthcpaagfgkbjaaaDoorP7
namespace Go.Proofs.YthcpaagfgkbjaaaDoor
open Go.RowKit Mag

set_option maxRecDepth 100000 in
theorem floor_any (n d : Int) (w : World) (n0 : -2305843009213693952 ≤ n) (n1 : n ≤ 2305843009213693952) (d0 : 0 < d) (d1 : d ≤ 2305843009213693952) : Calls Tryd.prog 73 #[.int .i64 n, .int .i64 d] w (RetInt w (n / d)) := by
  go_enter Tryd.func73, Tryd.ntmps73
  by_cases h : n < 0
  · have hd : n / d = -((-n + d - 1) / d) := by
      have h1 := Int.mul_ediv_add_emod n d
      have h2 := Int.mul_ediv_add_emod (-n + d - 1) d
      have h3 := Int.emod_nonneg n (by omega : d ≠ 0)
      have h4 := Int.emod_lt_of_pos n d0
      have h5 := Int.emod_nonneg (-n + d - 1) (by omega : d ≠ 0)
      have h6 := Int.emod_lt_of_pos (-n + d - 1) d0
      have h7 : d * (n / d + (-n + d - 1) / d) = d - 1 - n % d - (-n + d - 1) % d := by rw [Int.mul_add]; omega
      have h8 : n / d + (-n + d - 1) / d = 0 := by
        generalize n / d + (-n + d - 1) / d = k at h7
        rcases Int.lt_trichotomy k 0 with hk | hk | hk
        · have := Int.mul_le_mul_of_nonneg_left (show k ≤ -1 by omega) (show 0 ≤ d by omega)
          omega
        · exact hk
        · have := Int.mul_le_mul_of_nonneg_left (show 1 ≤ k by omega) (show 0 ≤ d by omega)
          omega
      omega
    have HV := Lib.hid hd
    have q0 : 0 ≤ (-n + d - 1) / d := Int.ediv_nonneg (by omega) (by omega)
    have q1 : (-n + d - 1) / d ≤ 4611686018427387904 := Int.le_trans (Int.ediv_le_self d (by omega)) (by omega)
    clear hd
    go_wp2
    go_returns
    exact ⟨by rw [HV.out]; simp, by go_grown⟩
  · go_wp2
    go_returns
    exact ⟨by simp, by go_grown⟩
set_option maxRecDepth 100000 in
theorem rnear_any (n d : Int) (w : World) (n0 : -1000000000000 ≤ n) (n1 : n ≤ 1000000000000) (d0 : 0 < d) (d1 : d ≤ 1000000000000) : Calls Tryd.prog 55 #[.int .i64 n, .int .i64 d] w (RetInt w (nr n d)) := by
  go_enter Tryd.func55, Tryd.ntmps55
  go_wp2_with fail
  refine (floor_any (d - 2 * n) (2 * d) _ (by omega) (by omega) (by omega) (by omega)).mono ?_
  rintro e w1 ⟨rfl, k1⟩
  have q0 : -9000000000000 ≤ (d - 2 * n) / (2 * d) := by
    have h1 := Int.mul_ediv_add_emod (d - 2 * n) (2 * d)
    have h4 := Int.emod_lt_of_pos (d - 2 * n) (show 0 < 2 * d by omega)
    generalize (d - 2 * n) / (2 * d) = k at h1 ⊢
    by_cases hk : k ≤ 0
    · have := Int.mul_le_mul_of_nonpos_right (show (2 : Int) ≤ 2 * d by omega) hk
      omega
    · omega
  have q1 : (d - 2 * n) / (2 * d) ≤ 9000000000000 := by
    have h1 := Int.mul_ediv_add_emod (d - 2 * n) (2 * d)
    have h3 := Int.emod_nonneg (d - 2 * n) (show 2 * d ≠ 0 by omega)
    generalize (d - 2 * n) / (2 * d) = k at h1 ⊢
    by_cases hk : 0 ≤ k
    · have := Int.mul_le_mul_of_nonneg_right (show (2 : Int) ≤ 2 * d by omega) hk
      omega
    · omega
  have HV : Hid (nr n d = -((d - 2 * n) / (2 * d))) := Lib.hid rfl
  go_wp2
  go_returns
  exact ⟨by rw [HV.out]; simp, k1⟩
end Go.Proofs.YthcpaagfgkbjaaaDoor
