/-
  Contracts of the reference model of chapter 05: Make, Grid, Scaled.
-/
import Derived.Test.YthcpaagfgkbjaaaDoorR3
namespace Go.Proofs.YthcpaagfgkbjaaaDoor
open Go.RowKit Mag

/-- The common divisor that Make divides by. -/
def gMk (x y d : Int) : Int := (Int.gcd (Int.gcd x y : Nat) d : Nat)
theorem gMk_pos {x y d : Int} (hd : 0 < d) : 0 < gMk x y d := by
  have := Int.gcd_pos_of_ne_zero_right ((Int.gcd x y : Nat) : Int) (show d ≠ 0 by omega)
  unfold gMk
  omega
theorem gMk_x (x y d : Int) : gMk x y d ∣ x := Int.dvd_trans (Int.gcd_dvd_left _ _) (Int.gcd_dvd_left x y)
theorem gMk_y (x y d : Int) : gMk x y d ∣ y := Int.dvd_trans (Int.gcd_dvd_left _ _) (Int.gcd_dvd_right x y)
theorem gMk_d (x y d : Int) : gMk x y d ∣ d := Int.gcd_dvd_right _ _
theorem gcd_le_max {x y : Int} (hx : x.natAbs ≤ 9223372036854775807) (hy : y.natAbs ≤ 9223372036854775807) : ((Int.gcd x y : Nat) : Int) ≤ 9223372036854775807 := by
  by_cases h : x = 0
  · subst h
    rw [Int.gcd_zero_left]
    omega
  · have := Int.gcd_le_natAbs_left y h
    omega
set_option maxRecDepth 100000 in
set_option maxHeartbeats 800000 in
theorem Make_ref (x y d : Int) (w : World) (hx : x.natAbs ≤ 9223372036854775806) (hy : y.natAbs ≤ 9223372036854775806) (d0 : 0 < d) (d1 : d ≤ 9223372036854775806) : Calls Tryd.prog 30 #[.int .i64 x, .int .i64 y, .int .i64 d] w (RetR w (x / gMk x y d) (y / gMk x y d) (d / gMk x y d)) := by
  have hg1 := gcd_le_max (x := x) (y := y) (by omega) (by omega)
  have hd : decide (d < 0) = false := by simp; omega
  have hGp := gMk_pos (x := x) (y := y) d0
  have e1 : x.tdiv (gMk x y d) = x / gMk x y d := Int.tdiv_eq_ediv_of_dvd (gMk_x x y d)
  have e2 : y.tdiv (gMk x y d) = y / gMk x y d := Int.tdiv_eq_ediv_of_dvd (gMk_y x y d)
  have e3 : d.tdiv (gMk x y d) = d / gMk x y d := Int.tdiv_eq_ediv_of_dvd (gMk_d x y d)
  go_enter Tryd.func30, Tryd.ntmps30
  go_wp2_with fail
  refine (common_any x y _ (by omega) (by omega) (by omega) (by omega)).mono ?_
  rintro e w1 ⟨rfl, k1⟩
  go_wp2_with fail
  refine (common_any _ d _ (by omega) (by omega) (by omega) (by omega)).mono ?_
  rintro e w2 ⟨rfl, k2⟩
  have hO := Own.new3 w 23 (.int .i64 0) (.int .i64 0) (.int .i64 0)
  have hB := below_new w (.cells #[.int .i64 0, .int .i64 0, .int .i64 0] 23)
  have b1 := Int.natAbs_ediv_le_natAbs x (gMk x y d)
  have b2 := Int.natAbs_ediv_le_natAbs y (gMk x y d)
  have b3 := Int.natAbs_ediv_le_natAbs d (gMk x y d)
  obtain ⟨G, hG⟩ : ∃ G, G = gMk x y d := ⟨_, rfl⟩
  rw [show ((((x.gcd y : Nat) : Int).gcd d : Nat) : Int) = G from hG.symm]
  rw [← hG] at b1 b2 b3 e1 e2 e3 hGp
  obtain ⟨X, hX⟩ : ∃ X, X = x / G := ⟨_, rfl⟩
  obtain ⟨Y, hY⟩ : ∃ Y, Y = y / G := ⟨_, rfl⟩
  obtain ⟨D, hD⟩ : ∃ D, D = d / G := ⟨_, rfl⟩
  have HV : Hid (X = x / gMk x y d ∧ Y = y / gMk x y d ∧ D = d / gMk x y d) := Lib.hid (by rw [← hG]; exact ⟨hX, hY, hD⟩)
  rw [← hX] at b1 e1
  rw [← hY] at b2 e2
  rw [← hD] at b3 e3
  clear hG hX hY hD
  have g0 : G ≠ 0 := by omega
  have g1 : (G == 0) = false := by simp; omega
  have l1 : -9223372036854775808 ≤ X := by omega
  have l2 : X ≤ 9223372036854775807 := by omega
  have l3 : -9223372036854775808 ≤ Y := by omega
  have l4 : Y ≤ 9223372036854775807 := by omega
  have l5 : -9223372036854775808 ≤ D := by omega
  have l6 : D ≤ 9223372036854775807 := by omega
  have hO2 := (hO.on k1).on k2
  have hB2 := Below.call (Below.call hB k1) k2
  have z0 := hO2.c0
  have z1 := hO2.c1
  have z2 := hO2.c2
  have f0 := hO2.frozen 0
  have f1 := hO2.frozen 1
  have f2 := hO2.frozen 2
  have hO3 := hO2.put3 (.int .i64 X) (.int .i64 Y) (.int .i64 D)
  have q0 := hO3.c0
  have q1 := hO3.c1
  have q2 := hO3.c2
  have HB := Lib.hid (Below.put3 hB2 (Nat.le_refl _) (.int .i64 X) (.int .i64 Y) (.int .i64 D))
  clear hO3 b1 b2 b3
  go_upto_region 6 with fail
  go_region
  go_wp2
  refine bodyPost_ret (v := .agg #[.int .i64 X, .int .i64 Y, .int .i64 D]) (by simp [results, Tryd.results30, go_sem, q0, q1, q2]) rfl ⟨?_, Below.drew HB.out⟩
  obtain ⟨h1, h2, h3⟩ := HV.out
  rw [h1, h2, h3]
end Go.Proofs.YthcpaagfgkbjaaaDoor
