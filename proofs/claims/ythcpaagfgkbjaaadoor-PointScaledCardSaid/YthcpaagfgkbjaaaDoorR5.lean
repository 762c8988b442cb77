/-
  Contracts of the reference model of chapter 05: Grid, Scaled.
-/
import Derived.Test.YthcpaagfgkbjaaaDoorR4
namespace Go.Proofs.YthcpaagfgkbjaaaDoor
open Go.RowKit Mag

/-- Grid's point. -/
def gX (k : Int) : Int := if k % 3 = 0 then 8 * (k / 3 % 5) else k / 3 % 33
def gY (k : Int) : Int := if k % 3 = 0 then 8 * (k / 15 % 5) else k / 99 % 33
theorem gX_bd (k : Int) : 0 ≤ gX k ∧ gX k ≤ 32 := by unfold gX; split <;> omega
theorem gY_bd (k : Int) : 0 ≤ gY k ∧ gY k ≤ 32 := by unfold gY; split <;> omega
set_option maxRecDepth 100000 in
theorem Grid_any (n : Int) (w : World) (n0 : -9223372036854775808 ≤ n) (n1 : n ≤ 9223372036854775807) : Calls Tryd.prog 21 #[.int .i64 n] w (RetG w (gX (around n 1048576)) (gY (around n 1048576))) := by
  obtain ⟨k0, k2⟩ := around_bd n (m := 1048576) (by omega)
  generalize hk : around n 1048576 = k at k0 k2 ⊢
  have HK := Lib.hid hk
  clear hk
  go_enter Tryd.func21, Tryd.ntmps21
  have hO := Own.new2 w 40 (.int .i64 0) (.int .i64 0)
  have hB := below_new w (.cells #[.int .i64 0, .int .i64 0] 40)
  go_wp2_with fail
  refine (Around_any n 1048576 _ n0 n1 (by omega) (by omega)).mono ?_
  rintro e w1 ⟨rfl, k1⟩
  rw [HK.out]
  have hO2 := hO.on k1
  have hB2 := Below.call hB k1
  have z0 := hO2.c0
  have z1 := hO2.c1
  have f0 := hO2.frozen 0
  have f1 := hO2.frozen 1
  by_cases h : k % 3 = 0
  · have hd : (k % 3 == 0) = true := by simp [h]
    have HV : Hid (gX k = 8 * (k / 3 % 5) ∧ gY k = 8 * (k / 15 % 5)) := Lib.hid (by simp [gX, gY, h])
    have hO3 := hO2.put2 (.int .i64 (8 * (k / 3 % 5))) (.int .i64 (8 * (k / 15 % 5)))
    have q0 := hO3.c0
    have q1 := hO3.c1
    have HB := Lib.hid (Below.put2 hB2 (Nat.le_refl _) (.int .i64 (8 * (k / 3 % 5))) (.int .i64 (8 * (k / 15 % 5))))
    clear hO3 h
    go_wp2
    exact bodyPost_ret (v := .agg #[.int .i64 (8 * (k / 3 % 5)), .int .i64 (8 * (k / 15 % 5))]) (by simp [results, Tryd.results21, go_sem, q0, q1]) rfl ⟨by rw [HV.out.1, HV.out.2], HB.out⟩
  · have hd : (k % 3 == 0) = false := by simp [h]
    have HV : Hid (gX k = k / 3 % 33 ∧ gY k = k / 99 % 33) := Lib.hid (by simp [gX, gY, h])
    have hO3 := hO2.put2 (.int .i64 (k / 3 % 33)) (.int .i64 (k / 99 % 33))
    have q0 := hO3.c0
    have q1 := hO3.c1
    have HB := Lib.hid (Below.put2 hB2 (Nat.le_refl _) (.int .i64 (k / 3 % 33)) (.int .i64 (k / 99 % 33)))
    clear hO3 h
    go_wp2
    exact bodyPost_ret (v := .agg #[.int .i64 (k / 3 % 33), .int .i64 (k / 99 % 33)]) (by simp [results, Tryd.results21, go_sem, q0, q1]) rfl ⟨by rw [HV.out.1, HV.out.2], HB.out⟩
end Go.Proofs.YthcpaagfgkbjaaaDoor
