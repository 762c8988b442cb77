/-
  Contracts of the reference model of chapter 05: Good, GoodBox, Of, Meets.
-/
import Derived.Test.YtfbbnphpapmpcaaGreatDoorP6
import Derived.Test.YtfbbnphpapmpcaaGreatDoorP7
import Derived.Test.YtfbbnphpapmpcaaGreatDoorG
import Derived.Test.YtfbbnphpapmpcaaGreatDoorP9
namespace Go.Proofs.YtfbbnphpapmpcaaGreatDoor
open Go.RowKit Mag

/-- A point of the reference model is returned. -/
def RetR (w : World) (X Y D : Int) (e : Ending) (w' : World) : Prop := e = .returned (.agg #[.int .i64 X, .int .i64 Y, .int .i64 D]) ∧ Below w.heap.size w w'
def RetG (w : World) (X Y : Int) (e : Ending) (w' : World) : Prop := e = .returned (.agg #[.int .i64 X, .int .i64 Y]) ∧ Below w.heap.size w w'
theorem Own.new3 (w : World) (t : TypeId) (x y z : Value) : Own (w.alloc (.cells #[x, y, z] t)) w.heap.size t [x, y, z] := Own.new w t [x, y, z]
theorem Own.put3 {w : World} {g : Nat} {t : TypeId} {a b c : Value} (hO : Own w g t [a, b, c]) (u v s : Value) : Own (((w.setCell ⟨g, 0, none⟩ u).setCell ⟨g, 1, none⟩ v).setCell ⟨g, 2, none⟩ s) g t [u, v, s] := ((hO.set_ 0 u).set_ 1 v).set_ 2 s
theorem Below.put3 {B : Nat} {a w : World} {g : Nat} (h : Below B a w) (hg : B ≤ g) (u v s : Value) : Below B a (((w.setCell ⟨g, 0, none⟩ u).setCell ⟨g, 1, none⟩ v).setCell ⟨g, 2, none⟩ s) := ((h.setCell hg u).setCell hg v).setCell hg s
set_option maxRecDepth 100000 in
theorem ROf_any (x y : Int) (w : World) : Calls Tryz.prog 19 #[.agg #[.int .i64 x, .int .i64 y]] w (RetR w x y 1) := by
  go_enter Tryz.func19, Tryz.ntmps19
  go_wp2
  go_returns
  exact ⟨by simp, by go_grown⟩
/-- What Around reckons. -/
def around (n m : Int) : Int := (if n < 0 then -(n + 1) else n) % m
theorem around_neg {n m : Int} (h : n < 0) : around n m = -((n + 1).tmod m) := by
  rw [around, if_pos h, ← Int.neg_tmod, Int.tmod_eq_emod_of_nonneg (by omega)]
theorem around_pos {n m : Int} (h : ¬ n < 0) : around n m = n % m := by rw [around, if_neg h]
theorem around_bd (n : Int) {m : Int} (h : 0 < m) : 0 ≤ around n m ∧ around n m < m := ⟨Int.emod_nonneg _ (by omega), Int.emod_lt_of_pos _ h⟩
set_option maxRecDepth 100000 in
theorem Around_any (n m : Int) (w : World) (n0 : -9223372036854775808 ≤ n) (n1 : n ≤ 9223372036854775807) (m0 : 0 < m) (m1 : m ≤ 9223372036854775807) : Calls Tryz.prog 17 #[.int .i64 n, .int .i64 m] w (RetInt w (around n m)) := by
  go_enter Tryz.func17, Tryz.ntmps17
  by_cases h : n < 0
  · have HV := Lib.hid (around_neg (m := m) h)
    go_wp2
    go_returns
    exact ⟨by rw [HV.out]; simp, by go_grown⟩
  · have HV := Lib.hid (around_pos (m := m) h)
    go_wp2
    go_returns
    exact ⟨by rw [HV.out]; simp, by go_grown⟩
end Go.Proofs.YtfbbnphpapmpcaaGreatDoor

/-
  (second part)
-/
namespace Go.Proofs.YtfbbnphpapmpcaaGreatDoor
open Go.RowKit Mag

end Go.Proofs.YtfbbnphpapmpcaaGreatDoor

/-
  (second part)
-/
namespace Go.Proofs.YtfbbnphpapmpcaaGreatDoor
open Go.RowKit Mag

set_option maxRecDepth 100000 in
theorem common_any (a b : Int) (w : World) (a0 : -9223372036854775808 < a) (a1 : a ≤ 9223372036854775807) (b0 : -9223372036854775808 < b) (b1 : b ≤ 9223372036854775807) : Calls Tryz.prog 38 #[.int .i64 a, .int .i64 b] w (RetInt w (Int.gcd a b : Nat)) := by
  go_enter Tryz.func38, Tryz.ntmps38
  by_cases ha : a < 0 <;> by_cases hb : b < 0
  all_goals
    go_wp2_with fail
    go_loopw [0, 1] (fun s0 s1 wr => ∃ x y : Int, s0 = .int .i64 x ∧ s1 = .int .i64 y ∧ 0 ≤ x ∧ x ≤ 9223372036854775807 ∧ 0 ≤ y ∧ y ≤ 9223372036854775807 ∧ Hid (Int.gcd x y = Int.gcd a b) ∧ wr = w) (fun _ s1 _ => (intOf s1).toNat)
    case atStart => exact ⟨_, _, rfl, rfl, by omega, by omega, by omega, by omega, Lib.hid (by simp [Int.neg_gcd, Int.gcd_neg]), rfl⟩
    case round =>
      obtain ⟨x, y, rfl, rfl, x0, x1, y0, y1, hg, rfl⟩ := hrel
      by_cases hy : 0 < y
      · have m0 := Int.emod_nonneg x (show y ≠ 0 by omega)
        have m1 := Int.emod_lt_of_pos x hy
        have hg2 : Int.gcd y (x % y) = Int.gcd a b := by
          rw [← hg.out, Int.gcd_comm x y]
          have h := Int.gcd_add_mul_left_right y (x % y) (x / y)
          rw [Int.emod_add_mul_ediv] at h
          exact h.symm
        have HG := Lib.hid hg2
        clear hg2
        go_wp2_with fail
        go_roundw
        case rel => exact ⟨y, x % y, rfl, rfl, by omega, by omega, by omega, by omega, HG, trivial⟩
        case measure => simp only [intOf]; omega
      · have hr : ((Int.gcd a b : Nat) : Int) = x := by
          rw [← hg.out, show y = 0 by omega, Int.gcd_zero_right]
          omega
        have HR := Lib.hid hr
        clear hr
        go_wp2
        go_returns
        exact ⟨by rw [HR.out]; simp, Below.refl _ _⟩
end Go.Proofs.YtfbbnphpapmpcaaGreatDoor

/-
  (second part)
-/
namespace Go.Proofs.YtfbbnphpapmpcaaGreatDoor
open Go.RowKit Mag

/-- The common divisor that Make divides by. -/
def gMk (x y d : Int) : Int := (Int.gcd (Int.gcd x y : Nat) d : Nat)
theorem gMk_pos {x y d : Int} (hd : 0 < d) : 0 < gMk x y d := by
  have := Int.gcd_pos_of_ne_zero_right ((Int.gcd x y : Nat) : Int) (show d ≠ 0 by omega)
  unfold gMk
  omega
theorem gMk_x (x y d : Int) : gMk x y d ∣ x := Int.dvd_trans (Int.gcd_dvd_left _ _) (Int.gcd_dvd_left x y)
theorem gMk_y (x y d : Int) : gMk x y d ∣ y := Int.dvd_trans (Int.gcd_dvd_left _ _) (Int.gcd_dvd_right x y)
theorem gMk_d (x y d : Int) : gMk x y d ∣ d := Int.gcd_dvd_right _ _
theorem gcd_le_max {x y : Int} (hx : x.natAbs ≤ 9223372036854775807) (hy : y.natAbs ≤ 9223372036854775807) : ((Int.gcd x y : Nat) : Int) ≤ 9223372036854775807 := by
  by_cases h : x = 0
  · subst h
    rw [Int.gcd_zero_left]
    omega
  · have := Int.gcd_le_natAbs_left y h
    omega
set_option maxRecDepth 100000 in
set_option maxHeartbeats 800000 in
theorem Make_ref (x y d : Int) (w : World) (hx : x.natAbs ≤ 9223372036854775806) (hy : y.natAbs ≤ 9223372036854775806) (d0 : 0 < d) (d1 : d ≤ 9223372036854775806) : Calls Tryz.prog 20 #[.int .i64 x, .int .i64 y, .int .i64 d] w (RetR w (x / gMk x y d) (y / gMk x y d) (d / gMk x y d)) := by
  have hg1 := gcd_le_max (x := x) (y := y) (by omega) (by omega)
  have hd : decide (d < 0) = false := by simp; omega
  have hGp := gMk_pos (x := x) (y := y) d0
  have e1 : x.tdiv (gMk x y d) = x / gMk x y d := Int.tdiv_eq_ediv_of_dvd (gMk_x x y d)
  have e2 : y.tdiv (gMk x y d) = y / gMk x y d := Int.tdiv_eq_ediv_of_dvd (gMk_y x y d)
  have e3 : d.tdiv (gMk x y d) = d / gMk x y d := Int.tdiv_eq_ediv_of_dvd (gMk_d x y d)
  go_enter Tryz.func20, Tryz.ntmps20
  go_wp2_with fail
  refine (common_any x y _ (by omega) (by omega) (by omega) (by omega)).mono ?_
  rintro e w1 ⟨rfl, k1⟩
  go_wp2_with fail
  refine (common_any _ d _ (by omega) (by omega) (by omega) (by omega)).mono ?_
  rintro e w2 ⟨rfl, k2⟩
  have hO := Own.new3 w 23 (.int .i64 0) (.int .i64 0) (.int .i64 0)
  have hB := below_new w (.cells #[.int .i64 0, .int .i64 0, .int .i64 0] 23)
  have b1 := Int.natAbs_ediv_le_natAbs x (gMk x y d)
  have b2 := Int.natAbs_ediv_le_natAbs y (gMk x y d)
  have b3 := Int.natAbs_ediv_le_natAbs d (gMk x y d)
  obtain ⟨G, hG⟩ : ∃ G, G = gMk x y d := ⟨_, rfl⟩
  rw [show ((((x.gcd y : Nat) : Int).gcd d : Nat) : Int) = G from hG.symm]
  rw [← hG] at b1 b2 b3 e1 e2 e3 hGp
  obtain ⟨X, hX⟩ : ∃ X, X = x / G := ⟨_, rfl⟩
  obtain ⟨Y, hY⟩ : ∃ Y, Y = y / G := ⟨_, rfl⟩
  obtain ⟨D, hD⟩ : ∃ D, D = d / G := ⟨_, rfl⟩
  have HV : Hid (X = x / gMk x y d ∧ Y = y / gMk x y d ∧ D = d / gMk x y d) := Lib.hid (by rw [← hG]; exact ⟨hX, hY, hD⟩)
  rw [← hX] at b1 e1
  rw [← hY] at b2 e2
  rw [← hD] at b3 e3
  clear hG hX hY hD
  have g0 : G ≠ 0 := by omega
  have g1 : (G == 0) = false := by simp; omega
  have l1 : -9223372036854775808 ≤ X := by omega
  have l2 : X ≤ 9223372036854775807 := by omega
  have l3 : -9223372036854775808 ≤ Y := by omega
  have l4 : Y ≤ 9223372036854775807 := by omega
  have l5 : -9223372036854775808 ≤ D := by omega
  have l6 : D ≤ 9223372036854775807 := by omega
  have hO2 := (hO.on k1).on k2
  have hB2 := Below.call (Below.call hB k1) k2
  have z0 := hO2.c0
  have z1 := hO2.c1
  have z2 := hO2.c2
  have f0 := hO2.frozen 0
  have f1 := hO2.frozen 1
  have f2 := hO2.frozen 2
  have hO3 := hO2.put3 (.int .i64 X) (.int .i64 Y) (.int .i64 D)
  have q0 := hO3.c0
  have q1 := hO3.c1
  have q2 := hO3.c2
  have HB := Lib.hid (Below.put3 hB2 (Nat.le_refl _) (.int .i64 X) (.int .i64 Y) (.int .i64 D))
  clear hO3 b1 b2 b3
  go_upto_region 6 with fail
  go_region
  go_wp2
  refine bodyPost_ret (v := .agg #[.int .i64 X, .int .i64 Y, .int .i64 D]) (by simp [results, Tryz.results20, go_sem, q0, q1, q2]) rfl ⟨?_, Below.drew HB.out⟩
  obtain ⟨h1, h2, h3⟩ := HV.out
  rw [h1, h2, h3]
end Go.Proofs.YtfbbnphpapmpcaaGreatDoor

/-
  (second part)
-/
namespace Go.Proofs.YtfbbnphpapmpcaaGreatDoor
open Go.RowKit Mag

/-- Grid's point. -/
def gX (k : Int) : Int := if k % 3 = 0 then 8 * (k / 3 % 5) else k / 3 % 33
def gY (k : Int) : Int := if k % 3 = 0 then 8 * (k / 15 % 5) else k / 99 % 33
theorem gX_bd (k : Int) : 0 ≤ gX k ∧ gX k ≤ 32 := by unfold gX; split <;> omega
theorem gY_bd (k : Int) : 0 ≤ gY k ∧ gY k ≤ 32 := by unfold gY; split <;> omega
set_option maxRecDepth 100000 in
theorem Grid_any (n : Int) (w : World) (n0 : -9223372036854775808 ≤ n) (n1 : n ≤ 9223372036854775807) : Calls Tryz.prog 18 #[.int .i64 n] w (RetG w (gX (around n 1048576)) (gY (around n 1048576))) := by
  obtain ⟨k0, k2⟩ := around_bd n (m := 1048576) (by omega)
  generalize hk : around n 1048576 = k at k0 k2 ⊢
  have HK := Lib.hid hk
  clear hk
  go_enter Tryz.func18, Tryz.ntmps18
  have hO := Own.new2 w 55 (.int .i64 0) (.int .i64 0)
  have hB := below_new w (.cells #[.int .i64 0, .int .i64 0] 55)
  go_wp2_with fail
  refine (Around_any n 1048576 _ n0 n1 (by omega) (by omega)).mono ?_
  rintro e w1 ⟨rfl, k1⟩
  rw [HK.out]
  have hO2 := hO.on k1
  have hB2 := Below.call hB k1
  have z0 := hO2.c0
  have z1 := hO2.c1
  have f0 := hO2.frozen 0
  have f1 := hO2.frozen 1
  by_cases h : k % 3 = 0
  · have hd : (k % 3 == 0) = true := by simp [h]
    have HV : Hid (gX k = 8 * (k / 3 % 5) ∧ gY k = 8 * (k / 15 % 5)) := Lib.hid (by simp [gX, gY, h])
    have hO3 := hO2.put2 (.int .i64 (8 * (k / 3 % 5))) (.int .i64 (8 * (k / 15 % 5)))
    have q0 := hO3.c0
    have q1 := hO3.c1
    have HB := Lib.hid (Below.put2 hB2 (Nat.le_refl _) (.int .i64 (8 * (k / 3 % 5))) (.int .i64 (8 * (k / 15 % 5))))
    clear hO3 h
    go_wp2
    exact bodyPost_ret (v := .agg #[.int .i64 (8 * (k / 3 % 5)), .int .i64 (8 * (k / 15 % 5))]) (by simp [results, Tryz.results18, go_sem, q0, q1]) rfl ⟨by rw [HV.out.1, HV.out.2], HB.out⟩
  · have hd : (k % 3 == 0) = false := by simp [h]
    have HV : Hid (gX k = k / 3 % 33 ∧ gY k = k / 99 % 33) := Lib.hid (by simp [gX, gY, h])
    have hO3 := hO2.put2 (.int .i64 (k / 3 % 33)) (.int .i64 (k / 99 % 33))
    have q0 := hO3.c0
    have q1 := hO3.c1
    have HB := Lib.hid (Below.put2 hB2 (Nat.le_refl _) (.int .i64 (k / 3 % 33)) (.int .i64 (k / 99 % 33)))
    clear hO3 h
    go_wp2
    exact bodyPost_ret (v := .agg #[.int .i64 (k / 3 % 33), .int .i64 (k / 99 % 33)]) (by simp [results, Tryz.results18, go_sem, q0, q1]) rfl ⟨by rw [HV.out.1, HV.out.2], HB.out⟩
end Go.Proofs.YtfbbnphpapmpcaaGreatDoor

/-
  (second part)
-/
namespace Go.Proofs.YtfbbnphpapmpcaaGreatDoor
open Go.RowKit Mag

set_option maxRecDepth 100000 in
set_option maxHeartbeats 1600000 in
theorem real_any (X Y D : Int) (w : World) (hX : in64 X) (hY : in64 Y) (hD : in64 D) (h0 : D ≠ 0) : Calls Tryz.prog 7 #[.agg #[.int .i64 X, .int .i64 Y, .int .i64 D]] w (RetP w (mkP X D) (mkQ X D) (mkP Y D) (mkQ Y D)) := by
  go_enter Tryz.func7, Tryz.ntmps7
  go_upto_region 1 with fail
  refine wp_new2 fun W hS hO hB => ?_
  obtain ⟨r0, r1, r2⟩ := hS.rules3
  have hW := Below.refl W.heap.size W
  go_wp2_with fail
  refine (Of_any X D _ hX.1 hX.2 hD.1 hD.2 h0).mono ?_
  rintro e w1 ⟨f, rfl, k1, hf⟩
  go_upto_region 2 with fail
  refine wp_new1 fun w2 hF k2 => ?_
  have h2 := Below.call k1 k2
  go_wp2_with fail
  refine (Of_any Y D _ hY.1 hY.2 hD.1 hD.2 h0).mono ?_
  rintro e w3 ⟨g, rfl, k3, hg⟩
  have h3 := Below.call h2 k3
  go_upto_region 3 with fail
  refine wp_new1 fun w4 hG k4 => ?_
  have h4 := Below.call h3 k4
  have hF4 := hF.on (Below.call k3 k4)
  clear r0 r1 r2 hF
  obtain ⟨x0, x1, x2, x3, _⟩ := hF4.all4
  obtain ⟨y0, y1, y2, y3, _⟩ := hG.all4
  have hO4 : Own w4 (w.heap.size + 1) 33 z8 := hO.on h4
  obtain ⟨c0, c1, c2, c3, c4, c5, c6, c7, f0, f1, f2, f3, f4, f5, f6, f7⟩ := hO4.all8
  have hp : RetP w (mkP X D) (mkQ X D) (mkP Y D) (mkQ Y D) (.returned (.agg #[.bool (⟨f, g⟩ : PV).x.p.neg, .slice (⟨f, g⟩ : PV).x.p.A (⟨f, g⟩ : PV).x.p.n (⟨f, g⟩ : PV).x.p.c, .bool (⟨f, g⟩ : PV).x.l.neg, .slice (⟨f, g⟩ : PV).x.l.A (⟨f, g⟩ : PV).x.l.n (⟨f, g⟩ : PV).x.l.c, .bool (⟨f, g⟩ : PV).y.p.neg, .slice (⟨f, g⟩ : PV).y.p.A (⟨f, g⟩ : PV).y.p.n (⟨f, g⟩ : PV).y.p.c, .bool (⟨f, g⟩ : PV).y.l.neg, .slice (⟨f, g⟩ : PV).y.l.A (⟨f, g⟩ : PV).y.l.n (⟨f, g⟩ : PV).y.l.c])) (putP w4 (w.heap.size + 1) ⟨f, g⟩) :=
    ⟨⟨f, g⟩, rfl, Below.putP (Below.call hB h4) (by omega), PV.is.putP (b := ⟨f, g⟩) ⟨(hf.on (Below.call k2 k3)).on k4, hg.on k4⟩ hO4⟩
  obtain ⟨q0, q1, q2, q3, q4, q5, q6, q7, _⟩ := (hO4.putP (a := ⟨f, g⟩)).all8
  have HP := Lib.hid hp
  clear hp
  go_wp2
  exact bodyPost_ret (v := .agg #[.bool f.p.neg, .slice f.p.A f.p.n f.p.c, .bool f.l.neg, .slice f.l.A f.l.n f.l.c, .bool g.p.neg, .slice g.p.A g.p.n g.p.c, .bool g.l.neg, .slice g.l.A g.l.n g.l.c]) (by simp [results, Tryz.results7, go_sem, q0, q1, q2, q3, q4, q5, q6, q7]) rfl HP.out

/-- What Some makes of a number. -/
def sK (n : Int) : Int := around n 1048576
def dTab : List Int := [1, 1, 1, 2, 2, 3, 5, 12]
def sD0 (n : Int) : Int := dTab.getD (sK n % 8).toNat 1
def sX0 (n : Int) : Int := gX (around (sK n / 8) 1048576) * sD0 n - sK n / 64 % sD0 n
def sY0 (n : Int) : Int := gY (around (sK n / 8) 1048576) * sD0 n - sK n / 256 % sD0 n
def sG (n : Int) : Int := gMk (sX0 n) (sY0 n) (sD0 n)
def sX (n : Int) : Int := sX0 n / sG n
def sY (n : Int) : Int := sY0 n / sG n
def sD (n : Int) : Int := sD0 n / sG n
theorem dTab_all (i : Nat) : dTab.getD i 1 = 1 ∨ dTab.getD i 1 = 2 ∨ dTab.getD i 1 = 3 ∨ dTab.getD i 1 = 5 ∨ dTab.getD i 1 = 12 := by
  match i with
  | 0 | 1 | 2 | 3 | 4 | 5 | 6 | 7 => simp [dTab]
  | i + 8 => simp [dTab]
theorem sD0_bd (n : Int) : 0 < sD0 n ∧ sD0 n ≤ 12 := by
  have := dTab_all (sK n % 8).toNat
  unfold sD0
  omega
theorem mul_bd {a d : Int} (h0 : 0 ≤ a) (h1 : a ≤ 32) (d0 : 0 < d) (d1 : d ≤ 12) : 0 ≤ a * d ∧ a * d ≤ 384 :=
  ⟨Int.mul_nonneg h0 (by omega), by have := Int.mul_le_mul h1 d1 (by omega) (by omega); omega⟩
theorem sX0_bd (n : Int) : -12 ≤ sX0 n ∧ sX0 n ≤ 384 := by
  obtain ⟨d0, d1⟩ := sD0_bd n
  have h1 := gX_bd (around (sK n / 8) 1048576)
  have h2 := mul_bd h1.1 h1.2 d0 d1
  have h3 := Int.emod_nonneg (sK n / 64) (show sD0 n ≠ 0 by omega)
  have h4 := Int.emod_lt_of_pos (sK n / 64) d0
  unfold sX0
  omega
theorem sY0_bd (n : Int) : -12 ≤ sY0 n ∧ sY0 n ≤ 384 := by
  obtain ⟨d0, d1⟩ := sD0_bd n
  have h1 := gY_bd (around (sK n / 8) 1048576)
  have h2 := mul_bd h1.1 h1.2 d0 d1
  have h3 := Int.emod_nonneg (sK n / 256) (show sD0 n ≠ 0 by omega)
  have h4 := Int.emod_lt_of_pos (sK n / 256) d0
  unfold sY0
  omega
theorem gMk_one (x y : Int) : gMk x y 1 = 1 := by
  unfold gMk
  rw [Int.gcd_one_right]
  rfl
set_option maxRecDepth 100000 in
set_option maxHeartbeats 1600000 in
theorem Some_any (n : Int) (w : World) (hn : in64 n) : Calls Tryz.prog 5 #[.int .i64 n] w (RetR w (sX n) (sY n) (sD n)) := by
  obtain ⟨k0, k2⟩ := around_bd n (m := 1048576) (by omega)
  obtain ⟨d0, d1⟩ := sD0_bd n
  have hx := sX0_bd n
  have hy := sY0_bd n
  obtain ⟨k, hk⟩ : ∃ k, k = sK n := ⟨_, rfl⟩
  obtain ⟨d, hd⟩ : ∃ d, d = sD0 n := ⟨_, rfl⟩
  have hk' : around n 1048576 = k := hk.symm
  rw [hk'] at k0 k2
  rw [← hd] at d0 d1
  have gx := gX_bd (around (k / 8) 1048576)
  have gy := gY_bd (around (k / 8) 1048576)
  have mx := mul_bd gx.1 gx.2 d0 d1
  have my := mul_bd gy.1 gy.2 d0 d1
  have e1 := Int.emod_nonneg (k / 64) (show d ≠ 0 by omega)
  have e2 := Int.emod_lt_of_pos (k / 64) d0
  have e3 := Int.emod_nonneg (k / 256) (show d ≠ 0 by omega)
  have e4 := Int.emod_lt_of_pos (k / 256) d0
  have hcell : ∀ u : World, (u.alloc (.cells #[.int .i64 1, .int .i64 1, .int .i64 1, .int .i64 2, .int .i64 2, .int .i64 3, .int .i64 5, .int .i64 12] 3)).cell? ⟨u.heap.size, (k % 8).toNat, none⟩ = some (.int .i64 d) := fun u => by
    have hO := Own.new u 3 (dTab.map i64)
    have h8 : (k % 8).toNat < dTab.length := by simp [dTab]; omega
    refine (hO.cell _).trans ?_
    rw [hd, sD0, ← hk, List.getElem?_map, List.getElem?_eq_getElem h8, List.getD_eq_getElem?_getD, List.getElem?_eq_getElem h8]
    rfl
  have HK := Lib.hid hk'
  have HD := Lib.hid hd
  have HK2 := Lib.hid hk
  clear hk' hd hk
  go_enter Tryz.func5, Tryz.ntmps5
  go_upto_region 1 with fail
  refine wp_new1 fun W hO hB => ?_
  go_wp2_with fail
  refine (Around_any n 1048576 _ hn.1 hn.2 (by omega) (by omega)).mono ?_
  rintro e w1 ⟨rfl, k1⟩
  rw [HK.out]
  go_wp2_with fail
  refine (Grid_any (k / 8) _ (by omega) (by omega)).mono ?_
  rintro e w2 ⟨rfl, k3⟩
  have h2 := Below.call k1 k3
  go_upto_region 3 with fail
  refine wp_new1 fun w3 hG k4 => ?_
  have h3 := Below.call h2 k4
  have hcl := hcell w3
  go_upto_region 4 with fail
  refine wp_new1 fun w4 hL k5 => ?_
  have hB4 := Below.call hB (Below.call h3 k5)
  have hG := hG.on k5
  have hO4 := hO.on (Below.call h3 k5)
  clear hcl hcell hL
  by_cases hd1 : d = 1
  · subst hd1
    obtain ⟨l0, l1, _⟩ := hG.all2
    have hz : sX n = gX (around (k / 8) 1048576) ∧ sY n = gY (around (k / 8) 1048576) ∧ sD n = 1 := by
      have e0 : sD0 n = 1 := HD.out.symm
      have e1 : sX0 n = gX (around (k / 8) 1048576) := by rw [sX0, e0, ← HK2.out]; simp
      have e2 : sY0 n = gY (around (k / 8) 1048576) := by rw [sY0, e0, ← HK2.out]; simp
      have e3 : sG n = 1 := by rw [sG, e0]; exact gMk_one _ _
      rw [sX, sY, sD, e0, e1, e2, e3]
      simp
    have HZ := Lib.hid hz
    clear hz
    go_wp2_with fail
    refine (ROf_any _ _ _).mono ?_
    rintro e w5 ⟨rfl, k6⟩
    have hO5 := hO4.on k6
    obtain ⟨z0, z1, z2, f0, f1, f2⟩ := hO5.all3
    have hO6 := hO5.put3 (.int .i64 (gX (around (k / 8) 1048576))) (.int .i64 (gY (around (k / 8) 1048576))) (.int .i64 1)
    obtain ⟨q0, q1, q2, _⟩ := hO6.all3
    have HB := Lib.hid (Below.put3 (Below.call hB4 k6) (Nat.le_refl _) (.int .i64 (gX (around (k / 8) 1048576))) (.int .i64 (gY (around (k / 8) 1048576))) (.int .i64 1))
    clear hO6 l0 l1
    go_wp2
    exact bodyPost_ret (v := .agg #[.int .i64 (gX (around (k / 8) 1048576)), .int .i64 (gY (around (k / 8) 1048576)), .int .i64 1]) (by simp [results, Tryz.results5, go_sem, q0, q1, q2]) rfl ⟨by rw [HZ.out.1, HZ.out.2.1, HZ.out.2.2], HB.out⟩
  · have hdd : (d == 1) = false := by simp [hd1]
    have d0' : ¬ d = 0 := by omega
    have HM : Hid (∀ u, Calls Tryz.prog 20 #[.int .i64 (gX (around (k / 8) 1048576) * d - k / 64 % d), .int .i64 (gY (around (k / 8) 1048576) * d - k / 256 % d), .int .i64 d] u (RetR u (sX n) (sY n) (sD n))) := Lib.hid fun u => by
      have h := Make_ref (gX (around (k / 8) 1048576) * d - k / 64 % d) (gY (around (k / 8) 1048576) * d - k / 256 % d) d u (by omega) (by omega) d0 (by omega)
      have e1 : gX (around (k / 8) 1048576) * d - k / 64 % d = sX0 n := by rw [sX0, ← HD.out, ← HK2.out]
      have e2 : gY (around (k / 8) 1048576) * d - k / 256 % d = sY0 n := by rw [sY0, ← HD.out, ← HK2.out]
      rw [e1, e2, HD.out] at h ⊢
      exact h
    have hm := HM
    obtain ⟨X, hX⟩ : ∃ X, X = sX n := ⟨_, rfl⟩
    obtain ⟨Y, hY⟩ : ∃ Y, Y = sY n := ⟨_, rfl⟩
    obtain ⟨Z, hZ⟩ : ∃ Z, Z = sD n := ⟨_, rfl⟩
    rw [← hX, ← hY, ← hZ] at HM
    have HE := Lib.hid (And.intro hX (And.intro hY hZ))
    clear hX hY hZ hm hd1
    go_wp2_with fail
    refine wp_region_last w4 [Spec.eq (.pointer (some ⟨w2.heap.size, 0, none⟩)), Spec.eq (.int .i64 (gX (around (k / 8) 1048576))), Spec.eq (.int .i64 d), Spec.eq (.int .i64 (gX (around (k / 8) 1048576) * d)), Spec.eq (.int .i64 k), Spec.eq (.int .i64 (k / 64)), Spec.eq (.int .i64 d), Spec.eq (.int .i64 (k / 64 % d)), Spec.eq (.int .i64 (gX (around (k / 8) 1048576) * d - k / 64 % d)), Spec.eq (.pointer (some ⟨w2.heap.size, 1, none⟩)), Spec.eq (.int .i64 (gY (around (k / 8) 1048576))), Spec.eq (.int .i64 d), Spec.eq (.int .i64 (gY (around (k / 8) 1048576) * d)), Spec.eq (.int .i64 k), Spec.eq (.int .i64 (k / 256)), Spec.eq (.int .i64 d), Spec.eq (.int .i64 (k / 256 % d)), Spec.eq (.int .i64 (gY (around (k / 8) 1048576) * d - k / 256 % d)), Spec.eq (.int .i64 d), Spec.eq (.agg #[.int .i64 X, .int .i64 Y, .int .i64 Z])]
        rfl (by kernel_rfl) (by kernel_rfl) rfl (by kernel_rfl) (by kernel_rfl) (Below.drew (Below.refl _ _)) ?_ ?_
    ·
      refine RegSteps.cons ?_ ?_
      · intro _ az wz hC hF hD _ K hK
        have q4 : az.tmps[4]? = some (.pointer (some ⟨w2.heap.size, 0, none⟩)) := hF 4 rfl
        clear hF hD
        refine want_none rfl ?_
        go_simp
        exact hK _ _ hC (Below.refl _ _) rfl
      refine RegSteps.cons ?_ ?_
      · intro _ az wz hC hF hD _ K hK
        obtain ⟨_, q20, rfl⟩ := dep hD 0 rfl rfl rfl rfl
        obtain ⟨l0, l1, _⟩ := (hG.on hC).all2
        clear hF hD
        refine want_none rfl ?_
        go_simp
        exact hK _ _ hC (Below.refl _ _) rfl
      refine RegSteps.cons ?_ ?_
      · intro _ az wz hC hF hD _ K hK
        have q5 : az.tmps[5]? = some (.int .i64 d) := hF 5 rfl
        clear hF hD
        refine want_none rfl ?_
        go_simp
        exact hK _ _ hC (Below.refl _ _) rfl
      refine RegSteps.cons ?_ ?_
      · intro _ az wz hC hF hD _ K hK
        obtain ⟨_, q21, rfl⟩ := dep hD 1 rfl rfl rfl rfl
        obtain ⟨_, q22, rfl⟩ := dep hD 2 rfl rfl rfl rfl
        clear hF hD
        refine want_none rfl ?_
        go_simp
        try go_ints
        exact hK _ _ hC (Below.refl _ _) rfl
      refine RegSteps.cons ?_ ?_
      · intro _ az wz hC hF hD _ K hK
        have q3 : az.tmps[3]? = some (.int .i64 k) := hF 3 rfl
        clear hF hD
        refine want_none rfl ?_
        go_simp
        exact hK _ _ hC (Below.refl _ _) rfl
      refine RegSteps.cons ?_ ?_
      · intro _ az wz hC hF hD _ K hK
        obtain ⟨_, q24, rfl⟩ := dep hD 4 rfl rfl rfl rfl
        clear hF hD
        refine want_none rfl ?_
        go_simp
        try go_ints
        exact hK _ _ hC (Below.refl _ _) rfl
      refine RegSteps.cons ?_ ?_
      · intro _ az wz hC hF hD _ K hK
        have q5 : az.tmps[5]? = some (.int .i64 d) := hF 5 rfl
        clear hF hD
        refine want_none rfl ?_
        go_simp
        exact hK _ _ hC (Below.refl _ _) rfl
      refine RegSteps.cons ?_ ?_
      · intro _ az wz hC hF hD _ K hK
        obtain ⟨_, q25, rfl⟩ := dep hD 5 rfl rfl rfl rfl
        obtain ⟨_, q26, rfl⟩ := dep hD 6 rfl rfl rfl rfl
        clear hF hD
        refine want_none rfl ?_
        go_simp
        try go_ints
        exact hK _ _ hC (Below.refl _ _) rfl
      refine RegSteps.cons ?_ ?_
      · intro _ az wz hC hF hD _ K hK
        obtain ⟨_, q23, rfl⟩ := dep hD 3 rfl rfl rfl rfl
        obtain ⟨_, q27, rfl⟩ := dep hD 7 rfl rfl rfl rfl
        clear hF hD
        refine want_none rfl ?_
        go_simp
        try go_ints
        exact hK _ _ hC (Below.refl _ _) rfl
      refine RegSteps.cons ?_ ?_
      · intro _ az wz hC hF hD _ K hK
        have q4 : az.tmps[4]? = some (.pointer (some ⟨w2.heap.size, 0, none⟩)) := hF 4 rfl
        clear hF hD
        refine want_none rfl ?_
        go_simp
        exact hK _ _ hC (Below.refl _ _) rfl
      refine RegSteps.cons ?_ ?_
      · intro _ az wz hC hF hD _ K hK
        obtain ⟨_, q29, rfl⟩ := dep hD 9 rfl rfl rfl rfl
        obtain ⟨l0, l1, _⟩ := (hG.on hC).all2
        clear hF hD
        refine want_none rfl ?_
        go_simp
        exact hK _ _ hC (Below.refl _ _) rfl
      refine RegSteps.cons ?_ ?_
      · intro _ az wz hC hF hD _ K hK
        have q5 : az.tmps[5]? = some (.int .i64 d) := hF 5 rfl
        clear hF hD
        refine want_none rfl ?_
        go_simp
        exact hK _ _ hC (Below.refl _ _) rfl
      refine RegSteps.cons ?_ ?_
      · intro _ az wz hC hF hD _ K hK
        obtain ⟨_, q30, rfl⟩ := dep hD 10 rfl rfl rfl rfl
        obtain ⟨_, q31, rfl⟩ := dep hD 11 rfl rfl rfl rfl
        clear hF hD
        refine want_none rfl ?_
        go_simp
        try go_ints
        exact hK _ _ hC (Below.refl _ _) rfl
      refine RegSteps.cons ?_ ?_
      · intro _ az wz hC hF hD _ K hK
        have q3 : az.tmps[3]? = some (.int .i64 k) := hF 3 rfl
        clear hF hD
        refine want_none rfl ?_
        go_simp
        exact hK _ _ hC (Below.refl _ _) rfl
      refine RegSteps.cons ?_ ?_
      · intro _ az wz hC hF hD _ K hK
        obtain ⟨_, q33, rfl⟩ := dep hD 13 rfl rfl rfl rfl
        clear hF hD
        refine want_none rfl ?_
        go_simp
        try go_ints
        exact hK _ _ hC (Below.refl _ _) rfl
      refine RegSteps.cons ?_ ?_
      · intro _ az wz hC hF hD _ K hK
        have q5 : az.tmps[5]? = some (.int .i64 d) := hF 5 rfl
        clear hF hD
        refine want_none rfl ?_
        go_simp
        exact hK _ _ hC (Below.refl _ _) rfl
      refine RegSteps.cons ?_ ?_
      · intro _ az wz hC hF hD _ K hK
        obtain ⟨_, q34, rfl⟩ := dep hD 14 rfl rfl rfl rfl
        obtain ⟨_, q35, rfl⟩ := dep hD 15 rfl rfl rfl rfl
        clear hF hD
        refine want_none rfl ?_
        go_simp
        try go_ints
        exact hK _ _ hC (Below.refl _ _) rfl
      refine RegSteps.cons ?_ ?_
      · intro _ az wz hC hF hD _ K hK
        obtain ⟨_, q32, rfl⟩ := dep hD 12 rfl rfl rfl rfl
        obtain ⟨_, q36, rfl⟩ := dep hD 16 rfl rfl rfl rfl
        clear hF hD
        refine want_none rfl ?_
        go_simp
        try go_ints
        exact hK _ _ hC (Below.refl _ _) rfl
      refine RegSteps.cons ?_ ?_
      · intro _ az wz hC hF hD _ K hK
        have q5 : az.tmps[5]? = some (.int .i64 d) := hF 5 rfl
        clear hF hD
        refine want_none rfl ?_
        go_simp
        exact hK _ _ hC (Below.refl _ _) rfl
      refine RegSteps.cons ?_ ?_
      · intro _ az wz hC hF hD _ K hK
        obtain ⟨_, q28, rfl⟩ := dep hD 8 rfl rfl rfl rfl
        obtain ⟨_, q37, rfl⟩ := dep hD 17 rfl rfl rfl rfl
        obtain ⟨_, q38, rfl⟩ := dep hD 18 rfl rfl rfl rfl
        clear hF hD
        refine want_none rfl ?_
        go_simp
        refine (HM.out _).mono ?_
        rintro e wy ⟨rfl, k⟩
        exact hK _ _ (Below.call hC k) k rfl
      exact RegSteps.nil
    intro w5 hC5
    rintro _ rfl _ rfl _ rfl _ rfl _ rfl _ rfl _ rfl _ rfl _ rfl _ rfl _ rfl _ rfl _ rfl _ rfl _ rfl _ rfl _ rfl _ rfl _ rfl _ rfl
    simp only [List.dropLast, FinOK, Act.put, List.setIfInBounds_toArray, List.set_cons_zero, List.set_cons_succ]
    intro K hK
    refine want_none rfl ?_
    obtain ⟨z0, z1, z2, f0, f1, f2⟩ := (hO4.on hC5).all3
    go_simp
    refine hK _ _ ?_
    clear hK K
    have hO5 := (hO4.on hC5).put3 (.int .i64 X) (.int .i64 Y) (.int .i64 Z)
    obtain ⟨q0, q1, q2, _⟩ := hO5.all3
    have HB := Lib.hid (Below.put3 (Below.call hB4 hC5) (Nat.le_refl _) (.int .i64 X) (.int .i64 Y) (.int .i64 Z))
    clear hO5
    go_wp2
    exact bodyPost_ret (v := .agg #[.int .i64 X, .int .i64 Y, .int .i64 Z]) (by simp [results, Tryz.results5, go_sem, q0, q1, q2]) rfl ⟨by rw [HE.out.1, HE.out.2.1, HE.out.2.2], HB.out⟩

/-- In, by the reference. -/
def inR5 (a b c d X Y D : Int) : Bool := decide (a * D ≤ X) && decide (X ≤ c * D) && decide (b * D ≤ Y) && decide (Y ≤ d * D)
end Go.Proofs.YtfbbnphpapmpcaaGreatDoor
