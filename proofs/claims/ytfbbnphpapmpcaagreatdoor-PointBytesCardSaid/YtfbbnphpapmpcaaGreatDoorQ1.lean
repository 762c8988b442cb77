/-
  Chapter 05: PointRound.
-/
import Derived.Test.YtfbbnphpapmpcaaGreatDoorR6
import Derived.Test.YtfbbnphpapmpcaaGreatDoorL1
namespace Go.Proofs.YtfbbnphpapmpcaaGreatDoor
open Go.RowKit Mag

/-! ### The plain law -/
theorem mkP_mul {X D : Int} (hD : 0 < D) : mkP X D * (Int.gcd X D : Nat) = X ∧ mkQ X D * (Int.gcd X D : Nat) = D := by
  have h1 : ((Int.gcd X D : Nat) : Int) ∣ X := Int.gcd_dvd_left _ _
  have h2 : ((Int.gcd X D : Nat) : Int) ∣ D := Int.gcd_dvd_right _ _
  have hs : D.sign = 1 := Int.sign_eq_one_of_pos hD
  unfold mkP mkQ
  rw [hs, Int.one_mul, Int.ediv_mul_cancel h1]
  refine ⟨rfl, ?_⟩
  rw [show ((D.natAbs : Nat) : Int) = D by omega, Int.ediv_mul_cancel h2]
theorem gcd_pos_r {X D : Int} (hD : 0 < D) : 0 < ((Int.gcd X D : Nat) : Int) := by
  have := Int.gcd_pos_of_ne_zero_right X (show D ≠ 0 by omega)
  omega
theorem mkQ_pos {X D : Int} (hD : 0 < D) : 0 < mkQ X D := by
  have h := (mkP_mul (X := X) hD).2
  have hg := gcd_pos_r (X := X) hD
  rcases Int.lt_or_lt_of_ne (show mkQ X D ≠ 0 by intro e; rw [e] at h; omega) with h1 | h1
  · have := Int.mul_neg_of_neg_of_pos h1 hg
    omega
  · exact h1
theorem nr_mul (p q : Int) {g : Int} (hg : 0 < g) : nr (p * g) (q * g) = nr p q := by
  unfold nr
  rw [show q * g - 2 * (p * g) = g * (q - 2 * p) by grind, show 2 * (q * g) = g * (2 * q) by grind, Int.mul_ediv_mul_of_pos _ _ hg]
theorem nr_mk {X D : Int} (hD : 0 < D) : nr (mkP X D) (mkQ X D) = nr X D := by
  have h := mkP_mul (X := X) hD
  have h2 := nr_mul (mkP X D) (mkQ X D) (gcd_pos_r (X := X) hD)
  rw [h.1, h.2] at h2
  exact h2.symm
theorem rdOK_eq {X Y D : Int} (hD : 0 < D) : rdOK (mkP X D) (mkQ X D) (mkP Y D) (mkQ Y D) = decide (goodV (nr X D) (nr Y D) = 0) := by
  unfold rdOK nrOK
  rw [nr_mk hD, nr_mk hD, Bool.eq_iff_iff]
  simp [goodV, goodC]
  omega
theorem natAbs_mkP {X D : Int} (hD : 0 < D) : (mkP X D).natAbs ≤ X.natAbs ∧ (mkQ X D).natAbs ≤ D.natAbs := by
  have h := mkP_mul (X := X) hD
  have hg := gcd_pos_r (X := X) hD
  have h1 := congrArg Int.natAbs h.1
  have h2 := congrArg Int.natAbs h.2
  rw [Int.natAbs_mul] at h1 h2
  constructor
  · rw [← h1]; exact Nat.le_mul_of_pos_right _ (by omega)
  · rw [← h2]; exact Nat.le_mul_of_pos_right _ (by omega)
theorem small_of {z : Int} (h : z.natAbs ≤ 9223372036854775807) : small z = true := by
  simp [small]; omega
theorem mkQ_one {X D : Int} (hD : 0 < D) : mkQ X D = 1 ↔ D ∣ X := by
  have h := mkP_mul (X := X) hD
  constructor
  · intro e
    rw [e, Int.one_mul] at h
    rw [← h.2]
    exact Int.gcd_dvd_left _ _
  · intro hd
    have e : ((Int.gcd X D : Nat) : Int) = D := by
      rw [Int.gcd_eq_right_iff_dvd (by omega) |>.2 hd]
    have h2 := h.2
    rw [e] at h2
    have : (mkQ X D - 1) * D = 0 := by rw [Int.sub_mul]; omega
    rcases Int.mul_eq_zero.1 this with h3 | h3 <;> omega
theorem wh_eq {X Y D : Int} (hD : 0 < D) (hc : Int.gcd (Int.gcd X Y : Nat) D = 1) (hx : X.natAbs ≤ 9223372036854775807) (hy : Y.natAbs ≤ 9223372036854775807) (hd : D.natAbs ≤ 9223372036854775807) :
    whPt (mkP X D) (mkQ X D) (mkP Y D) (mkQ Y D) = (decide (D = 1) && decide (goodV X Y = 0)) ∧ pick0 (whPt (mkP X D) (mkQ X D) (mkP Y D) (mkQ Y D)) (mkP X D) = pick0 (decide (D = 1) && decide (goodV X Y = 0)) X ∧ pick0 (whPt (mkP X D) (mkQ X D) (mkP Y D) (mkQ Y D)) (mkP Y D) = pick0 (decide (D = 1) && decide (goodV X Y = 0)) Y := by
  have b1 := natAbs_mkP (X := X) hD
  have b2 := natAbs_mkP (X := Y) hD
  have s1 := small_of (Nat.le_trans b1.1 hx)
  have s2 := small_of (Nat.le_trans b1.2 hd)
  have s3 := small_of (Nat.le_trans b2.1 hy)
  have s4 := small_of (Nat.le_trans b2.2 hd)
  by_cases h1 : D = 1
  · subst h1
    have e1 := mk_one X
    have e2 := mk_one Y
    rw [e1.1, e2.1, e1.2, e2.2]
    rw [e1.1] at s1
    rw [e2.1] at s3
    have : whPt X 1 Y 1 = decide (goodV X Y = 0) := by
      unfold whPt whOK
      rw [s1, s3, show small 1 = true by decide]
      simp
    rw [this]
    simp
  · have hne : ¬ (mkQ X D = 1 ∧ mkQ Y D = 1) := by
      rintro ⟨e1, e2⟩
      have d1 := (mkQ_one hD).1 e1
      have d2 := (mkQ_one hD).1 e2
      have d3 : D ∣ ((Int.gcd X Y : Nat) : Int) := Int.dvd_coe_gcd d1 d2
      have d4 : D ∣ ((Int.gcd (Int.gcd X Y : Nat) D : Nat) : Int) := Int.dvd_coe_gcd d3 (Int.dvd_refl _)
      rw [hc] at d4
      have := Int.le_of_dvd (by omega) d4
      omega
    have hw : whPt (mkP X D) (mkQ X D) (mkP Y D) (mkQ Y D) = false := by
      unfold whPt whOK
      rw [s1, s2, s3, s4]
      simp
      intro e1 e2
      exact absurd ⟨e1, e2⟩ hne
    rw [hw]
    simp [h1, pick0]
theorem ediv_pos_dvd {d g : Int} (hd : 0 < d) (hg : 0 < g) (h : g ∣ d) : 0 < d / g := by
  obtain ⟨c, rfl⟩ := h
  rw [Int.mul_ediv_cancel_left _ (by omega)]
  rcases (by omega : c ≤ 0 ∨ 0 < c) with hc | hc
  · have := Int.mul_nonpos_of_nonneg_of_nonpos (show 0 ≤ g by omega) hc
    omega
  · exact hc
theorem gMk_cop {x y d : Int} (hd : 0 < d) : Int.gcd (Int.gcd (x / gMk x y d) (y / gMk x y d) : Nat) (d / gMk x y d) = 1 := by
  have hg := gMk_pos (x := x) (y := y) hd
  have h1 := Int.ediv_mul_cancel (gMk_x x y d)
  have h2 := Int.ediv_mul_cancel (gMk_y x y d)
  have h3 := Int.ediv_mul_cancel (gMk_d x y d)
  have e : gMk x y d = (Int.gcd (Int.gcd x y : Nat) d : Nat) := rfl
  obtain ⟨G, hG⟩ : ∃ G, G = gMk x y d := ⟨_, rfl⟩
  rw [← hG] at h1 h2 h3 hg e ⊢
  obtain ⟨X, hX⟩ : ∃ X, X = x / G := ⟨_, rfl⟩
  obtain ⟨Y, hY⟩ : ∃ Y, Y = y / G := ⟨_, rfl⟩
  obtain ⟨D, hD⟩ : ∃ D, D = d / G := ⟨_, rfl⟩
  rw [← hX] at h1 ⊢
  rw [← hY] at h2 ⊢
  rw [← hD] at h3 ⊢
  have k1 : ((Int.gcd x y : Nat) : Int) = (Int.gcd X Y : Nat) * G := by
    rw [← h1, ← h2, Int.gcd_mul_right, Int.natCast_mul, show ((G.natAbs : Nat) : Int) = G by omega]
  rw [k1, ← h3, Int.gcd_mul_right] at e
  have hgn : (G.natAbs : Int) = G := by omega
  have : ((Int.gcd (Int.gcd X Y : Nat) D : Nat) : Int) * G = 1 * G := by
    rw [Int.one_mul]
    rw [← hgn] at e ⊢
    simpa using e.symm
  have := Int.eq_of_mul_eq_mul_right (by omega) this
  omega

/-! ### The walk -/
/-- The points that PointRound looks at. -/
def rX (X X1 X2 : Int) : Nat → Int
  | 0 => X | 1 => X1 | 2 => X2 | 3 => 2147483649 | 4 => 2147483649 | 5 => 3221225474 | _ => 1
def rY (Y Y1 Y2 : Int) : Nat → Int
  | 0 => Y | 1 => Y1 | 2 => Y2 | 3 => 1 | 4 => -2147483649 | 5 => 0 | _ => 3221225473
def rD (D D1 D2 : Int) : Nat → Int
  | 0 => D | 1 => D1 | 2 => D2 | 3 => 2 | 4 => 2 | 5 => 3 | _ => 3
def rdList (X Y D X1 Y1 D1 X2 Y2 D2 : Int) : List Value := [.int .i64 X, .int .i64 Y, .int .i64 D, .int .i64 X1, .int .i64 Y1, .int .i64 D1, .int .i64 X2, .int .i64 Y2, .int .i64 D2, .int .i64 2147483649, .int .i64 1, .int .i64 2, .int .i64 2147483649, .int .i64 (-2147483649), .int .i64 2, .int .i64 3221225474, .int .i64 0, .int .i64 3, .int .i64 1, .int .i64 3221225473, .int .i64 3]
theorem rCells {X Y D X1 Y1 D1 X2 Y2 D2 : Int} {W : World} {g : Nat} {t : TypeId} (h : Own W g t (rdList X Y D X1 Y1 D1 X2 Y2 D2)) {k : Nat} (hk : k < 7) :
    W.cell? ⟨g, k * 3, none⟩ = some (.int .i64 (rX X X1 X2 k)) ∧ W.cell? ⟨g, k * 3 + 1, none⟩ = some (.int .i64 (rY Y Y1 Y2 k)) ∧ W.cell? ⟨g, k * 3 + 2, none⟩ = some (.int .i64 (rD D D1 D2 k)) := by
  rcases (by omega : k = 0 ∨ k = 1 ∨ k = 2 ∨ k = 3 ∨ k = 4 ∨ k = 5 ∨ k = 6) with rfl | rfl | rfl | rfl | rfl | rfl | rfl
  all_goals exact ⟨h.cell _, h.cell _, h.cell _⟩
theorem sX_bd (n : Int) : (sX n).natAbs ≤ 384 ∧ (sY n).natAbs ≤ 384 ∧ 0 < sD n ∧ sD n ≤ 12 := by
  have hx := sX0_bd n
  have hy := sY0_bd n
  obtain ⟨d0, d1⟩ := sD0_bd n
  have h1 := Int.natAbs_ediv_le_natAbs (sX0 n) (sG n)
  have h2 := Int.natAbs_ediv_le_natAbs (sY0 n) (sG n)
  have h3 := Int.natAbs_ediv_le_natAbs (sD0 n) (sG n)
  have h4 := ediv_pos_dvd d0 (gMk_pos (x := sX0 n) (y := sY0 n) d0) (gMk_d (sX0 n) (sY0 n) (sD0 n))
  unfold sX sY sD
  have e : sG n = gMk (sX0 n) (sY0 n) (sD0 n) := rfl
  rw [← e] at h4
  omega
end Go.Proofs.YtfbbnphpapmpcaaGreatDoor
