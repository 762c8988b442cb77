/-
  Chapter 05: PointRound.
-/
import Derived.Test.YthcpaagfgkbjaaaDoorR6
import Derived.Test.YthcpaagfgkbjaaaDoorL1
namespace Go.Proofs.YthcpaagfgkbjaaaDoor
open Go.RowKit Mag

/-! ### The plain law -/
theorem mkP_mul {X D : Int} (hD : 0 < D) : mkP X D * (Int.gcd X D : Nat) = X ∧ mkQ X D * (Int.gcd X D : Nat) = D := by
  have h1 : ((Int.gcd X D : Nat) : Int) ∣ X := Int.gcd_dvd_left _ _
  have h2 : ((Int.gcd X D : Nat) : Int) ∣ D := Int.gcd_dvd_right _ _
  have hs : D.sign = 1 := Int.sign_eq_one_of_pos hD
  unfold mkP mkQ
  rw [hs, Int.one_mul, Int.ediv_mul_cancel h1]
  refine ⟨rfl, ?_⟩
  rw [show ((D.natAbs : Nat) : Int) = D by omega, Int.ediv_mul_cancel h2]
theorem gcd_pos_r {X D : Int} (hD : 0 < D) : 0 < ((Int.gcd X D : Nat) : Int) := by
  have := Int.gcd_pos_of_ne_zero_right X (show D ≠ 0 by omega)
  omega
theorem mkQ_pos {X D : Int} (hD : 0 < D) : 0 < mkQ X D := by
  have h := (mkP_mul (X := X) hD).2
  have hg := gcd_pos_r (X := X) hD
  rcases Int.lt_or_lt_of_ne (show mkQ X D ≠ 0 by intro e; rw [e] at h; omega) with h1 | h1
  · have := Int.mul_neg_of_neg_of_pos h1 hg
    omega
  · exact h1
theorem nr_mul (p q : Int) {g : Int} (hg : 0 < g) : nr (p * g) (q * g) = nr p q := by
  unfold nr
  rw [show q * g - 2 * (p * g) = g * (q - 2 * p) by grind, show 2 * (q * g) = g * (2 * q) by grind, Int.mul_ediv_mul_of_pos _ _ hg]
theorem nr_mk {X D : Int} (hD : 0 < D) : nr (mkP X D) (mkQ X D) = nr X D := by
  have h := mkP_mul (X := X) hD
  have h2 := nr_mul (mkP X D) (mkQ X D) (gcd_pos_r (X := X) hD)
  rw [h.1, h.2] at h2
  exact h2.symm
theorem rdOK_eq {X Y D : Int} (hD : 0 < D) : rdOK (mkP X D) (mkQ X D) (mkP Y D) (mkQ Y D) = decide (goodV (nr X D) (nr Y D) = 0) := by
  unfold rdOK nrOK
  rw [nr_mk hD, nr_mk hD, Bool.eq_iff_iff]
  simp [goodV, goodC]
  omega
theorem natAbs_mkP {X D : Int} (hD : 0 < D) : (mkP X D).natAbs ≤ X.natAbs ∧ (mkQ X D).natAbs ≤ D.natAbs := by
  have h := mkP_mul (X := X) hD
  have hg := gcd_pos_r (X := X) hD
  have h1 := congrArg Int.natAbs h.1
  have h2 := congrArg Int.natAbs h.2
  rw [Int.natAbs_mul] at h1 h2
  constructor
  · rw [← h1]; exact Nat.le_mul_of_pos_right _ (by omega)
  · rw [← h2]; exact Nat.le_mul_of_pos_right _ (by omega)
theorem small_of {z : Int} (h : z.natAbs ≤ 9223372036854775807) : small z = true := by
  simp [small]; omega
theorem mkQ_one {X D : Int} (hD : 0 < D) : mkQ X D = 1 ↔ D ∣ X := by
  have h := mkP_mul (X := X) hD
  constructor
  · intro e
    rw [e, Int.one_mul] at h
    rw [← h.2]
    exact Int.gcd_dvd_left _ _
  · intro hd
    have e : ((Int.gcd X D : Nat) : Int) = D := by
      rw [Int.gcd_eq_right_iff_dvd (by omega) |>.2 hd]
    have h2 := h.2
    rw [e] at h2
    have : (mkQ X D - 1) * D = 0 := by rw [Int.sub_mul]; omega
    rcases Int.mul_eq_zero.1 this with h3 | h3 <;> omega
theorem wh_eq {X Y D : Int} (hD : 0 < D) (hc : Int.gcd (Int.gcd X Y : Nat) D = 1) (hx : X.natAbs ≤ 9223372036854775807) (hy : Y.natAbs ≤ 9223372036854775807) (hd : D.natAbs ≤ 9223372036854775807) :
    whPt (mkP X D) (mkQ X D) (mkP Y D) (mkQ Y D) = (decide (D = 1) && decide (goodV X Y = 0)) ∧ pick0 (whPt (mkP X D) (mkQ X D) (mkP Y D) (mkQ Y D)) (mkP X D) = pick0 (decide (D = 1) && decide (goodV X Y = 0)) X ∧ pick0 (whPt (mkP X D) (mkQ X D) (mkP Y D) (mkQ Y D)) (mkP Y D) = pick0 (decide (D = 1) && decide (goodV X Y = 0)) Y := by
  have b1 := natAbs_mkP (X := X) hD
  have b2 := natAbs_mkP (X := Y) hD
  have s1 := small_of (Nat.le_trans b1.1 hx)
  have s2 := small_of (Nat.le_trans b1.2 hd)
  have s3 := small_of (Nat.le_trans b2.1 hy)
  have s4 := small_of (Nat.le_trans b2.2 hd)
  by_cases h1 : D = 1
  · subst h1
    have e1 := mk_one X
    have e2 := mk_one Y
    rw [e1.1, e2.1, e1.2, e2.2]
    rw [e1.1] at s1
    rw [e2.1] at s3
    have : whPt X 1 Y 1 = decide (goodV X Y = 0) := by
      unfold whPt whOK
      rw [s1, s3, show small 1 = true by decide]
      simp
    rw [this]
    simp
  · have hne : ¬ (mkQ X D = 1 ∧ mkQ Y D = 1) := by
      rintro ⟨e1, e2⟩
      have d1 := (mkQ_one hD).1 e1
      have d2 := (mkQ_one hD).1 e2
      have d3 : D ∣ ((Int.gcd X Y : Nat) : Int) := Int.dvd_coe_gcd d1 d2
      have d4 : D ∣ ((Int.gcd (Int.gcd X Y : Nat) D : Nat) : Int) := Int.dvd_coe_gcd d3 (Int.dvd_refl _)
      rw [hc] at d4
      have := Int.le_of_dvd (by omega) d4
      omega
    have hw : whPt (mkP X D) (mkQ X D) (mkP Y D) (mkQ Y D) = false := by
      unfold whPt whOK
      rw [s1, s2, s3, s4]
      simp
      intro e1 e2
      exact absurd ⟨e1, e2⟩ hne
    rw [hw]
    simp [h1, pick0]
theorem ediv_pos_dvd {d g : Int} (hd : 0 < d) (hg : 0 < g) (h : g ∣ d) : 0 < d / g := by
  obtain ⟨c, rfl⟩ := h
  rw [Int.mul_ediv_cancel_left _ (by omega)]
  rcases (by omega : c ≤ 0 ∨ 0 < c) with hc | hc
  · have := Int.mul_nonpos_of_nonneg_of_nonpos (show 0 ≤ g by omega) hc
    omega
  · exact hc
theorem gMk_cop {x y d : Int} (hd : 0 < d) : Int.gcd (Int.gcd (x / gMk x y d) (y / gMk x y d) : Nat) (d / gMk x y d) = 1 := by
  have hg := gMk_pos (x := x) (y := y) hd
  have h1 := Int.ediv_mul_cancel (gMk_x x y d)
  have h2 := Int.ediv_mul_cancel (gMk_y x y d)
  have h3 := Int.ediv_mul_cancel (gMk_d x y d)
  have e : gMk x y d = (Int.gcd (Int.gcd x y : Nat) d : Nat) := rfl
  obtain ⟨G, hG⟩ : ∃ G, G = gMk x y d := ⟨_, rfl⟩
  rw [← hG] at h1 h2 h3 hg e ⊢
  obtain ⟨X, hX⟩ : ∃ X, X = x / G := ⟨_, rfl⟩
  obtain ⟨Y, hY⟩ : ∃ Y, Y = y / G := ⟨_, rfl⟩
  obtain ⟨D, hD⟩ : ∃ D, D = d / G := ⟨_, rfl⟩
  rw [← hX] at h1 ⊢
  rw [← hY] at h2 ⊢
  rw [← hD] at h3 ⊢
  have k1 : ((Int.gcd x y : Nat) : Int) = (Int.gcd X Y : Nat) * G := by
    rw [← h1, ← h2, Int.gcd_mul_right, Int.natCast_mul, show ((G.natAbs : Nat) : Int) = G by omega]
  rw [k1, ← h3, Int.gcd_mul_right] at e
  have hgn : (G.natAbs : Int) = G := by omega
  have : ((Int.gcd (Int.gcd X Y : Nat) D : Nat) : Int) * G = 1 * G := by
    rw [Int.one_mul]
    rw [← hgn] at e ⊢
    simpa using e.symm
  have := Int.eq_of_mul_eq_mul_right (by omega) this
  omega

/-! ### The walk -/
/-- The points that PointRound looks at. -/
def rX (X X1 X2 : Int) : Nat → Int
  | 0 => X | 1 => X1 | 2 => X2 | 3 => 2147483649 | 4 => 2147483649 | 5 => 3221225474 | _ => 1
def rY (Y Y1 Y2 : Int) : Nat → Int
  | 0 => Y | 1 => Y1 | 2 => Y2 | 3 => 1 | 4 => -2147483649 | 5 => 0 | _ => 3221225473
def rD (D D1 D2 : Int) : Nat → Int
  | 0 => D | 1 => D1 | 2 => D2 | 3 => 2 | 4 => 2 | 5 => 3 | _ => 3
def rList (X Y D X1 Y1 D1 X2 Y2 D2 : Int) : List Value := [.int .i64 X, .int .i64 Y, .int .i64 D, .int .i64 X1, .int .i64 Y1, .int .i64 D1, .int .i64 X2, .int .i64 Y2, .int .i64 D2, .int .i64 2147483649, .int .i64 1, .int .i64 2, .int .i64 2147483649, .int .i64 (-2147483649), .int .i64 2, .int .i64 3221225474, .int .i64 0, .int .i64 3, .int .i64 1, .int .i64 3221225473, .int .i64 3]
theorem rCells {X Y D X1 Y1 D1 X2 Y2 D2 : Int} {W : World} {g : Nat} {t : TypeId} (h : Own W g t (rList X Y D X1 Y1 D1 X2 Y2 D2)) {k : Nat} (hk : k < 7) :
    W.cell? ⟨g, k * 3, none⟩ = some (.int .i64 (rX X X1 X2 k)) ∧ W.cell? ⟨g, k * 3 + 1, none⟩ = some (.int .i64 (rY Y Y1 Y2 k)) ∧ W.cell? ⟨g, k * 3 + 2, none⟩ = some (.int .i64 (rD D D1 D2 k)) := by
  rcases (by omega : k = 0 ∨ k = 1 ∨ k = 2 ∨ k = 3 ∨ k = 4 ∨ k = 5 ∨ k = 6) with rfl | rfl | rfl | rfl | rfl | rfl | rfl
  all_goals exact ⟨h.cell _, h.cell _, h.cell _⟩
theorem sX_bd (n : Int) : (sX n).natAbs ≤ 384 ∧ (sY n).natAbs ≤ 384 ∧ 0 < sD n ∧ sD n ≤ 12 := by
  have hx := sX0_bd n
  have hy := sY0_bd n
  obtain ⟨d0, d1⟩ := sD0_bd n
  have h1 := Int.natAbs_ediv_le_natAbs (sX0 n) (sG n)
  have h2 := Int.natAbs_ediv_le_natAbs (sY0 n) (sG n)
  have h3 := Int.natAbs_ediv_le_natAbs (sD0 n) (sG n)
  have h4 := ediv_pos_dvd d0 (gMk_pos (x := sX0 n) (y := sY0 n) d0) (gMk_d (sX0 n) (sY0 n) (sD0 n))
  unfold sX sY sD
  have e : sG n = gMk (sX0 n) (sY0 n) (sD0 n) := rfl
  rw [← e] at h4
  omega
set_option maxRecDepth 100000 in
set_option maxHeartbeats 6400000 in
theorem PointRound_any (a n d : Int) (w : World) (ha : in64 a) (hn : in64 n) (hd : in64 d) (ht : Tab w) : Calls Tryd.prog 6 #[.int .i64 a, .int .i64 n, .int .i64 d] w (RetB w true) := by
  obtain ⟨hX, hY, hD0, hD1⟩ := sX_bd a
  obtain ⟨X, eX⟩ : ∃ X, X = sX a := ⟨_, rfl⟩
  obtain ⟨Y, eY⟩ : ∃ Y, Y = sY a := ⟨_, rfl⟩
  obtain ⟨D, eD⟩ : ∃ D, D = sD a := ⟨_, rfl⟩
  have HS : Hid (∀ u, Calls Tryd.prog 8 #[.int .i64 a] u (RetR u X Y D)) := Lib.hid fun u => by rw [eX, eY, eD]; exact Some_any a u ha
  rw [← eX] at hX
  rw [← eY] at hY
  rw [← eD] at hD0 hD1
  clear eX eY eD
  have an := around_bd n (m := 1048576) (by omega)
  have an2 := around_bd n (m := 32768) (by omega)
  have ad := around_bd d (m := 99) (by omega)
  obtain ⟨X1, Y1, D1, bX1, bY1, bD1, bD1', HM1⟩ : ∃ X1 Y1 D1 : Int, X1.natAbs ≤ 384 ∧ Y1.natAbs ≤ 384 ∧ 0 < D1 ∧ D1 ≤ 12 ∧ Hid (∀ u, Calls Tryd.prog 30 #[.int .i64 (-X), .int .i64 (-Y), .int .i64 D] u (RetR u X1 Y1 D1)) := by
    have h1 := Int.natAbs_ediv_le_natAbs (-X) (gMk (-X) (-Y) D)
    have h2 := Int.natAbs_ediv_le_natAbs (-Y) (gMk (-X) (-Y) D)
    have h3 := Int.natAbs_ediv_le_natAbs D (gMk (-X) (-Y) D)
    have h4 := ediv_pos_dvd hD0 (gMk_pos (x := -X) (y := -Y) hD0) (gMk_d (-X) (-Y) D)
    exact ⟨_, _, _, by omega, by omega, h4, by omega, Lib.hid fun u => Make_ref (-X) (-Y) D u (by omega) (by omega) hD0 (by omega)⟩
  obtain ⟨X2, Y2, D2, bX2, bY2, bD2, bD2', HM2⟩ : ∃ X2 Y2 D2 : Int, X2.natAbs ≤ 1048576 ∧ Y2.natAbs ≤ 32768 ∧ 0 < D2 ∧ D2 ≤ 99 ∧ Hid (∀ u, Calls Tryd.prog 30 #[.int .i64 (around n 1048576), .int .i64 (-around n 32768), .int .i64 (1 + around d 99)] u (RetR u X2 Y2 D2)) := by
    have hp : 0 < 1 + around d 99 := by omega
    have h1 := Int.natAbs_ediv_le_natAbs (around n 1048576) (gMk (around n 1048576) (-around n 32768) (1 + around d 99))
    have h2 := Int.natAbs_ediv_le_natAbs (-around n 32768) (gMk (around n 1048576) (-around n 32768) (1 + around d 99))
    have h3 := Int.natAbs_ediv_le_natAbs (1 + around d 99) (gMk (around n 1048576) (-around n 32768) (1 + around d 99))
    have h4 := ediv_pos_dvd hp (gMk_pos (x := around n 1048576) (y := -around n 32768) hp) (gMk_d (around n 1048576) (-around n 32768) (1 + around d 99))
    exact ⟨_, _, _, by omega, by omega, h4, by omega, Lib.hid fun u => Make_ref _ _ _ u (by omega) (by omega) hp (by omega)⟩
  have hbd : ∀ k, (rX X X1 X2 k).natAbs ≤ 4294967296 ∧ (rY Y Y1 Y2 k).natAbs ≤ 4294967296 ∧ 0 < rD D D1 D2 k ∧ rD D D1 D2 k ≤ 99 := fun k => by
    match k with
    | 0 => simp only [rX, rY, rD]; omega
    | 1 => simp only [rX, rY, rD]; omega
    | 2 => simp only [rX, rY, rD]; omega
    | 3 => simp only [rX, rY, rD]; omega
    | 4 => simp only [rX, rY, rD]; omega
    | 5 => simp only [rX, rY, rD]; omega
    | k + 6 => simp only [rX, rY, rD]; omega
  go_enter Tryd.func6, Tryd.ntmps6
  go_wp2_with fail
  refine (HS.out _).mono ?_
  rintro e w2 ⟨rfl, k1⟩
  go_upto_region 2 with fail
  refine wp_new1 fun w3 hP k2 => ?_
  refine wp_region_specs w3 [Spec.eq (.agg #[.int .i64 X, .int .i64 Y, .int .i64 D]), Spec.eq (.pointer (some ⟨w2.heap.size, 0, none⟩)), Spec.eq (.int .i64 X), Spec.eq (.int .i64 (-X)), Spec.eq (.pointer (some ⟨w2.heap.size, 1, none⟩)), Spec.eq (.int .i64 Y), Spec.eq (.int .i64 (-Y)), Spec.eq (.pointer (some ⟨w2.heap.size, 2, none⟩)), Spec.eq (.int .i64 D), Spec.eq (.agg #[.int .i64 X1, .int .i64 Y1, .int .i64 D1]), Spec.eq (.int .i64 n), Spec.eq (.int .i64 (around n 1048576)), Spec.eq (.int .i64 n), Spec.eq (.int .i64 (around n 32768)), Spec.eq (.int .i64 (-around n 32768)), Spec.eq (.int .i64 d), Spec.eq (.int .i64 (around d 99)), Spec.eq (.int .i64 (1 + around d 99)), Spec.eq (.agg #[.int .i64 X2, .int .i64 Y2, .int .i64 D2]), Spec.eq (.agg #[.int .i64 2147483649, .int .i64 1, .int .i64 2]), Spec.eq (.agg #[.int .i64 2147483649, .int .i64 (-2147483649), .int .i64 2]), Spec.eq (.agg #[.int .i64 3221225474, .int .i64 0, .int .i64 3]), Spec.eq (.agg #[.int .i64 1, .int .i64 3221225473, .int .i64 3]), sOwn w3.heap.size 7 23 (rList X Y D X1 Y1 D1 X2 Y2 D2), sOwn w3.heap.size 7 23 (rList X Y D X1 Y1 D1 X2 Y2 D2)]
      (by kernel_rfl) (by kernel_rfl) rfl (by kernel_rfl) (Below.drew (Below.refl _ _)) ?_ ?_
  ·
    refine RegSteps.cons ?_ ?_
    · intro _ az wz hC hF hD _ K hK
      have q7 : az.tmps[7]? = some (.pointer (some ⟨w2.heap.size, 0, none⟩)) := hF 7 rfl
      obtain ⟨l0, l1, l2, _⟩ := (hP.on hC).all3
      clear hF hD
      refine want_none rfl ?_
      go_simp
      exact hK _ _ hC (Below.refl _ _) rfl
    refine RegSteps.cons ?_ ?_
    · intro _ az wz hC hF hD _ K hK
      have q7 : az.tmps[7]? = some (.pointer (some ⟨w2.heap.size, 0, none⟩)) := hF 7 rfl
      clear hF hD
      refine want_none rfl ?_
      go_simp
      exact hK _ _ hC (Below.refl _ _) rfl
    refine RegSteps.cons ?_ ?_
    · intro _ az wz hC hF hD _ K hK
      obtain ⟨_, q22, rfl⟩ := dep hD 1 rfl rfl rfl rfl
      obtain ⟨l0, l1, l2, _⟩ := (hP.on hC).all3
      clear hF hD
      refine want_none rfl ?_
      go_simp
      exact hK _ _ hC (Below.refl _ _) rfl
    refine RegSteps.cons ?_ ?_
    · intro _ az wz hC hF hD _ K hK
      obtain ⟨_, q23, rfl⟩ := dep hD 2 rfl rfl rfl rfl
      clear hF hD
      refine want_none rfl ?_
      go_simp
      try go_ints
      exact hK _ _ hC (Below.refl _ _) rfl
    refine RegSteps.cons ?_ ?_
    · intro _ az wz hC hF hD _ K hK
      have q7 : az.tmps[7]? = some (.pointer (some ⟨w2.heap.size, 0, none⟩)) := hF 7 rfl
      clear hF hD
      refine want_none rfl ?_
      go_simp
      exact hK _ _ hC (Below.refl _ _) rfl
    refine RegSteps.cons ?_ ?_
    · intro _ az wz hC hF hD _ K hK
      obtain ⟨_, q25, rfl⟩ := dep hD 4 rfl rfl rfl rfl
      obtain ⟨l0, l1, l2, _⟩ := (hP.on hC).all3
      clear hF hD
      refine want_none rfl ?_
      go_simp
      exact hK _ _ hC (Below.refl _ _) rfl
    refine RegSteps.cons ?_ ?_
    · intro _ az wz hC hF hD _ K hK
      obtain ⟨_, q26, rfl⟩ := dep hD 5 rfl rfl rfl rfl
      clear hF hD
      refine want_none rfl ?_
      go_simp
      try go_ints
      exact hK _ _ hC (Below.refl _ _) rfl
    refine RegSteps.cons ?_ ?_
    · intro _ az wz hC hF hD _ K hK
      have q7 : az.tmps[7]? = some (.pointer (some ⟨w2.heap.size, 0, none⟩)) := hF 7 rfl
      clear hF hD
      refine want_none rfl ?_
      go_simp
      exact hK _ _ hC (Below.refl _ _) rfl
    refine RegSteps.cons ?_ ?_
    · intro _ az wz hC hF hD _ K hK
      obtain ⟨_, q28, rfl⟩ := dep hD 7 rfl rfl rfl rfl
      obtain ⟨l0, l1, l2, _⟩ := (hP.on hC).all3
      clear hF hD
      refine want_none rfl ?_
      go_simp
      exact hK _ _ hC (Below.refl _ _) rfl
    refine RegSteps.cons ?_ ?_
    · intro _ az wz hC hF hD _ K hK
      obtain ⟨_, q24, rfl⟩ := dep hD 3 rfl rfl rfl rfl
      obtain ⟨_, q27, rfl⟩ := dep hD 6 rfl rfl rfl rfl
      obtain ⟨_, q29, rfl⟩ := dep hD 8 rfl rfl rfl rfl
      clear hF hD
      refine want_none rfl ?_
      go_simp
      refine (HM1.out _).mono ?_
      rintro e wy ⟨rfl, k⟩
      exact hK _ _ (Below.call hC k) k rfl
    refine RegSteps.cons ?_ ?_
    · intro _ az wz hC hF hD _ K hK
      have q1 : az.tmps[1]? = some (.int .i64 n) := hF 1 rfl
      clear hF hD
      refine want_none rfl ?_
      go_simp
      exact hK _ _ hC (Below.refl _ _) rfl
    refine RegSteps.cons ?_ ?_
    · intro _ az wz hC hF hD _ K hK
      obtain ⟨_, q31, rfl⟩ := dep hD 10 rfl rfl rfl rfl
      clear hF hD
      refine want_none rfl ?_
      go_simp
      refine (Around_any n 1048576 _ hn.1 hn.2 (by omega) (by omega)).mono ?_
      rintro e wy ⟨rfl, k⟩
      exact hK _ _ (Below.call hC k) k rfl
    refine RegSteps.cons ?_ ?_
    · intro _ az wz hC hF hD _ K hK
      have q1 : az.tmps[1]? = some (.int .i64 n) := hF 1 rfl
      clear hF hD
      refine want_none rfl ?_
      go_simp
      exact hK _ _ hC (Below.refl _ _) rfl
    refine RegSteps.cons ?_ ?_
    · intro _ az wz hC hF hD _ K hK
      obtain ⟨_, q33, rfl⟩ := dep hD 12 rfl rfl rfl rfl
      clear hF hD
      refine want_none rfl ?_
      go_simp
      refine (Around_any n 32768 _ hn.1 hn.2 (by omega) (by omega)).mono ?_
      rintro e wy ⟨rfl, k⟩
      exact hK _ _ (Below.call hC k) k rfl
    refine RegSteps.cons ?_ ?_
    · intro _ az wz hC hF hD _ K hK
      obtain ⟨_, q34, rfl⟩ := dep hD 13 rfl rfl rfl rfl
      clear hF hD
      refine want_none rfl ?_
      go_simp
      try go_ints
      exact hK _ _ hC (Below.refl _ _) rfl
    refine RegSteps.cons ?_ ?_
    · intro _ az wz hC hF hD _ K hK
      have q2 : az.tmps[2]? = some (.int .i64 d) := hF 2 rfl
      clear hF hD
      refine want_none rfl ?_
      go_simp
      exact hK _ _ hC (Below.refl _ _) rfl
    refine RegSteps.cons ?_ ?_
    · intro _ az wz hC hF hD _ K hK
      obtain ⟨_, q36, rfl⟩ := dep hD 15 rfl rfl rfl rfl
      clear hF hD
      refine want_none rfl ?_
      go_simp
      refine (Around_any d 99 _ hd.1 hd.2 (by omega) (by omega)).mono ?_
      rintro e wy ⟨rfl, k⟩
      exact hK _ _ (Below.call hC k) k rfl
    refine RegSteps.cons ?_ ?_
    · intro _ az wz hC hF hD _ K hK
      obtain ⟨_, q37, rfl⟩ := dep hD 16 rfl rfl rfl rfl
      clear hF hD
      refine want_none rfl ?_
      go_simp
      try go_ints
      exact hK _ _ hC (Below.refl _ _) rfl
    refine RegSteps.cons ?_ ?_
    · intro _ az wz hC hF hD _ K hK
      obtain ⟨_, q32, rfl⟩ := dep hD 11 rfl rfl rfl rfl
      obtain ⟨_, q35, rfl⟩ := dep hD 14 rfl rfl rfl rfl
      obtain ⟨_, q38, rfl⟩ := dep hD 17 rfl rfl rfl rfl
      clear hF hD
      refine want_none rfl ?_
      go_simp
      refine (HM2.out _).mono ?_
      rintro e wy ⟨rfl, k⟩
      exact hK _ _ (Below.call hC k) k rfl
    refine RegSteps.cons ?_ ?_
    · intro _ az wz hC hF hD _ K hK
      clear hF hD
      refine want_none rfl ?_
      go_simp
      exact hK _ _ hC (Below.refl _ _) rfl
    refine RegSteps.cons ?_ ?_
    · intro _ az wz hC hF hD _ K hK
      clear hF hD
      refine want_none rfl ?_
      go_simp
      exact hK _ _ hC (Below.refl _ _) rfl
    refine RegSteps.cons ?_ ?_
    · intro _ az wz hC hF hD _ K hK
      clear hF hD
      refine want_none rfl ?_
      go_simp
      exact hK _ _ hC (Below.refl _ _) rfl
    refine RegSteps.cons ?_ ?_
    · intro _ az wz hC hF hD _ K hK
      clear hF hD
      refine want_none rfl ?_
      go_simp
      exact hK _ _ hC (Below.refl _ _) rfl
    refine RegSteps.cons ?_ ?_
    · intro _ az wz hC hF hD _ K hK
      obtain ⟨_, q21, rfl⟩ := dep hD 0 rfl rfl rfl rfl
      obtain ⟨_, q30, rfl⟩ := dep hD 9 rfl rfl rfl rfl
      obtain ⟨_, q39, rfl⟩ := dep hD 18 rfl rfl rfl rfl
      obtain ⟨_, q40, rfl⟩ := dep hD 19 rfl rfl rfl rfl
      obtain ⟨_, q41, rfl⟩ := dep hD 20 rfl rfl rfl rfl
      obtain ⟨_, q42, rfl⟩ := dep hD 21 rfl rfl rfl rfl
      obtain ⟨_, q43, rfl⟩ := dep hD 22 rfl rfl rfl rfl
      clear hF hD
      refine want_none rfl ?_
      go_simp
      exact hK _ _ (Below.alloc hC hC.size _) (below_new _ _) ⟨_, rfl, hC.size, Own.new wz 23 (rList X Y D X1 Y1 D1 X2 Y2 D2)⟩
    refine RegSteps.cons ?_ ?_
    · intro _ az wz hC hF hD _ K hK
      obtain ⟨_, q44, x44, rfl, hx44⟩ := dep hD 23 rfl rfl rfl rfl
      clear hF hD
      refine want_none rfl ?_
      go_simp
      exact hK _ _ hC (Below.refl _ _) ⟨x44, rfl, hx44⟩
    exact RegSteps.nil
  intro w4 hC4
  rintro _ rfl _ rfl _ rfl _ rfl _ rfl _ rfl _ rfl _ rfl _ rfl _ rfl _ rfl _ rfl _ rfl _ rfl _ rfl _ rfl _ rfl _ rfl _ rfl _ rfl _ rfl _ rfl _ rfl _ ⟨y44, rfl, _⟩ _ ⟨y8, rfl, hy8⟩
  simp only [FinOK, Act.put, List.setIfInBounds_toArray, List.set_cons_zero, List.set_cons_succ]
  obtain ⟨hge, hO⟩ := hy8
  have hB4 := Below.call (Below.call k1 k2) hC4
  clear hP HM1 HM2 HS
  go_wp2_with fail
  go_loopw [9] (fun i wr => ∃ k : Nat, k ≤ 7 ∧ i = .int .i64 k ∧ Below w4.heap.size w4 wr) (fun i _ => 7 - (intOf i).toNat)
  case atStart => exact ⟨0, by omega, rfl, Below.refl _ _⟩
  case round =>
    obtain ⟨k, hk, rfl, hb⟩ := hrel
    by_cases hk7 : k < 7
    · have hOr := hO.on hb
      obtain ⟨bA, bB, bC, bC'⟩ := hbd k
      obtain ⟨A, hA⟩ : ∃ A, A = rX X X1 X2 k := ⟨_, rfl⟩
      obtain ⟨B, hB⟩ : ∃ B, B = rY Y Y1 Y2 k := ⟨_, rfl⟩
      obtain ⟨C, hC⟩ : ∃ C, C = rD D D1 D2 k := ⟨_, rfl⟩
      have rc : ∀ wz, Below wr.heap.size wr wz → wz.cell? ⟨y8, k * 3, none⟩ = some (.int .i64 A) ∧ wz.cell? ⟨y8, k * 3 + 1, none⟩ = some (.int .i64 B) ∧ wz.cell? ⟨y8, k * 3 + 2, none⟩ = some (.int .i64 C) := fun wz hwz => by
        rw [hA, hB, hC]
        exact rCells (hOr.on hwz) hk7
      rw [← hA] at bA
      rw [← hB] at bB
      rw [← hC] at bC bC'
      clear hA hB hC
      have h1 := Int.natAbs_ediv_le_natAbs A (gMk A B C)
      have h2 := Int.natAbs_ediv_le_natAbs B (gMk A B C)
      have h3 := Int.natAbs_ediv_le_natAbs C (gMk A B C)
      have h4 := ediv_pos_dvd bC (gMk_pos (x := A) (y := B) bC) (gMk_d A B C)
      have hcop := gMk_cop (x := A) (y := B) bC
      have HQ : Hid (∀ u, Calls Tryd.prog 30 #[.int .i64 A, .int .i64 B, .int .i64 C] u (RetR u (A / gMk A B C) (B / gMk A B C) (C / gMk A B C))) := Lib.hid fun u => Make_ref A B C u (by omega) (by omega) bC (by omega)
      generalize A / gMk A B C = QX at h1 hcop HQ
      generalize B / gMk A B C = QY at h2 hcop HQ
      generalize C / gMk A B C = QD at h3 h4 hcop HQ
      have bX : QX.natAbs ≤ 4294967296 := by omega
      have bY : QY.natAbs ≤ 4294967296 := by omega
      have bD : QD ≤ 99 := by omega
      obtain ⟨e1, e2, e3⟩ := wh_eq (X := QX) (Y := QY) h4 hcop (by omega) (by omega) (by omega)
      obtain ⟨wb, hwb⟩ : ∃ wb, wb = (decide (QD = 1) && decide (goodV QX QY = 0)) := ⟨_, rfl⟩
      obtain ⟨wx, hwx⟩ : ∃ wx, wx = pick0 wb QX := ⟨_, rfl⟩
      obtain ⟨wy, hwy⟩ : ∃ wy, wy = pick0 wb QY := ⟨_, rfl⟩
      obtain ⟨vb, hvb⟩ : ∃ vb, vb = decide (goodV (nr QX QD) (nr QY QD) = 0) := ⟨_, rfl⟩
      obtain ⟨vx, hvx⟩ : ∃ vx, vx = pick0 vb (nr QX QD) := ⟨_, rfl⟩
      obtain ⟨vy, hvy⟩ : ∃ vy, vy = pick0 vb (nr QY QD) := ⟨_, rfl⟩
      obtain ⟨ve, hve⟩ : ∃ ve, ve = err5 vb := ⟨_, rfl⟩
      have HW : Hid (∀ (p : PV) u, p.is u (mkP QX QD) (mkQ QX QD) (mkP QY QD) (mkQ QY QD) → Calls Tryd.prog 31 #[.agg #[.bool p.x.p.neg, .slice p.x.p.A p.x.p.n p.x.p.c, .bool p.x.l.neg, .slice p.x.l.A p.x.l.n p.x.l.c, .bool p.y.p.neg, .slice p.y.p.A p.y.p.n p.y.p.c, .bool p.y.l.neg, .slice p.y.l.A p.y.l.n p.y.l.c]] u (RetW u wx wy wb)) := Lib.hid fun p u hp => by
        have h := PWhole_any hp
        rw [e2, e3, e1] at h
        rw [hwx, hwy, hwb]
        exact h
      have HRW : Hid (∀ u, Calls Tryd.prog 32 #[.agg #[.int .i64 QX, .int .i64 QY, .int .i64 QD]] u (RetW u wx wy wb)) := Lib.hid fun u => by
        rw [hwx, hwy, hwb]
        exact RWhole_any QX QY QD u
      have HR : Hid (∀ (p : PV) u, p.is u (mkP QX QD) (mkQ QX QD) (mkP QY QD) (mkQ QY QD) → Calls Tryd.prog 14 #[.agg #[.bool p.x.p.neg, .slice p.x.p.A p.x.p.n p.x.p.c, .bool p.x.l.neg, .slice p.x.l.A p.x.l.n p.x.l.c, .bool p.y.p.neg, .slice p.y.p.A p.y.p.n p.y.p.c, .bool p.y.l.neg, .slice p.y.l.A p.y.l.n p.y.l.c]] u (RetE u vx vy ve)) := Lib.hid fun p u hp => by
        have h := PRound_any hp
        rw [rdOK_eq h4, nr_mk h4, nr_mk h4] at h
        rw [hvx, hvy, hve, hvb]
        exact h
      have HRR : Hid (∀ u, Calls Tryd.prog 33 #[.agg #[.int .i64 QX, .int .i64 QY, .int .i64 QD]] u (RetE u vx vy ve)) := Lib.hid fun u => by
        rw [hvx, hvy, hve, hvb]
        exact RRound_any QX QY QD u (by omega) (by omega) (by omega) (by omega) h4 (by omega)
      have HQR : Hid (∀ u, Calls Tryd.prog 10 #[.agg #[.int .i64 QX, .int .i64 QY, .int .i64 QD]] u (RetP u (mkP QX QD) (mkQ QX QD) (mkP QY QD) (mkQ QY QD))) := Lib.hid fun u =>
        real_any QX QY QD u ⟨by omega, by omega⟩ ⟨by omega, by omega⟩ ⟨by omega, by omega⟩ (by omega)
      clear e1 e2 e3 hwb hwx hwy hvb hvx hvy hve h1 h2 h3 hcop bA bB bC bC' bX bY bD h4
      have m0 : (0 : Int) ≤ (k : Int) := by omega
      have m7 : (k : Int) < 7 := by omega
      go_wp2_with fail
      refine wp_region_boxes wr [Spec.eq (.slice (some ⟨y8, 0, none⟩) 7 7), Spec.eq (.int .i64 (k : Int)), Spec.eq (.pointer (some ⟨y8, k * 3, none⟩)), Spec.eq (.pointer (some ⟨y8, k * 3, none⟩)), Spec.eq (.int .i64 A), Spec.eq (.slice (some ⟨y8, 0, none⟩) 7 7), Spec.eq (.int .i64 (k : Int)), Spec.eq (.pointer (some ⟨y8, k * 3, none⟩)), Spec.eq (.pointer (some ⟨y8, k * 3 + 1, none⟩)), Spec.eq (.int .i64 B), Spec.eq (.slice (some ⟨y8, 0, none⟩) 7 7), Spec.eq (.int .i64 (k : Int)), Spec.eq (.pointer (some ⟨y8, k * 3, none⟩)), Spec.eq (.pointer (some ⟨y8, k * 3 + 2, none⟩)), Spec.eq (.int .i64 C), Spec.eq (.agg #[.int .i64 QX, .int .i64 QY, .int .i64 QD]), Spec.any, Spec.any]
          [{ A := 16, j := 17, t := 10, T := 23, zs := [.int .i64 0, .int .i64 0, .int .i64 0], X := fun us _ => us = [.int .i64 QX, .int .i64 QY, .int .i64 QD], up := fun e _ => e }]
          (by kernel_rfl) (by kernel_rfl) rfl (by kernel_rfl) rfl (Below.drew (Below.refl _ _)) ?_ ?_ ⟨rfl, rfl, trivial⟩ ?_
      ·
        refine RegSteps.cons ?_ ?_
        · intro _ az wz hC hF hD _ K hK
          have q8 : az.tmps[8]? = some (.slice (some ⟨y8, 0, none⟩) 7 7) := hF 8 rfl
          clear hF hD
          refine want_none rfl ?_
          go_simp
          exact hK _ _ hC (Below.refl _ _) rfl
        refine RegSteps.cons ?_ ?_
        · intro _ az wz hC hF hD _ K hK
          have q9 : az.tmps[9]? = some (.int .i64 (k : Int)) := hF 9 rfl
          clear hF hD
          refine want_none rfl ?_
          go_simp
          exact hK _ _ hC (Below.refl _ _) rfl
        refine RegSteps.cons ?_ ?_
        · intro _ az wz hC hF hD _ K hK
          obtain ⟨_, q51, rfl⟩ := dep hD 0 rfl rfl rfl rfl
          obtain ⟨_, q52, rfl⟩ := dep hD 1 rfl rfl rfl rfl
          clear hF hD
          refine want_none rfl ?_
          go_simp
          exact hK _ _ hC (Below.refl _ _) rfl
        refine RegSteps.cons ?_ ?_
        · intro _ az wz hC hF hD _ K hK
          obtain ⟨_, q53, rfl⟩ := dep hD 2 rfl rfl rfl rfl
          clear hF hD
          refine want_none rfl ?_
          go_simp
          exact hK _ _ hC (Below.refl _ _) rfl
        refine RegSteps.cons ?_ ?_
        · intro _ az wz hC hF hD _ K hK
          obtain ⟨_, q54, rfl⟩ := dep hD 3 rfl rfl rfl rfl
          obtain ⟨l0, l1, l2⟩ := rc _ hC
          clear hF hD
          refine want_none rfl ?_
          go_simp
          exact hK _ _ hC (Below.refl _ _) rfl
        refine RegSteps.cons ?_ ?_
        · intro _ az wz hC hF hD _ K hK
          have q8 : az.tmps[8]? = some (.slice (some ⟨y8, 0, none⟩) 7 7) := hF 8 rfl
          clear hF hD
          refine want_none rfl ?_
          go_simp
          exact hK _ _ hC (Below.refl _ _) rfl
        refine RegSteps.cons ?_ ?_
        · intro _ az wz hC hF hD _ K hK
          have q9 : az.tmps[9]? = some (.int .i64 (k : Int)) := hF 9 rfl
          clear hF hD
          refine want_none rfl ?_
          go_simp
          exact hK _ _ hC (Below.refl _ _) rfl
        refine RegSteps.cons ?_ ?_
        · intro _ az wz hC hF hD _ K hK
          obtain ⟨_, q56, rfl⟩ := dep hD 5 rfl rfl rfl rfl
          obtain ⟨_, q57, rfl⟩ := dep hD 6 rfl rfl rfl rfl
          clear hF hD
          refine want_none rfl ?_
          go_simp
          exact hK _ _ hC (Below.refl _ _) rfl
        refine RegSteps.cons ?_ ?_
        · intro _ az wz hC hF hD _ K hK
          obtain ⟨_, q58, rfl⟩ := dep hD 7 rfl rfl rfl rfl
          clear hF hD
          refine want_none rfl ?_
          go_simp
          exact hK _ _ hC (Below.refl _ _) rfl
        refine RegSteps.cons ?_ ?_
        · intro _ az wz hC hF hD _ K hK
          obtain ⟨_, q59, rfl⟩ := dep hD 8 rfl rfl rfl rfl
          obtain ⟨l0, l1, l2⟩ := rc _ hC
          clear hF hD
          refine want_none rfl ?_
          go_simp
          exact hK _ _ hC (Below.refl _ _) rfl
        refine RegSteps.cons ?_ ?_
        · intro _ az wz hC hF hD _ K hK
          have q8 : az.tmps[8]? = some (.slice (some ⟨y8, 0, none⟩) 7 7) := hF 8 rfl
          clear hF hD
          refine want_none rfl ?_
          go_simp
          exact hK _ _ hC (Below.refl _ _) rfl
        refine RegSteps.cons ?_ ?_
        · intro _ az wz hC hF hD _ K hK
          have q9 : az.tmps[9]? = some (.int .i64 (k : Int)) := hF 9 rfl
          clear hF hD
          refine want_none rfl ?_
          go_simp
          exact hK _ _ hC (Below.refl _ _) rfl
        refine RegSteps.cons ?_ ?_
        · intro _ az wz hC hF hD _ K hK
          obtain ⟨_, q61, rfl⟩ := dep hD 10 rfl rfl rfl rfl
          obtain ⟨_, q62, rfl⟩ := dep hD 11 rfl rfl rfl rfl
          clear hF hD
          refine want_none rfl ?_
          go_simp
          exact hK _ _ hC (Below.refl _ _) rfl
        refine RegSteps.cons ?_ ?_
        · intro _ az wz hC hF hD _ K hK
          obtain ⟨_, q63, rfl⟩ := dep hD 12 rfl rfl rfl rfl
          clear hF hD
          refine want_none rfl ?_
          go_simp
          exact hK _ _ hC (Below.refl _ _) rfl
        refine RegSteps.cons ?_ ?_
        · intro _ az wz hC hF hD _ K hK
          obtain ⟨_, q64, rfl⟩ := dep hD 13 rfl rfl rfl rfl
          obtain ⟨l0, l1, l2⟩ := rc _ hC
          clear hF hD
          refine want_none rfl ?_
          go_simp
          exact hK _ _ hC (Below.refl _ _) rfl
        refine RegSteps.cons ?_ ?_
        · intro _ az wz hC hF hD _ K hK
          obtain ⟨_, q55, rfl⟩ := dep hD 4 rfl rfl rfl rfl
          obtain ⟨_, q60, rfl⟩ := dep hD 9 rfl rfl rfl rfl
          obtain ⟨_, q65, rfl⟩ := dep hD 14 rfl rfl rfl rfl
          clear hF hD
          refine want_none rfl ?_
          go_simp
          refine (HQ.out _).mono ?_
          rintro e wy ⟨rfl, k⟩
          exact hK _ _ (Below.call hC k) k rfl
        refine RegSteps.cons ?_ ?_
        · exact fun h => by cases h
        refine RegSteps.cons ?_ ?_
        · exact fun h => by cases h
        exact RegSteps.nil
      · refine ⟨?_, trivial⟩
        · refine ⟨⟨_, rfl, rfl, rfl, fun az wz K hK => by go_simp; exact hK⟩, ⟨_, rfl, rfl, rfl, ?_⟩, by simp [Word], by simp⟩
          intro az wz gz cs hC hF hD hA K hK
          obtain ⟨p1, p2, p3, p4, p5⟩ := hA
          obtain ⟨_, q66, rfl⟩ := dep hD 15 rfl rfl rfl rfl
          obtain ⟨c0, c1, c2, rfl⟩ := list_3 (l := cs) p4
          have z0 := p3.c0
          have z1 := p3.c1
          have z2 := p3.c2
          have f0 := p3.frozen 0
          have f1 := p3.frozen 1
          have f2 := p3.frozen 2
          clear hF hD p3 p5
          refine want_none rfl ?_
          go_simp
          exact hK [.int .i64 QX, .int .i64 QY, .int .i64 QD] rfl (by simp [Word]) rfl
      intro w5 gs hC5 hgl hbf
      obtain ⟨gq, rfl⟩ := list_1 hgl
      obtain ⟨⟨hg0, us0, hOb0, rfl⟩, _⟩ := hbf
      rintro _ rfl _ rfl _ rfl _ rfl _ rfl _ rfl _ rfl _ rfl _ rfl _ rfl _ rfl _ rfl _ rfl _ rfl _ rfl _ rfl _ rfl _ _
      simp only [FinOK, Act.put, List.setIfInBounds_toArray, List.set_cons_zero, List.set_cons_succ]
      have hb5 := Below.call hb hC5
      obtain ⟨q0, q1, q2⟩ := hOb0.rules3
      have hW5 := Below.refl w5.heap.size w5
      go_wp2_with fail
      refine (HQR.out _).mono ?_
      rintro e w6 ⟨p1, rfl, k6, hp1⟩
      go_wp2_with fail
      refine (HW.out p1 _ hp1).mono ?_
      rintro e w7 ⟨rfl, k7⟩
      have h7 := Below.call k6 k7
      go_upto_region 8 with fail
      refine wp_new1 fun w8 hA k8 => ?_
      have h8 := Below.call h7 k8
      go_wp2_with fail
      refine (HRW.out _).mono ?_
      rintro e w9 ⟨rfl, k9⟩
      have h9 := Below.call h8 k9
      go_upto_region 9 with fail
      refine wp_new1 fun w10 hB k10 => ?_
      have h10 := Below.call h9 k10
      go_wp2_with fail
      refine (HQR.out _).mono ?_
      rintro e w11 ⟨p2, rfl, k11, hp2⟩
      have h11 := Below.call h10 k11
      go_wp2_with fail
      refine (HR.out p2 _ hp2).mono ?_
      rintro e w12 ⟨rfl, k12⟩
      have h12 := Below.call h11 k12
      go_upto_region 10 with fail
      refine wp_new1 fun w13 hC k13 => ?_
      have h13 := Below.call h12 k13
      go_wp2_with fail
      refine (HRR.out _).mono ?_
      rintro e w14 ⟨rfl, k14⟩
      have h14 := Below.call h13 k14
      go_upto_region 11 with fail
      refine wp_new1 fun w15 hD k15 => ?_
      have h15 := Below.call h14 k15
      have hb15 := Below.call hb5 h15
      have j15 := Below.call k14 k15
      have j13 := Below.call (Below.call (Below.call k11 k12) k13) j15
      have j10 := Below.call (Below.call k9 k10) j13
      obtain ⟨c0, c1, _⟩ := (hA.on j10).all2
      obtain ⟨d0, d1, _⟩ := (hB.on j13).all2
      obtain ⟨f0, f1, _⟩ := (hC.on j15).all2
      obtain ⟨g0, g1, _⟩ := hD.all2
      clear q0 q1 q2 hA hB hC hD rc
      go_wp2_with fail
      go_roundw
      case rel => exact ⟨k + 1, by omega, by go_num, hb15⟩
      case measure => simp [intOf]; omega
    · obtain rfl : k = 7 := by omega
      clear hk7
      go_wp2_with fail
      refine (lives_any _ (ht.on (Below.call hB4 hb))).mono ?_
      rintro e w9 ⟨rfl, k9⟩
      have hB9 := Below.call (Below.call hB4 hb) k9
      go_wp2
      go_returns
      exact ⟨by simp, hB9⟩
end Go.Proofs.YthcpaagfgkbjaaaDoor
