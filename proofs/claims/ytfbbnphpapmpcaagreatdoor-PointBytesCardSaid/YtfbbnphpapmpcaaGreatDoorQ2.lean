/-
  Chapter 05: PointMid, the plain law: what the two middles are, and what the rounded one is away.
-/
import Derived.Test.YtfbbnphpapmpcaaGreatDoorQ1
namespace Go.Proofs.YtfbbnphpapmpcaaGreatDoor
open Go.RowKit Mag

theorem mk_mul (x d : Int) {g : Int} (hd : 0 < d) (hg : 0 < g) : mkP (x * g) (d * g) = mkP x d ∧ mkQ (x * g) (d * g) = mkQ x d := by
  have h1 := mkP_mul (X := x) hd
  have hdg : 0 < d * g := Int.mul_pos hd hg
  have h2 := mkP_mul (X := x * g) hdg
  have hk := gcd_pos_r (X := x) hd
  have e : ((Int.gcd (x * g) (d * g) : Nat) : Int) = (Int.gcd x d : Nat) * g := by
    rw [Int.gcd_mul_right, Int.natCast_mul, show ((g.natAbs : Nat) : Int) = g by omega]
  have hpos : 0 < ((Int.gcd x d : Nat) : Int) * g := Int.mul_pos hk hg
  constructor
  · refine Int.eq_of_mul_eq_mul_right (show ((Int.gcd x d : Nat) : Int) * g ≠ 0 by omega) ?_
    rw [← e, h2.1, e, ← Int.mul_assoc, h1.1]
  · refine Int.eq_of_mul_eq_mul_right (show ((Int.gcd x d : Nat) : Int) * g ≠ 0 by omega) ?_
    rw [← e, h2.2, e, ← Int.mul_assoc, h1.2]
/-- Two spellings of one fraction. -/
theorem mk_eq {a b c d : Int} (hb : 0 < b) (hd : 0 < d) (h : a * d = c * b) : mkP a b = mkP c d ∧ mkQ a b = mkQ c d := by
  have h1 := mk_mul a b hb hd
  have h2 := mk_mul c d hd hb
  rw [h] at h1
  rw [Int.mul_comm b d] at h1
  exact ⟨h1.1.symm.trans h2.1, h1.2.symm.trans h2.2⟩
theorem mk_low {p q : Int} (hq : 0 < q) (h : Int.gcd p q = 1) : mkP p q = p ∧ mkQ p q = q := by
  have h1 := mkP_mul (X := p) hq
  rw [h] at h1
  simpa using h1
theorem mk_cop {x d : Int} (hd : 0 < d) : Int.gcd (mkP x d) (mkQ x d) = 1 := by
  have h := mkP_mul (X := x) hd
  have hg := gcd_pos_r (X := x) hd
  obtain ⟨G, hG⟩ : ∃ G : Int, G = (Int.gcd x d : Nat) := ⟨_, rfl⟩
  have e : ((Int.gcd x d : Nat) : Int) = ((Int.gcd (mkP x d) (mkQ x d) : Nat) : Int) * G := by
    rw [← hG] at h hg
    have h3 := Int.gcd_mul_right (mkP x d) G (mkQ x d)
    rw [h.1, h.2] at h3
    rw [h3, Int.natCast_mul, show ((G.natAbs : Nat) : Int) = G by omega]
  rw [← hG] at e hg
  have : ((Int.gcd (mkP x d) (mkQ x d) : Nat) : Int) * G = 1 * G := by omega
  have := Int.eq_of_mul_eq_mul_right (by omega) this
  omega
/-- The order of two fractions. -/
theorem cmp_mul (a b : Int) {g : Int} (hg : 0 < g) : cmpI (a * g) (b * g) = cmpI a b := by
  rcases Int.lt_trichotomy a b with h | h | h
  · rw [cmpI_lt h, cmpI_lt (Int.mul_lt_mul_of_pos_right h hg)]
  · rw [cmpI_eq h, cmpI_eq (by rw [h])]
  · rw [cmpI_gt h, cmpI_gt (Int.mul_lt_mul_of_pos_right h hg)]
theorem cmp_mk (x x' : Int) {d d' : Int} (hd : 0 < d) (hd' : 0 < d') : cmpI (mkP x d * mkQ x' d') (mkP x' d' * mkQ x d) = cmpI (x * d') (x' * d) := by
  have h1 := mkP_mul (X := x) hd
  have h2 := mkP_mul (X := x') hd'
  have g1 := gcd_pos_r (X := x) hd
  have g2 := gcd_pos_r (X := x') hd'
  rw [← cmp_mul _ _ (Int.mul_pos g1 g2)]
  generalize mkP x d = p at *
  generalize mkQ x d = q at *
  generalize mkP x' d' = p' at *
  generalize mkQ x' d' = q' at *
  generalize ((Int.gcd x d : Nat) : Int) = g at *
  generalize ((Int.gcd x' d' : Nat) : Int) = g' at *
  have e1 : p * q' * (g * g') = x * d' := by rw [← h1.1, ← h2.2]; grind
  have e2 : p' * q * (g * g') = x' * d := by rw [← h2.1, ← h1.2]; grind
  rw [e1, e2]
/-- The middle, over the product of the denominators. -/
theorem mid_mk (x x' : Int) {d d' : Int} (hd : 0 < d) (hd' : 0 < d') : midP (mkP x d) (mkQ x d) (mkP x' d') (mkQ x' d') = mkP (x * d' + x' * d) (2 * d * d') ∧ midQ (mkP x d) (mkQ x d) (mkP x' d') (mkQ x' d') = mkQ (x * d' + x' * d) (2 * d * d') := by
  have h1 := mkP_mul (X := x) hd
  have h2 := mkP_mul (X := x') hd'
  have g1 := gcd_pos_r (X := x) hd
  have g2 := gcd_pos_r (X := x') hd'
  have q1 := mkQ_pos (X := x) hd
  have q2 := mkQ_pos (X := x') hd'
  unfold midP midQ
  generalize mkP x d = p at *
  generalize mkQ x d = q at *
  generalize mkP x' d' = p' at *
  generalize mkQ x' d' = q' at *
  generalize ((Int.gcd x d : Nat) : Int) = g at *
  generalize ((Int.gcd x' d' : Nat) : Int) = g' at *
  have hqq : 0 < q * q' := Int.mul_pos q1 q2
  have h3 := mkP_mul (X := p * q' + p' * q) hqq
  have q3 := mkQ_pos (X := p * q' + p' * q) hqq
  have g3 := gcd_pos_r (X := p * q' + p' * q) hqq
  generalize mkP (p * q' + p' * q) (q * q') = a at *
  generalize mkQ (p * q' + p' * q) (q * q') = b at *
  generalize ((Int.gcd (p * q' + p' * q) (q * q') : Nat) : Int) = k at *
  have hz : 0 < 2 * d * d' := Int.mul_pos (by omega) hd'
  refine mk_eq (by omega) hz ?_
  rw [← h1.1, ← h1.2, ← h2.1, ← h2.2]
  have e1 : a * (q * q') = (p * q' + p' * q) * b := by
    refine Int.eq_of_mul_eq_mul_right (show k ≠ 0 by omega) ?_
    rw [← h3.1, ← h3.2]
    grind
  have e2 : a * 1 * (2 * (q * g) * (q' * g')) = (a * (q * q')) * (2 * g * g') := by grind
  rw [e2, e1]
  grind
theorem small_top {z : Int} (h : z.natAbs ≤ 1000000000000000) : z.natAbs < top := lt_top_small (by omega)
theorem natAbs_mul_le {a b : Int} {m n : Nat} (ha : a.natAbs ≤ m) (hb : b.natAbs ≤ n) : (a * b).natAbs ≤ m * n := by
  rw [Int.natAbs_mul]
  exact Nat.mul_le_mul ha hb
theorem addOK_small {p q r s : Int} (hp : p.natAbs ≤ 1000000) (hq : q.natAbs ≤ 1000000) (hr : r.natAbs ≤ 1000000) (hs : s.natAbs ≤ 1000000) : addOK p q r s := by
  have k1 := Int.natAbs_ediv_le_natAbs s (Int.gcd q s : Nat)
  have k2 := Int.natAbs_ediv_le_natAbs q (Int.gcd q s : Nat)
  have m1 := natAbs_mul_le hp (Nat.le_trans k1 hs)
  have m2 := natAbs_mul_le hr (Nat.le_trans k2 hq)
  have m3 := natAbs_mul_le (Nat.le_trans k2 hq) hs
  unfold addOK
  exact ⟨small_top (by omega), small_top (by omega), small_top (by omega), small_top (by omega)⟩
theorem mkQ_abs {x d : Int} (hd : 0 < d) : 0 < mkQ x d ∧ mkQ x d ≤ d := by
  have h1 := mkQ_pos (X := x) hd
  have h2 := (natAbs_mkP (X := x) hd).2
  omega
/-- All that PointMid looks at. -/
structure MidLaw (x d x' d' : Int) : Prop where
  ok : midOK (mkP x d) (mkQ x d) (mkP x' d') (mkQ x' d')
  eP : midP (mkP x d) (mkQ x d) (mkP x' d') (mkQ x' d') = mkP (x * d' + x' * d) (2 * d * d')
  eQ : midQ (mkP x d) (mkQ x d) (mkP x' d') (mkQ x' d') = mkQ (x * d' + x' * d) (2 * d * d')
theorem mid_law {x d x' d' : Int} (hd : 0 < d) (hd' : 0 < d') (h1 : x.natAbs ≤ 1000) (h2 : d ≤ 1000) (h3 : x'.natAbs ≤ 1000) (h4 : d' ≤ 1000) : MidLaw x d x' d' := by
  have b1 := natAbs_mkP (X := x) hd
  have b2 := natAbs_mkP (X := x') hd'
  have hz : 0 < 2 * d * d' := Int.mul_pos (by omega) hd'
  have m1 := natAbs_mul_le h1 (show d'.natAbs ≤ 1000 by omega)
  have m2 := natAbs_mul_le h3 (show d.natAbs ≤ 1000 by omega)
  have m3 := natAbs_mul_le (show (2 * d).natAbs ≤ 2000 by omega) (show d'.natAbs ≤ 1000 by omega)
  have b3 := natAbs_mkP (X := x * d' + x' * d) hz
  have e := mid_mk x x' hd hd'
  refine ⟨⟨addOK_small (by omega) (by omega) (by omega) (by omega), ?_⟩, e.1, e.2⟩
  rw [e.1, e.2]
  exact ⟨small_top (by omega), small_top (by omega)⟩
/-- The middle lies between. -/
theorem mid_cmp (x x' : Int) {d d' : Int} (hd : 0 < d) (hd' : 0 < d') : cmpI (x * (2 * d * d')) ((x * d' + x' * d) * d) = cmpI (x * d') (x' * d) ∧ cmpI ((x * d' + x' * d) * d') (x' * (2 * d * d')) = cmpI (x * d') (x' * d) := by
  constructor
  · rw [← cmp_mul (x * d') (x' * d) hd]
    refine cmpI_sub ?_
    grind
  · rw [← cmp_mul (x * d') (x' * d) hd']
    refine cmpI_sub ?_
    grind
/-- The rounded one is at most a half away. -/
theorem round_half (M : Int) {Z : Int} (hZ : 0 < Z) : 2 * (nr M Z * Z - M) < Z ∧ -Z ≤ 2 * (nr M Z * Z - M) := by
  have h1 := (nr_le (p := M) (q := Z) (n := nr M Z) hZ).2 (Int.le_refl _)
  have h2 : ¬ (M * 2 ≤ (2 * (nr M Z - 1) + 1) * Z) := fun h => by
    have := (nr_le (p := M) (q := Z) (n := nr M Z - 1) hZ).1 h
    omega
  have e1 : (2 * nr M Z + 1) * Z = 2 * (nr M Z * Z) + Z := by grind
  have e2 : (2 * (nr M Z - 1) + 1) * Z = 2 * (nr M Z * Z) - Z := by grind
  omega
theorem nr_bd {M Z : Int} (hZ : 0 < Z) (h1 : M.natAbs ≤ 10000) : -10001 ≤ nr M Z ∧ nr M Z ≤ 10001 := by
  have h := round_half M hZ
  constructor
  · rcases (by omega : nr M Z ≤ -10002 ∨ -10002 < nr M Z) with k | k
    · have := Int.mul_le_mul_of_nonneg_right k (show 0 ≤ Z by omega)
      have : -10002 * Z ≤ -10002 := by omega
      omega
    · omega
  · rcases (by omega : 10002 ≤ nr M Z ∨ nr M Z < 10002) with k | k
    · have := Int.mul_le_mul_of_nonneg_right k (show 0 ≤ Z by omega)
      omega
    · omega
/-- The difference, held against a half. -/
theorem diff_half (M : Int) {Z : Int} (hZ : 0 < Z) :
    cmpI (mkP (nr M Z * mkQ M Z + -mkP M Z * 1) (1 * mkQ M Z) * 2) (1 * mkQ (nr M Z * mkQ M Z + -mkP M Z * 1) (1 * mkQ M Z)) = -1 ∧
    0 ≤ cmpI (mkP (nr M Z * mkQ M Z + -mkP M Z * 1) (1 * mkQ M Z) * 2) (-1 * mkQ (nr M Z * mkQ M Z + -mkP M Z * 1) (1 * mkQ M Z)) := by
  have hq := mkQ_pos (X := M) hZ
  have h := round_half (mkP M Z) hq
  rw [nr_mk hZ] at h
  generalize nr M Z = N at *
  generalize mkP M Z = p at *
  generalize mkQ M Z = q at *
  rw [Int.one_mul, Int.mul_one]
  have h1 := mkP_mul (X := N * q + -p) hq
  have g1 := gcd_pos_r (X := N * q + -p) hq
  have q1 := mkQ_pos (X := N * q + -p) hq
  generalize mkP (N * q + -p) q = a at *
  generalize mkQ (N * q + -p) q = b at *
  generalize ((Int.gcd (N * q + -p) q : Nat) : Int) = g at *
  constructor
  · refine cmpI_lt ?_
    refine Int.lt_of_mul_lt_mul_right (a := g) ?_ (by omega)
    have e1 : a * 2 * g = 2 * (N * q - p) := by rw [show a * 2 * g = 2 * (a * g) by grind, h1.1]; omega
    have e2 : 1 * b * g = q := by rw [Int.one_mul, h1.2]
    omega
  · refine cmpI_ge.2 ?_
    refine Int.le_of_mul_le_mul_right ?_ g1
    have e1 : a * 2 * g = 2 * (N * q - p) := by rw [show a * 2 * g = 2 * (a * g) by grind, h1.1]; omega
    have e2 : -1 * b * g = -q := by rw [show -1 * b * g = -(b * g) by grind, h1.2]
    omega
end Go.Proofs.YtfbbnphpapmpcaaGreatDoor
