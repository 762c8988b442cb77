/-
  Chapter 05: PointBoxes.
-/
import Derived.Test.YthcpaagfgkbjaaaDoorQ2
namespace Go.Proofs.YthcpaagfgkbjaaaDoor
open Go.RowKit Mag

/-! ### The plain law -/
theorem le_mul {a b g : Int} (hg : 0 < g) : (a * g ≤ b * g) ↔ a ≤ b := ⟨fun h => Int.le_of_mul_le_mul_right h hg, fun h => Int.mul_le_mul_of_nonneg_right h (by omega)⟩
theorem inB_mk {a b c d X Y D : Int} (hD : 0 < D) : inB a b c d (mkP X D) (mkQ X D) (mkP Y D) (mkQ Y D) = inR5 a b c d X Y D := by
  have h1 := mkP_mul (X := X) hD
  have h2 := mkP_mul (X := Y) hD
  have g1 := gcd_pos_r (X := X) hD
  have g2 := gcd_pos_r (X := Y) hD
  generalize mkP X D = p at *
  generalize mkQ X D = q at *
  generalize mkP Y D = r at *
  generalize mkQ Y D = s at *
  generalize ((Int.gcd X D : Nat) : Int) = g at *
  generalize ((Int.gcd Y D : Nat) : Int) = k at *
  have e1 : (a * q ≤ p * 1) ↔ a * D ≤ X := by rw [← le_mul g1, Int.mul_one, Int.mul_assoc, h1.1, h1.2]
  have e2 : (p * 1 ≤ c * q) ↔ X ≤ c * D := by rw [← le_mul g1, Int.mul_one, Int.mul_assoc, h1.1, h1.2]
  have e3 : (b * s ≤ r * 1) ↔ b * D ≤ Y := by rw [← le_mul g2, Int.mul_one, Int.mul_assoc, h2.1, h2.2]
  have e4 : (r * 1 ≤ d * s) ↔ Y ≤ d * D := by rw [← le_mul g2, Int.mul_one, Int.mul_assoc, h2.1, h2.2]
  unfold inB inR5
  rw [decide_eq_decide.2 e1, decide_eq_decide.2 e2, decide_eq_decide.2 e3, decide_eq_decide.2 e4, Bool.and_assoc, Bool.and_assoc, Bool.and_assoc]
theorem inB_one {a b c d U V : Int} : inB a b c d U 1 V 1 = inR5 a b c d U V 1 := by
  unfold inB inR5
  simp only [Int.mul_one]
  rw [Bool.and_assoc, Bool.and_assoc, Bool.and_assoc]
theorem meets_comm (a b c d a' b' c' d' : Int) : meets a b c d a' b' c' d' = meets a' b' c' d' a b c d := by
  unfold meets
  rw [Int.max_comm a a', Int.max_comm b b', Int.min_comm c c', Int.min_comm d d']
theorem meets_corner {a b c d a' b' c' d' : Int} (h1 : goodB a b c d = 0) (h2 : goodB a' b' c' d' = 0) :
    meets a b c d a' b' c' d' = (inB a b c d (max a a') 1 (max b b') 1 && inB a' b' c' d' (max a a') 1 (max b b') 1) := by
  have k1 : a ≤ c ∧ b ≤ d := by
    unfold goodB at h1
    split at h1
    · rename_i h; exact ⟨h.2.2.1, h.2.2.2⟩
    · cases h1
  have k2 : a' ≤ c' ∧ b' ≤ d' := by
    unfold goodB at h2
    split at h2
    · rename_i h; exact ⟨h.2.2.1, h.2.2.2⟩
    · cases h2
  unfold meets inB
  rw [Bool.eq_iff_iff]
  simp only [Bool.and_eq_true, decide_eq_true_eq, Int.mul_one]
  omega
theorem goodB_cases (a b c d : Int) : goodB a b c d = 0 ∨ goodB a b c d = 5 := by
  unfold goodB
  split
  · exact .inl rfl
  · exact .inr rfl
/-- The boxes that PointBoxes looks at. -/
def bx (x y z : Int) : Nat → Int
  | 0 => x | 1 => y | 2 => z | _ => 0
def bList (ax ay bx by_ cx cy dx dy : Int) : List Value := [.int .i64 ax, .int .i64 ay, .int .i64 bx, .int .i64 by_, .int .i64 cx, .int .i64 cy, .int .i64 dx, .int .i64 dy, .int .i64 ax, .int .i64 ay, .int .i64 dx, .int .i64 dy, .int .i64 0, .int .i64 0, .int .i64 0, .int .i64 0]
theorem bCells {a0 a1 b0 b1 c0 c1 d0 d1 : Int} {W : World} {g : Nat} {t : TypeId} (h : Own W g t (bList a0 a1 b0 b1 c0 c1 d0 d1)) {k : Nat} (hk : k < 4) :
    W.cell? ⟨g, k * 4, none⟩ = some (.int .i64 (bx a0 c0 a0 k)) ∧ W.cell? ⟨g, k * 4 + 1, none⟩ = some (.int .i64 (bx a1 c1 a1 k)) ∧ W.cell? ⟨g, k * 4 + 2, none⟩ = some (.int .i64 (bx b0 d0 d0 k)) ∧ W.cell? ⟨g, k * 4 + 3, none⟩ = some (.int .i64 (bx b1 d1 d1 k)) := by
  rcases (by omega : k = 0 ∨ k = 1 ∨ k = 2 ∨ k = 3) with rfl | rfl | rfl | rfl
  all_goals exact ⟨h.cell _, h.cell _, h.cell _, h.cell _⟩
theorem bx_bd {x y z : Int} (hx : 0 ≤ x ∧ x ≤ 32) (hy : 0 ≤ y ∧ y ≤ 32) (hz : 0 ≤ z ∧ z ≤ 32) (k : Nat) : 0 ≤ bx x y z k ∧ bx x y z k ≤ 32 := by
  match k with
  | 0 => exact hx
  | 1 => exact hy
  | 2 => exact hz
  | k + 3 => simp [bx]
theorem in64_small {z : Int} (h : 0 ≤ z ∧ z ≤ 32) : in64 z := ⟨by omega, by omega⟩
/-! ### The walk -/
set_option maxRecDepth 100000 in
set_option maxHeartbeats 12800000 in
theorem PointBoxes_any (a b c d n : Int) (w : World) (ha : in64 a) (hb : in64 b) (hc : in64 c) (hd : in64 d) (hn : in64 n) (ht : Tab w) : Calls Tryd.prog 5 #[.int .i64 a, .int .i64 b, .int .i64 c, .int .i64 d, .int .i64 n] w (RetB w true) := by
  have HGa : Hid (∀ u, Calls Tryd.prog 21 #[.int .i64 a] u (RetG u (gX (around a 1048576)) (gY (around a 1048576)))) := Lib.hid fun u => Grid_any a u ha.1 ha.2
  have HGb : Hid (∀ u, Calls Tryd.prog 21 #[.int .i64 b] u (RetG u (gX (around b 1048576)) (gY (around b 1048576)))) := Lib.hid fun u => Grid_any b u hb.1 hb.2
  have HGc : Hid (∀ u, Calls Tryd.prog 21 #[.int .i64 c] u (RetG u (gX (around c 1048576)) (gY (around c 1048576)))) := Lib.hid fun u => Grid_any c u hc.1 hc.2
  have HGd : Hid (∀ u, Calls Tryd.prog 21 #[.int .i64 d] u (RetG u (gX (around d 1048576)) (gY (around d 1048576)))) := Lib.hid fun u => Grid_any d u hd.1 hd.2
  have ba := gX_bd (around a 1048576)
  have ba' := gY_bd (around a 1048576)
  have bb := gX_bd (around b 1048576)
  have bb' := gY_bd (around b 1048576)
  have bc := gX_bd (around c 1048576)
  have bc' := gY_bd (around c 1048576)
  have bd := gX_bd (around d 1048576)
  have bd' := gY_bd (around d 1048576)
  generalize gX (around a 1048576) = ax at *
  generalize gY (around a 1048576) = ay at *
  generalize gX (around b 1048576) = bx_ at *
  generalize gY (around b 1048576) = by_ at *
  generalize gX (around c 1048576) = cx at *
  generalize gY (around c 1048576) = cy at *
  generalize gX (around d 1048576) = dx at *
  generalize gY (around d 1048576) = dy at *
  obtain ⟨hX, hY, hD0, hD1⟩ := sX_bd n
  have HS : Hid (∀ u, Calls Tryd.prog 8 #[.int .i64 n] u (RetR u (sX n) (sY n) (sD n))) := Lib.hid fun u => Some_any n u hn
  generalize sX n = X at *
  generalize sY n = Y at *
  generalize sD n = D at *
  have HRp : Hid (∀ u, Calls Tryd.prog 10 #[.agg #[.int .i64 X, .int .i64 Y, .int .i64 D]] u (RetP u (mkP X D) (mkQ X D) (mkP Y D) (mkQ Y D))) := Lib.hid fun u =>
    real_any X Y D u ⟨by omega, by omega⟩ ⟨by omega, by omega⟩ ⟨by omega, by omega⟩ (by omega)
  have HIn : Hid (∀ (a b c d : Int) (s : PV) u, 0 ≤ a ∧ a ≤ 32 → 0 ≤ b ∧ b ≤ 32 → 0 ≤ c ∧ c ≤ 32 → 0 ≤ d ∧ d ≤ 32 → s.is u (mkP X D) (mkQ X D) (mkP Y D) (mkQ Y D) → Calls Tryd.prog 24 #[.agg #[.int .i64 a, .int .i64 b, .int .i64 c, .int .i64 d], .agg #[.bool s.x.p.neg, .slice s.x.p.A s.x.p.n s.x.p.c, .bool s.x.l.neg, .slice s.x.l.A s.x.l.n s.x.l.c, .bool s.y.p.neg, .slice s.y.p.A s.y.p.n s.y.p.c, .bool s.y.l.neg, .slice s.y.l.A s.y.l.n s.y.l.c]] u (RetB u (inR5 a b c d X Y D))) := Lib.hid fun a b c d s u h1 h2 h3 h4 hs =>
    inB_mk hD0 ▸ PIn_any hs (Lib.hid (in64_small h1)) (Lib.hid (in64_small h2)) (Lib.hid (in64_small h3)) (Lib.hid (in64_small h4))
  have HJn : Hid (∀ (a b c d : Int) u, 0 ≤ a ∧ a ≤ 32 → 0 ≤ b ∧ b ≤ 32 → 0 ≤ c ∧ c ≤ 32 → 0 ≤ d ∧ d ≤ 32 → Calls Tryd.prog 26 #[.agg #[.int .i64 a, .int .i64 b, .int .i64 c, .int .i64 d], .agg #[.int .i64 X, .int .i64 Y, .int .i64 D]] u (RetB u (inR5 a b c d X Y D))) := Lib.hid fun a b c d u h1 h2 h3 h4 =>
    RIn_any a b c d X Y D u (by omega) (by omega) (by omega) (by omega) hD0 (by omega)
  generalize mkP X D = p1 at *
  generalize mkQ X D = p2 at *
  generalize mkP Y D = p3 at *
  generalize mkQ Y D = p4 at *
  have HOf : Hid (∀ u, Calls Tryd.prog 17 #[.agg #[.int .i64 cx, .int .i64 cy]] u (RetP u cx 1 cy 1)) := Lib.hid fun u => POf_any cx cy u (by omega) (by omega) (by omega) (by omega)
  go_enter Tryd.func5, Tryd.ntmps5
  go_wp2_with fail
  refine (HGa.out _).mono ?_
  rintro e w1 ⟨rfl, k1⟩
  go_wp2_with fail
  refine (HGb.out _).mono ?_
  rintro e w2 ⟨rfl, k2⟩
  go_upto_region 2 with fail
  refine wp_new1 fun w3 hXb k3 => ?_
  go_wp2_with fail
  refine (HGc.out _).mono ?_
  rintro e w4 ⟨rfl, k4⟩
  go_wp2_with fail
  refine (HGd.out _).mono ?_
  rintro e w5 ⟨rfl, k5⟩
  go_upto_region 3 with fail
  refine wp_new1 fun w6 hYb k6 => ?_
  go_wp2_with fail
  refine (HS.out _).mono ?_
  rintro e w7 ⟨rfl, k7⟩
  go_upto_region 4 with fail
  refine wp_new1 fun w8 hPb k8 => ?_
  have j8 := Below.call k7 k8
  have j6 := Below.call (Below.call (Below.call k4 k5) k6) j8
  have hB8 := Below.call (Below.call (Below.call k1 k2) k3) j6
  have hXb := hXb.on j6
  have hYb := hYb.on j8
  obtain ⟨l0, l1, l2, l3, _⟩ := hXb.all4
  obtain ⟨y0, y1, y2, y3, _⟩ := hYb.all4
  go_upto_region 5 with fail
  refine wp_new1 fun W hO k9 => ?_
  have hB := Below.call hB8 k9
  have hP := hPb.on k9
  have hY := hYb.on k9
  have hO : Own W w8.heap.size 56 (bList ax ay bx_ by_ cx cy dx dy) := hO
  generalize w8.heap.size = g at hO ⊢
  generalize w7.heap.size = bP at hP ⊢
  generalize w5.heap.size = bY at hY ⊢
  clear HGa HGb HGc HGd HS l0 l1 l2 l3 y0 y1 y2 y3 hXb hYb hPb
  go_wp2_with fail
  go_loopw [15] (fun i wr => ∃ k : Nat, k ≤ 4 ∧ i = .int .i64 k ∧ Below W.heap.size W wr) (fun i _ => 4 - (intOf i).toNat)
  case atStart => exact ⟨0, by omega, rfl, Below.refl _ _⟩
  case round =>
    obtain ⟨k, hk, rfl, hbk⟩ := hrel
    by_cases hk4 : k < 4
    · have hOr := hO.on hbk
      have hPr := hP.on hbk
      have hYr := hY.on hbk
      have q0 := bx_bd ba bc ba k
      have q1 := bx_bd ba' bc' ba' k
      have q2 := bx_bd bb bd bd k
      have q3 := bx_bd bb' bd' bd' k
      obtain ⟨A0, eA0⟩ : ∃ v, v = bx ax cx ax k := ⟨_, rfl⟩
      obtain ⟨A1, eA1⟩ : ∃ v, v = bx ay cy ay k := ⟨_, rfl⟩
      obtain ⟨A2, eA2⟩ : ∃ v, v = bx bx_ dx dx k := ⟨_, rfl⟩
      obtain ⟨A3, eA3⟩ : ∃ v, v = bx by_ dy dy k := ⟨_, rfl⟩
      have rW : ∀ wz, Below W.heap.size W wz → wz.cell? ⟨g, k * 4, none⟩ = some (.int .i64 A0) ∧ wz.cell? ⟨g, k * 4 + 1, none⟩ = some (.int .i64 A1) ∧ wz.cell? ⟨g, k * 4 + 2, none⟩ = some (.int .i64 A2) ∧ wz.cell? ⟨g, k * 4 + 3, none⟩ = some (.int .i64 A3) := fun wz hwz => by
        rw [eA0, eA1, eA2, eA3]
        exact bCells (hO.on hwz) hk4
      rw [← eA0] at q0
      rw [← eA1] at q1
      rw [← eA2] at q2
      rw [← eA3] at q3
      clear eA0 eA1 eA2 eA3
      have rk : ∀ wz, Below wr.heap.size wr wz → _ := fun wz hwz => rW wz (Below.call hbk hwz)
      obtain ⟨b1, HI1, HJ1⟩ : ∃ b1, Hid (∀ (s : PV) u, s.is u p1 p2 p3 p4 → Calls Tryd.prog 24 #[.agg #[.int .i64 A0, .int .i64 A1, .int .i64 A2, .int .i64 A3], .agg #[.bool s.x.p.neg, .slice s.x.p.A s.x.p.n s.x.p.c, .bool s.x.l.neg, .slice s.x.l.A s.x.l.n s.x.l.c, .bool s.y.p.neg, .slice s.y.p.A s.y.p.n s.y.p.c, .bool s.y.l.neg, .slice s.y.l.A s.y.l.n s.y.l.c]] u (RetB u b1)) ∧ Hid (∀ u, Calls Tryd.prog 26 #[.agg #[.int .i64 A0, .int .i64 A1, .int .i64 A2, .int .i64 A3], .agg #[.int .i64 X, .int .i64 Y, .int .i64 D]] u (RetB u b1)) :=
        ⟨_, Lib.hid fun s u hs => HIn.out A0 A1 A2 A3 s u q0 q1 q2 q3 hs, Lib.hid fun u => HJn.out A0 A1 A2 A3 u q0 q1 q2 q3⟩
      obtain ⟨b2, HI2, HJ2⟩ : ∃ b2, Hid (∀ (s : PV) u, s.is u cx 1 cy 1 → Calls Tryd.prog 24 #[.agg #[.int .i64 A0, .int .i64 A1, .int .i64 A2, .int .i64 A3], .agg #[.bool s.x.p.neg, .slice s.x.p.A s.x.p.n s.x.p.c, .bool s.x.l.neg, .slice s.x.l.A s.x.l.n s.x.l.c, .bool s.y.p.neg, .slice s.y.p.A s.y.p.n s.y.p.c, .bool s.y.l.neg, .slice s.y.l.A s.y.l.n s.y.l.c]] u (RetB u b2)) ∧ Hid (∀ u, Calls Tryd.prog 26 #[.agg #[.int .i64 A0, .int .i64 A1, .int .i64 A2, .int .i64 A3], .agg #[.int .i64 cx, .int .i64 cy, .int .i64 1]] u (RetB u b2)) :=
        ⟨_, Lib.hid fun s u hs => inB_one ▸ PIn_any hs (Lib.hid (in64_small q0)) (Lib.hid (in64_small q1)) (Lib.hid (in64_small q2)) (Lib.hid (in64_small q3)), Lib.hid fun u => RIn_any A0 A1 A2 A3 cx cy 1 u (by omega) (by omega) (by omega) (by omega) (by omega) (by omega)⟩
      have m0 : (0 : Int) ≤ (k : Int) := by omega
      have m4 : (k : Int) < 4 := by omega
      go_wp2_with fail
      refine wp_region_specs wr [Spec.eq (.slice (some ⟨g, 0, none⟩) 4 4), Spec.eq (.int .i64 (k : Int)), Spec.eq (.pointer (some ⟨g, k * 4, none⟩)), Spec.eq (.agg #[.int .i64 A0, .int .i64 A1, .int .i64 A2, .int .i64 A3]), Spec.eq (.agg #[.int .i64 X, .int .i64 Y, .int .i64 D]), sP p1 p2 p3 p4, Spec.eq (.bool b1), Spec.eq (.slice (some ⟨g, 0, none⟩) 4 4), Spec.eq (.int .i64 (k : Int)), Spec.eq (.pointer (some ⟨g, k * 4, none⟩)), Spec.eq (.agg #[.int .i64 A0, .int .i64 A1, .int .i64 A2, .int .i64 A3]), Spec.eq (.agg #[.int .i64 X, .int .i64 Y, .int .i64 D]), Spec.eq (.bool b1), Spec.eq (.bool false), Spec.eq (.bool false), Spec.eq (.slice (some ⟨g, 0, none⟩) 4 4), Spec.eq (.int .i64 (k : Int)), Spec.eq (.pointer (some ⟨g, k * 4, none⟩)), Spec.eq (.agg #[.int .i64 A0, .int .i64 A1, .int .i64 A2, .int .i64 A3]), Spec.eq (.pointer (some ⟨bY, 0, none⟩)), Spec.eq (.agg #[.int .i64 cx, .int .i64 cy]), sP cx 1 cy 1, Spec.eq (.bool b2), Spec.eq (.slice (some ⟨g, 0, none⟩) 4 4), Spec.eq (.int .i64 (k : Int)), Spec.eq (.pointer (some ⟨g, k * 4, none⟩)), Spec.eq (.agg #[.int .i64 A0, .int .i64 A1, .int .i64 A2, .int .i64 A3]), Spec.eq (.pointer (some ⟨bY, 0, none⟩)), Spec.eq (.agg #[.int .i64 cx, .int .i64 cy]), Spec.eq (.agg #[.int .i64 cx, .int .i64 cy, .int .i64 1]), Spec.eq (.bool b2), Spec.eq (.bool false), Spec.eq (.bool false)]
          (by kernel_rfl) (by kernel_rfl) rfl (by kernel_rfl) (Below.drew (Below.refl _ _)) ?_ ?_
      ·
        refine RegSteps.cons ?_ ?_
        · intro _ az wz hC hF hD _ K hK
          have q14 : az.tmps[14]? = some (.slice (some ⟨g, 0, none⟩) 4 4) := hF 14 rfl
          clear hF hD
          refine want_none rfl ?_
          go_simp
          exact hK _ _ hC (Below.refl _ _) rfl
        refine RegSteps.cons ?_ ?_
        · intro _ az wz hC hF hD _ K hK
          have q15 : az.tmps[15]? = some (.int .i64 (k : Int)) := hF 15 rfl
          clear hF hD
          refine want_none rfl ?_
          go_simp
          exact hK _ _ hC (Below.refl _ _) rfl
        refine RegSteps.cons ?_ ?_
        · intro _ az wz hC hF hD _ K hK
          obtain ⟨_, q44, rfl⟩ := dep hD 0 rfl rfl rfl rfl
          obtain ⟨_, q45, rfl⟩ := dep hD 1 rfl rfl rfl rfl
          clear hF hD
          refine want_none rfl ?_
          go_simp
          exact hK _ _ hC (Below.refl _ _) rfl
        refine RegSteps.cons ?_ ?_
        · intro _ az wz hC hF hD _ K hK
          obtain ⟨_, q46, rfl⟩ := dep hD 2 rfl rfl rfl rfl
          obtain ⟨l0, l1, l2, l3⟩ := rk _ hC
          clear hF hD
          refine want_none rfl ?_
          go_simp
          exact hK _ _ hC (Below.refl _ _) rfl
        refine RegSteps.cons ?_ ?_
        · intro _ az wz hC hF hD _ K hK
          have q13 : az.tmps[13]? = some (.pointer (some ⟨bP, 0, none⟩)) := hF 13 rfl
          obtain ⟨l0, l1, l2, _⟩ := (hPr.on hC).all3
          clear hF hD
          refine want_none rfl ?_
          go_simp
          exact hK _ _ hC (Below.refl _ _) rfl
        refine RegSteps.cons ?_ ?_
        · intro _ az wz hC hF hD _ K hK
          obtain ⟨_, q48, rfl⟩ := dep hD 4 rfl rfl rfl rfl
          clear hF hD
          refine want_none rfl ?_
          go_simp
          refine (HRp.out _).mono ?_
          rintro e wy ⟨x, rfl, k, hx⟩
          exact hK _ _ (Below.call hC k) k ⟨x, rfl, hx⟩
        refine RegSteps.cons ?_ ?_
        · intro _ az wz hC hF hD _ K hK
          obtain ⟨_, q47, rfl⟩ := dep hD 3 rfl rfl rfl rfl
          obtain ⟨_, q49, x49, rfl, hx49⟩ := dep hD 5 rfl rfl rfl rfl
          clear hF hD
          refine want_none rfl ?_
          go_simp
          refine (HI1.out _ _ hx49).mono ?_
          rintro e wy ⟨rfl, k⟩
          exact hK _ _ (Below.call hC k) k rfl
        refine RegSteps.cons ?_ ?_
        · intro _ az wz hC hF hD _ K hK
          have q14 : az.tmps[14]? = some (.slice (some ⟨g, 0, none⟩) 4 4) := hF 14 rfl
          clear hF hD
          refine want_none rfl ?_
          go_simp
          exact hK _ _ hC (Below.refl _ _) rfl
        refine RegSteps.cons ?_ ?_
        · intro _ az wz hC hF hD _ K hK
          have q15 : az.tmps[15]? = some (.int .i64 (k : Int)) := hF 15 rfl
          clear hF hD
          refine want_none rfl ?_
          go_simp
          exact hK _ _ hC (Below.refl _ _) rfl
        refine RegSteps.cons ?_ ?_
        · intro _ az wz hC hF hD _ K hK
          obtain ⟨_, q51, rfl⟩ := dep hD 7 rfl rfl rfl rfl
          obtain ⟨_, q52, rfl⟩ := dep hD 8 rfl rfl rfl rfl
          clear hF hD
          refine want_none rfl ?_
          go_simp
          exact hK _ _ hC (Below.refl _ _) rfl
        refine RegSteps.cons ?_ ?_
        · intro _ az wz hC hF hD _ K hK
          obtain ⟨_, q53, rfl⟩ := dep hD 9 rfl rfl rfl rfl
          obtain ⟨l0, l1, l2, l3⟩ := rk _ hC
          clear hF hD
          refine want_none rfl ?_
          go_simp
          exact hK _ _ hC (Below.refl _ _) rfl
        refine RegSteps.cons ?_ ?_
        · intro _ az wz hC hF hD _ K hK
          have q13 : az.tmps[13]? = some (.pointer (some ⟨bP, 0, none⟩)) := hF 13 rfl
          obtain ⟨l0, l1, l2, _⟩ := (hPr.on hC).all3
          clear hF hD
          refine want_none rfl ?_
          go_simp
          exact hK _ _ hC (Below.refl _ _) rfl
        refine RegSteps.cons ?_ ?_
        · intro _ az wz hC hF hD _ K hK
          obtain ⟨_, q54, rfl⟩ := dep hD 10 rfl rfl rfl rfl
          obtain ⟨_, q55, rfl⟩ := dep hD 11 rfl rfl rfl rfl
          clear hF hD
          refine want_none rfl ?_
          go_simp
          refine (HJ1.out _).mono ?_
          rintro e wy ⟨rfl, k⟩
          exact hK _ _ (Below.call hC k) k rfl
        refine RegSteps.cons ?_ ?_
        · intro _ az wz hC hF hD _ K hK
          obtain ⟨_, q50, rfl⟩ := dep hD 6 rfl rfl rfl rfl
          obtain ⟨_, q56, rfl⟩ := dep hD 12 rfl rfl rfl rfl
          clear hF hD
          refine want_none rfl ?_
          go_simp
          exact hK _ _ hC (Below.refl _ _) rfl
        refine RegSteps.cons ?_ ?_
        · intro _ az wz hC hF hD _ K hK
          obtain ⟨_, q57, rfl⟩ := dep hD 13 rfl rfl rfl rfl
          clear hF hD
          refine want_none rfl ?_
          go_simp
          exact hK _ _ hC (Below.refl _ _) rfl
        refine RegSteps.cons ?_ ?_
        · intro _ az wz hC hF hD _ K hK
          have q14 : az.tmps[14]? = some (.slice (some ⟨g, 0, none⟩) 4 4) := hF 14 rfl
          obtain ⟨_, qg, rfl⟩ := dep hD 14 rfl rfl rfl rfl
          clear hF hD
          refine want_yes rfl rfl rfl qg ?_
          go_simp
          exact hK _ _ hC (Below.refl _ _) rfl
        refine RegSteps.cons ?_ ?_
        · intro _ az wz hC hF hD _ K hK
          have q15 : az.tmps[15]? = some (.int .i64 (k : Int)) := hF 15 rfl
          obtain ⟨_, qg, rfl⟩ := dep hD 14 rfl rfl rfl rfl
          clear hF hD
          refine want_yes rfl rfl rfl qg ?_
          go_simp
          exact hK _ _ hC (Below.refl _ _) rfl
        refine RegSteps.cons ?_ ?_
        · intro _ az wz hC hF hD _ K hK
          obtain ⟨_, q59, rfl⟩ := dep hD 15 rfl rfl rfl rfl
          obtain ⟨_, q60, rfl⟩ := dep hD 16 rfl rfl rfl rfl
          obtain ⟨_, qg, rfl⟩ := dep hD 14 rfl rfl rfl rfl
          clear hF hD
          refine want_yes rfl rfl rfl qg ?_
          go_simp
          exact hK _ _ hC (Below.refl _ _) rfl
        refine RegSteps.cons ?_ ?_
        · intro _ az wz hC hF hD _ K hK
          obtain ⟨_, q61, rfl⟩ := dep hD 17 rfl rfl rfl rfl
          obtain ⟨_, qg, rfl⟩ := dep hD 14 rfl rfl rfl rfl
          obtain ⟨l0, l1, l2, l3⟩ := rk _ hC
          clear hF hD
          refine want_yes rfl rfl rfl qg ?_
          go_simp
          exact hK _ _ hC (Below.refl _ _) rfl
        refine RegSteps.cons ?_ ?_
        · intro _ az wz hC hF hD _ K hK
          have q12 : az.tmps[12]? = some (.pointer (some ⟨bY, 0, none⟩)) := hF 12 rfl
          obtain ⟨_, qg, rfl⟩ := dep hD 14 rfl rfl rfl rfl
          clear hF hD
          refine want_yes rfl rfl rfl qg ?_
          go_simp
          exact hK _ _ hC (Below.refl _ _) rfl
        refine RegSteps.cons ?_ ?_
        · intro _ az wz hC hF hD _ K hK
          obtain ⟨_, q63, rfl⟩ := dep hD 19 rfl rfl rfl rfl
          obtain ⟨_, qg, rfl⟩ := dep hD 14 rfl rfl rfl rfl
          obtain ⟨l0, l1, l2, l3, _⟩ := (hYr.on hC).all4
          clear hF hD
          refine want_yes rfl rfl rfl qg ?_
          go_simp
          exact hK _ _ hC (Below.refl _ _) rfl
        refine RegSteps.cons ?_ ?_
        · intro _ az wz hC hF hD _ K hK
          obtain ⟨_, q64, rfl⟩ := dep hD 20 rfl rfl rfl rfl
          obtain ⟨_, qg, rfl⟩ := dep hD 14 rfl rfl rfl rfl
          clear hF hD
          refine want_yes rfl rfl rfl qg ?_
          go_simp
          refine (HOf.out _).mono ?_
          rintro e wy ⟨x, rfl, k, hx⟩
          exact hK _ _ (Below.call hC k) k ⟨x, rfl, hx⟩
        refine RegSteps.cons ?_ ?_
        · intro _ az wz hC hF hD _ K hK
          obtain ⟨_, q62, rfl⟩ := dep hD 18 rfl rfl rfl rfl
          obtain ⟨_, q65, x65, rfl, hx65⟩ := dep hD 21 rfl rfl rfl rfl
          obtain ⟨_, qg, rfl⟩ := dep hD 14 rfl rfl rfl rfl
          clear hF hD
          refine want_yes rfl rfl rfl qg ?_
          go_simp
          refine (HI2.out _ _ hx65).mono ?_
          rintro e wy ⟨rfl, k⟩
          exact hK _ _ (Below.call hC k) k rfl
        refine RegSteps.cons ?_ ?_
        · intro _ az wz hC hF hD _ K hK
          have q14 : az.tmps[14]? = some (.slice (some ⟨g, 0, none⟩) 4 4) := hF 14 rfl
          obtain ⟨_, qg, rfl⟩ := dep hD 14 rfl rfl rfl rfl
          clear hF hD
          refine want_yes rfl rfl rfl qg ?_
          go_simp
          exact hK _ _ hC (Below.refl _ _) rfl
        refine RegSteps.cons ?_ ?_
        · intro _ az wz hC hF hD _ K hK
          have q15 : az.tmps[15]? = some (.int .i64 (k : Int)) := hF 15 rfl
          obtain ⟨_, qg, rfl⟩ := dep hD 14 rfl rfl rfl rfl
          clear hF hD
          refine want_yes rfl rfl rfl qg ?_
          go_simp
          exact hK _ _ hC (Below.refl _ _) rfl
        refine RegSteps.cons ?_ ?_
        · intro _ az wz hC hF hD _ K hK
          obtain ⟨_, q67, rfl⟩ := dep hD 23 rfl rfl rfl rfl
          obtain ⟨_, q68, rfl⟩ := dep hD 24 rfl rfl rfl rfl
          obtain ⟨_, qg, rfl⟩ := dep hD 14 rfl rfl rfl rfl
          clear hF hD
          refine want_yes rfl rfl rfl qg ?_
          go_simp
          exact hK _ _ hC (Below.refl _ _) rfl
        refine RegSteps.cons ?_ ?_
        · intro _ az wz hC hF hD _ K hK
          obtain ⟨_, q69, rfl⟩ := dep hD 25 rfl rfl rfl rfl
          obtain ⟨_, qg, rfl⟩ := dep hD 14 rfl rfl rfl rfl
          obtain ⟨l0, l1, l2, l3⟩ := rk _ hC
          clear hF hD
          refine want_yes rfl rfl rfl qg ?_
          go_simp
          exact hK _ _ hC (Below.refl _ _) rfl
        refine RegSteps.cons ?_ ?_
        · intro _ az wz hC hF hD _ K hK
          have q12 : az.tmps[12]? = some (.pointer (some ⟨bY, 0, none⟩)) := hF 12 rfl
          obtain ⟨_, qg, rfl⟩ := dep hD 14 rfl rfl rfl rfl
          clear hF hD
          refine want_yes rfl rfl rfl qg ?_
          go_simp
          exact hK _ _ hC (Below.refl _ _) rfl
        refine RegSteps.cons ?_ ?_
        · intro _ az wz hC hF hD _ K hK
          obtain ⟨_, q71, rfl⟩ := dep hD 27 rfl rfl rfl rfl
          obtain ⟨_, qg, rfl⟩ := dep hD 14 rfl rfl rfl rfl
          obtain ⟨l0, l1, l2, l3, _⟩ := (hYr.on hC).all4
          clear hF hD
          refine want_yes rfl rfl rfl qg ?_
          go_simp
          exact hK _ _ hC (Below.refl _ _) rfl
        refine RegSteps.cons ?_ ?_
        · intro _ az wz hC hF hD _ K hK
          obtain ⟨_, q72, rfl⟩ := dep hD 28 rfl rfl rfl rfl
          obtain ⟨_, qg, rfl⟩ := dep hD 14 rfl rfl rfl rfl
          clear hF hD
          refine want_yes rfl rfl rfl qg ?_
          go_simp
          refine (ROf_any cx cy _).mono ?_
          rintro e wy ⟨rfl, k⟩
          exact hK _ _ (Below.call hC k) k rfl
        refine RegSteps.cons ?_ ?_
        · intro _ az wz hC hF hD _ K hK
          obtain ⟨_, q70, rfl⟩ := dep hD 26 rfl rfl rfl rfl
          obtain ⟨_, q73, rfl⟩ := dep hD 29 rfl rfl rfl rfl
          obtain ⟨_, qg, rfl⟩ := dep hD 14 rfl rfl rfl rfl
          clear hF hD
          refine want_yes rfl rfl rfl qg ?_
          go_simp
          refine (HJ2.out _).mono ?_
          rintro e wy ⟨rfl, k⟩
          exact hK _ _ (Below.call hC k) k rfl
        refine RegSteps.cons ?_ ?_
        · intro _ az wz hC hF hD _ K hK
          obtain ⟨_, q66, rfl⟩ := dep hD 22 rfl rfl rfl rfl
          obtain ⟨_, q74, rfl⟩ := dep hD 30 rfl rfl rfl rfl
          obtain ⟨_, qg, rfl⟩ := dep hD 14 rfl rfl rfl rfl
          clear hF hD
          refine want_yes rfl rfl rfl qg ?_
          go_simp
          exact hK _ _ hC (Below.refl _ _) rfl
        refine RegSteps.cons ?_ ?_
        · intro _ az wz hC hF hD _ K hK
          obtain ⟨_, q58, rfl⟩ := dep hD 14 rfl rfl rfl rfl
          obtain ⟨_, q75, rfl⟩ := dep hD 31 rfl rfl rfl rfl
          clear hF hD
          refine want_none rfl ?_
          go_simp
          exact hK _ _ hC (Below.refl _ _) rfl
        exact RegSteps.nil
      intro w10 hC10
      rintro _ rfl _ rfl _ rfl _ rfl _ rfl _ ⟨y49, rfl, _⟩ _ rfl _ rfl _ rfl _ rfl _ rfl _ rfl _ rfl _ rfl _ rfl _ rfl _ rfl _ rfl _ rfl _ rfl _ rfl _ ⟨y65, rfl, _⟩ _ rfl _ rfl _ rfl _ rfl _ rfl _ rfl _ rfl _ rfl _ rfl _ rfl _ rfl
      simp only [FinOK, Act.put, List.setIfInBounds_toArray, List.set_cons_zero, List.set_cons_succ]
      have hb10 := Below.call hbk hC10
      clear HI1 HJ1 HI2 HJ2 rk hPr hYr hOr
      go_wp2_with fail
      obtain ⟨wo, rfl⟩ : ∃ wo : World, wo = wr := ⟨_, rfl⟩
      go_loopw [16] (fun i wr => ∃ m : Nat, m ≤ 4 ∧ i = .int .i64 m ∧ Below W.heap.size W wr) (fun i _ => 4 - (intOf i).toNat)
      case atStart => exact ⟨0, by omega, rfl, hb10⟩
      case round =>
        obtain ⟨m, hm, rfl, hbm⟩ := hrel
        by_cases hm4 : m < 4
        · have n0 := bx_bd ba bc ba m
          have n1 := bx_bd ba' bc' ba' m
          have n2 := bx_bd bb bd bd m
          have n3 := bx_bd bb' bd' bd' m
          obtain ⟨C0, eC0⟩ : ∃ v, v = bx ax cx ax m := ⟨_, rfl⟩
          obtain ⟨C1, eC1⟩ : ∃ v, v = bx ay cy ay m := ⟨_, rfl⟩
          obtain ⟨C2, eC2⟩ : ∃ v, v = bx bx_ dx dx m := ⟨_, rfl⟩
          obtain ⟨C3, eC3⟩ : ∃ v, v = bx by_ dy dy m := ⟨_, rfl⟩
          have rV : ∀ wz, Below W.heap.size W wz → wz.cell? ⟨g, m * 4, none⟩ = some (.int .i64 C0) ∧ wz.cell? ⟨g, m * 4 + 1, none⟩ = some (.int .i64 C1) ∧ wz.cell? ⟨g, m * 4 + 2, none⟩ = some (.int .i64 C2) ∧ wz.cell? ⟨g, m * 4 + 3, none⟩ = some (.int .i64 C3) := fun wz hwz => by
            rw [eC0, eC1, eC2, eC3]
            exact bCells (hO.on hwz) hm4
          rw [← eC0] at n0
          rw [← eC1] at n1
          rw [← eC2] at n2
          rw [← eC3] at n3
          clear eC0 eC1 eC2 eC3
          have x0 : 0 ≤ max A0 C0 ∧ max A0 C0 ≤ 32 := by omega
          have x1 : 0 ≤ max A1 C1 ∧ max A1 C1 ≤ 32 := by omega
          obtain ⟨is_, eis⟩ : ∃ v, v = meets A0 A1 A2 A3 C0 C1 C2 C3 := ⟨_, rfl⟩
          have HM1 : Hid (∀ u, Calls Tryd.prog 25 #[.agg #[.int .i64 A0, .int .i64 A1, .int .i64 A2, .int .i64 A3], .agg #[.int .i64 C0, .int .i64 C1, .int .i64 C2, .int .i64 C3]] u (RetB u is_)) := Lib.hid fun u => eis ▸ PMeets_any A0 A1 A2 A3 C0 C1 C2 C3 u
          have HM2 : Hid (∀ u, Calls Tryd.prog 28 #[.agg #[.int .i64 A0, .int .i64 A1, .int .i64 A2, .int .i64 A3], .agg #[.int .i64 C0, .int .i64 C1, .int .i64 C2, .int .i64 C3]] u (RetB u is_)) := Lib.hid fun u => eis ▸ RMeets_any A0 A1 A2 A3 C0 C1 C2 C3 u
          have HM3 : Hid (∀ u, Calls Tryd.prog 25 #[.agg #[.int .i64 C0, .int .i64 C1, .int .i64 C2, .int .i64 C3], .agg #[.int .i64 A0, .int .i64 A1, .int .i64 A2, .int .i64 A3]] u (RetB u is_)) := Lib.hid fun u => by
            rw [eis, meets_comm]
            exact PMeets_any C0 C1 C2 C3 A0 A1 A2 A3 u
          have HOc : Hid (∀ u, Calls Tryd.prog 17 #[.agg #[.int .i64 (max A0 C0), .int .i64 (max A1 C1)]] u (RetP u (max A0 C0) 1 (max A1 C1) 1)) := Lib.hid fun u => POf_any _ _ u (by omega) (by omega) (by omega) (by omega)
          have HG1 : Hid (∀ u, Calls Tryd.prog 29 #[.agg #[.int .i64 A0, .int .i64 A1, .int .i64 A2, .int .i64 A3]] u (RetInt u (goodB A0 A1 A2 A3))) := Lib.hid fun u => PValidBox_any A0 A1 A2 A3 u
          have HG2 : Hid (∀ u, Calls Tryd.prog 29 #[.agg #[.int .i64 C0, .int .i64 C1, .int .i64 C2, .int .i64 C3]] u (RetInt u (goodB C0 C1 C2 C3))) := Lib.hid fun u => PValidBox_any C0 C1 C2 C3 u
          obtain ⟨v1, ev1⟩ : ∃ v, v = inB A0 A1 A2 A3 (max A0 C0) 1 (max A1 C1) 1 := ⟨_, rfl⟩
          obtain ⟨v2, ev2⟩ : ∃ v, v = inB C0 C1 C2 C3 (max A0 C0) 1 (max A1 C1) 1 := ⟨_, rfl⟩
          have HV1 : Hid (∀ (s : PV) u, s.is u (max A0 C0) 1 (max A1 C1) 1 → Calls Tryd.prog 24 #[.agg #[.int .i64 A0, .int .i64 A1, .int .i64 A2, .int .i64 A3], .agg #[.bool s.x.p.neg, .slice s.x.p.A s.x.p.n s.x.p.c, .bool s.x.l.neg, .slice s.x.l.A s.x.l.n s.x.l.c, .bool s.y.p.neg, .slice s.y.p.A s.y.p.n s.y.p.c, .bool s.y.l.neg, .slice s.y.l.A s.y.l.n s.y.l.c]] u (RetB u v1)) := Lib.hid fun s u hs => ev1 ▸ PIn_any hs (Lib.hid (in64_small q0)) (Lib.hid (in64_small q1)) (Lib.hid (in64_small q2)) (Lib.hid (in64_small q3))
          have HV2 : Hid (∀ (s : PV) u, s.is u (max A0 C0) 1 (max A1 C1) 1 → Calls Tryd.prog 24 #[.agg #[.int .i64 C0, .int .i64 C1, .int .i64 C2, .int .i64 C3], .agg #[.bool s.x.p.neg, .slice s.x.p.A s.x.p.n s.x.p.c, .bool s.x.l.neg, .slice s.x.l.A s.x.l.n s.x.l.c, .bool s.y.p.neg, .slice s.y.p.A s.y.p.n s.y.p.c, .bool s.y.l.neg, .slice s.y.l.A s.y.l.n s.y.l.c]] u (RetB u v2)) := Lib.hid fun s u hs => ev2 ▸ PIn_any hs (Lib.hid (in64_small n0)) (Lib.hid (in64_small n1)) (Lib.hid (in64_small n2)) (Lib.hid (in64_small n3))
          have hcorner : goodB A0 A1 A2 A3 = 0 → goodB C0 C1 C2 C3 = 0 → is_ = (v1 && v2) := fun h1 h2 => by
            rw [eis, ev1, ev2]
            exact meets_corner h1 h2
          clear eis ev1 ev2
          have HCr := Lib.hid hcorner
          clear hcorner
          have rk : ∀ wz, Below wr.heap.size wr wz → _ := fun wz hwz => rW wz (Below.call hbm hwz)
          have rm : ∀ wz, Below wr.heap.size wr wz → _ := fun wz hwz => rV wz (Below.call hbm hwz)
          have m0' : (0 : Int) ≤ (m : Int) := by omega
          have m4' : (m : Int) < 4 := by omega
          go_wp2_with fail
          refine wp_region_specs wr [Spec.eq (.slice (some ⟨g, 0, none⟩) 4 4), Spec.eq (.int .i64 (k : Int)), Spec.eq (.pointer (some ⟨g, k * 4, none⟩)), Spec.eq (.agg #[.int .i64 A0, .int .i64 A1, .int .i64 A2, .int .i64 A3]), Spec.eq (.slice (some ⟨g, 0, none⟩) 4 4), Spec.eq (.int .i64 (m : Int)), Spec.eq (.pointer (some ⟨g, m * 4, none⟩)), Spec.eq (.agg #[.int .i64 C0, .int .i64 C1, .int .i64 C2, .int .i64 C3]), Spec.eq (.bool is_), Spec.eq (.bool is_)]
              (by kernel_rfl) (by kernel_rfl) rfl (by kernel_rfl) (Below.drew (Below.refl _ _)) ?_ ?_
          ·
            refine RegSteps.cons ?_ ?_
            · intro _ az wz hC hF hD _ K hK
              have q14 : az.tmps[14]? = some (.slice (some ⟨g, 0, none⟩) 4 4) := hF 14 rfl
              clear hF hD
              refine want_none rfl ?_
              go_simp
              exact hK _ _ hC (Below.refl _ _) rfl
            refine RegSteps.cons ?_ ?_
            · intro _ az wz hC hF hD _ K hK
              have q15 : az.tmps[15]? = some (.int .i64 (k : Int)) := hF 15 rfl
              clear hF hD
              refine want_none rfl ?_
              go_simp
              exact hK _ _ hC (Below.refl _ _) rfl
            refine RegSteps.cons ?_ ?_
            · intro _ az wz hC hF hD _ K hK
              obtain ⟨_, q81, rfl⟩ := dep hD 0 rfl rfl rfl rfl
              obtain ⟨_, q82, rfl⟩ := dep hD 1 rfl rfl rfl rfl
              clear hF hD
              refine want_none rfl ?_
              go_simp
              exact hK _ _ hC (Below.refl _ _) rfl
            refine RegSteps.cons ?_ ?_
            · intro _ az wz hC hF hD _ K hK
              obtain ⟨_, q83, rfl⟩ := dep hD 2 rfl rfl rfl rfl
              obtain ⟨l0, l1, l2, l3⟩ := rk _ hC
              clear hF hD
              refine want_none rfl ?_
              go_simp
              exact hK _ _ hC (Below.refl _ _) rfl
            refine RegSteps.cons ?_ ?_
            · intro _ az wz hC hF hD _ K hK
              have q14 : az.tmps[14]? = some (.slice (some ⟨g, 0, none⟩) 4 4) := hF 14 rfl
              clear hF hD
              refine want_none rfl ?_
              go_simp
              exact hK _ _ hC (Below.refl _ _) rfl
            refine RegSteps.cons ?_ ?_
            · intro _ az wz hC hF hD _ K hK
              have q16 : az.tmps[16]? = some (.int .i64 (m : Int)) := hF 16 rfl
              clear hF hD
              refine want_none rfl ?_
              go_simp
              exact hK _ _ hC (Below.refl _ _) rfl
            refine RegSteps.cons ?_ ?_
            · intro _ az wz hC hF hD _ K hK
              obtain ⟨_, q85, rfl⟩ := dep hD 4 rfl rfl rfl rfl
              obtain ⟨_, q86, rfl⟩ := dep hD 5 rfl rfl rfl rfl
              clear hF hD
              refine want_none rfl ?_
              go_simp
              exact hK _ _ hC (Below.refl _ _) rfl
            refine RegSteps.cons ?_ ?_
            · intro _ az wz hC hF hD _ K hK
              obtain ⟨_, q87, rfl⟩ := dep hD 6 rfl rfl rfl rfl
              obtain ⟨l0, l1, l2, l3⟩ := rm _ hC
              clear hF hD
              refine want_none rfl ?_
              go_simp
              exact hK _ _ hC (Below.refl _ _) rfl
            refine RegSteps.cons ?_ ?_
            · intro _ az wz hC hF hD _ K hK
              obtain ⟨_, q84, rfl⟩ := dep hD 3 rfl rfl rfl rfl
              obtain ⟨_, q88, rfl⟩ := dep hD 7 rfl rfl rfl rfl
              clear hF hD
              refine want_none rfl ?_
              go_simp
              refine (HM1.out _).mono ?_
              rintro e wy ⟨rfl, k⟩
              exact hK _ _ (Below.call hC k) k rfl
            refine RegSteps.cons ?_ ?_
            · intro _ az wz hC hF hD _ K hK
              obtain ⟨_, q89, rfl⟩ := dep hD 8 rfl rfl rfl rfl
              clear hF hD
              refine want_none rfl ?_
              go_simp
              exact hK _ _ hC (Below.refl _ _) rfl
            exact RegSteps.nil
          intro w11 hC11
          rintro _ rfl _ rfl _ rfl _ rfl _ rfl _ rfl _ rfl _ rfl _ rfl _ rfl
          simp only [FinOK, Act.put, List.setIfInBounds_toArray, List.set_cons_zero, List.set_cons_succ]
          have hb11 := Below.call hbm hC11
          have rk : ∀ wz, Below w11.heap.size w11 wz → _ := fun wz hwz => rW wz (Below.call hb11 hwz)
          have rm : ∀ wz, Below w11.heap.size w11 wz → _ := fun wz hwz => rV wz (Below.call hb11 hwz)
          go_wp2_with fail
          refine wp_region_specs w11 [Spec.eq (.bool is_), Spec.eq (.slice (some ⟨g, 0, none⟩) 4 4), Spec.eq (.int .i64 (k : Int)), Spec.eq (.pointer (some ⟨g, k * 4, none⟩)), Spec.eq (.agg #[.int .i64 A0, .int .i64 A1, .int .i64 A2, .int .i64 A3]), Spec.eq (.slice (some ⟨g, 0, none⟩) 4 4), Spec.eq (.int .i64 (m : Int)), Spec.eq (.pointer (some ⟨g, m * 4, none⟩)), Spec.eq (.agg #[.int .i64 C0, .int .i64 C1, .int .i64 C2, .int .i64 C3]), Spec.eq (.bool is_), Spec.eq (.bool false), Spec.eq (.bool false), Spec.eq (.bool is_), Spec.eq (.slice (some ⟨g, 0, none⟩) 4 4), Spec.eq (.int .i64 (m : Int)), Spec.eq (.pointer (some ⟨g, m * 4, none⟩)), Spec.eq (.agg #[.int .i64 C0, .int .i64 C1, .int .i64 C2, .int .i64 C3]), Spec.eq (.slice (some ⟨g, 0, none⟩) 4 4), Spec.eq (.int .i64 (k : Int)), Spec.eq (.pointer (some ⟨g, k * 4, none⟩)), Spec.eq (.agg #[.int .i64 A0, .int .i64 A1, .int .i64 A2, .int .i64 A3]), Spec.eq (.bool is_), Spec.eq (.bool false), Spec.eq (.bool false)]
              (by kernel_rfl) (by kernel_rfl) rfl (by kernel_rfl) (Below.drew (Below.refl _ _)) ?_ ?_
          ·
            refine RegSteps.cons ?_ ?_
            · intro _ az wz hC hF hD _ K hK
              have q17 : az.tmps[17]? = some (.bool is_) := hF 17 rfl
              clear hF hD
              refine want_none rfl ?_
              go_simp
              exact hK _ _ hC (Below.refl _ _) rfl
            refine RegSteps.cons ?_ ?_
            · intro _ az wz hC hF hD _ K hK
              have q14 : az.tmps[14]? = some (.slice (some ⟨g, 0, none⟩) 4 4) := hF 14 rfl
              clear hF hD
              refine want_none rfl ?_
              go_simp
              exact hK _ _ hC (Below.refl _ _) rfl
            refine RegSteps.cons ?_ ?_
            · intro _ az wz hC hF hD _ K hK
              have q15 : az.tmps[15]? = some (.int .i64 (k : Int)) := hF 15 rfl
              clear hF hD
              refine want_none rfl ?_
              go_simp
              exact hK _ _ hC (Below.refl _ _) rfl
            refine RegSteps.cons ?_ ?_
            · intro _ az wz hC hF hD _ K hK
              obtain ⟨_, q91, rfl⟩ := dep hD 1 rfl rfl rfl rfl
              obtain ⟨_, q92, rfl⟩ := dep hD 2 rfl rfl rfl rfl
              clear hF hD
              refine want_none rfl ?_
              go_simp
              exact hK _ _ hC (Below.refl _ _) rfl
            refine RegSteps.cons ?_ ?_
            · intro _ az wz hC hF hD _ K hK
              obtain ⟨_, q93, rfl⟩ := dep hD 3 rfl rfl rfl rfl
              obtain ⟨l0, l1, l2, l3⟩ := rk _ hC
              clear hF hD
              refine want_none rfl ?_
              go_simp
              exact hK _ _ hC (Below.refl _ _) rfl
            refine RegSteps.cons ?_ ?_
            · intro _ az wz hC hF hD _ K hK
              have q14 : az.tmps[14]? = some (.slice (some ⟨g, 0, none⟩) 4 4) := hF 14 rfl
              clear hF hD
              refine want_none rfl ?_
              go_simp
              exact hK _ _ hC (Below.refl _ _) rfl
            refine RegSteps.cons ?_ ?_
            · intro _ az wz hC hF hD _ K hK
              have q16 : az.tmps[16]? = some (.int .i64 (m : Int)) := hF 16 rfl
              clear hF hD
              refine want_none rfl ?_
              go_simp
              exact hK _ _ hC (Below.refl _ _) rfl
            refine RegSteps.cons ?_ ?_
            · intro _ az wz hC hF hD _ K hK
              obtain ⟨_, q95, rfl⟩ := dep hD 5 rfl rfl rfl rfl
              obtain ⟨_, q96, rfl⟩ := dep hD 6 rfl rfl rfl rfl
              clear hF hD
              refine want_none rfl ?_
              go_simp
              exact hK _ _ hC (Below.refl _ _) rfl
            refine RegSteps.cons ?_ ?_
            · intro _ az wz hC hF hD _ K hK
              obtain ⟨_, q97, rfl⟩ := dep hD 7 rfl rfl rfl rfl
              obtain ⟨l0, l1, l2, l3⟩ := rm _ hC
              clear hF hD
              refine want_none rfl ?_
              go_simp
              exact hK _ _ hC (Below.refl _ _) rfl
            refine RegSteps.cons ?_ ?_
            · intro _ az wz hC hF hD _ K hK
              obtain ⟨_, q94, rfl⟩ := dep hD 4 rfl rfl rfl rfl
              obtain ⟨_, q98, rfl⟩ := dep hD 8 rfl rfl rfl rfl
              clear hF hD
              refine want_none rfl ?_
              go_simp
              refine (HM2.out _).mono ?_
              rintro e wy ⟨rfl, k⟩
              exact hK _ _ (Below.call hC k) k rfl
            refine RegSteps.cons ?_ ?_
            · intro _ az wz hC hF hD _ K hK
              obtain ⟨_, q90, rfl⟩ := dep hD 0 rfl rfl rfl rfl
              obtain ⟨_, q99, rfl⟩ := dep hD 9 rfl rfl rfl rfl
              clear hF hD
              refine want_none rfl ?_
              go_simp
              exact hK _ _ hC (Below.refl _ _) rfl
            refine RegSteps.cons ?_ ?_
            · intro _ az wz hC hF hD _ K hK
              obtain ⟨_, q100, rfl⟩ := dep hD 10 rfl rfl rfl rfl
              clear hF hD
              refine want_none rfl ?_
              go_simp
              exact hK _ _ hC (Below.refl _ _) rfl
            refine RegSteps.cons ?_ ?_
            · intro _ az wz hC hF hD _ K hK
              have q17 : az.tmps[17]? = some (.bool is_) := hF 17 rfl
              obtain ⟨_, qg, rfl⟩ := dep hD 11 rfl rfl rfl rfl
              clear hF hD
              refine want_yes rfl rfl rfl qg ?_
              go_simp
              exact hK _ _ hC (Below.refl _ _) rfl
            refine RegSteps.cons ?_ ?_
            · intro _ az wz hC hF hD _ K hK
              have q14 : az.tmps[14]? = some (.slice (some ⟨g, 0, none⟩) 4 4) := hF 14 rfl
              obtain ⟨_, qg, rfl⟩ := dep hD 11 rfl rfl rfl rfl
              clear hF hD
              refine want_yes rfl rfl rfl qg ?_
              go_simp
              exact hK _ _ hC (Below.refl _ _) rfl
            refine RegSteps.cons ?_ ?_
            · intro _ az wz hC hF hD _ K hK
              have q16 : az.tmps[16]? = some (.int .i64 (m : Int)) := hF 16 rfl
              obtain ⟨_, qg, rfl⟩ := dep hD 11 rfl rfl rfl rfl
              clear hF hD
              refine want_yes rfl rfl rfl qg ?_
              go_simp
              exact hK _ _ hC (Below.refl _ _) rfl
            refine RegSteps.cons ?_ ?_
            · intro _ az wz hC hF hD _ K hK
              obtain ⟨_, q103, rfl⟩ := dep hD 13 rfl rfl rfl rfl
              obtain ⟨_, q104, rfl⟩ := dep hD 14 rfl rfl rfl rfl
              obtain ⟨_, qg, rfl⟩ := dep hD 11 rfl rfl rfl rfl
              clear hF hD
              refine want_yes rfl rfl rfl qg ?_
              go_simp
              exact hK _ _ hC (Below.refl _ _) rfl
            refine RegSteps.cons ?_ ?_
            · intro _ az wz hC hF hD _ K hK
              obtain ⟨_, q105, rfl⟩ := dep hD 15 rfl rfl rfl rfl
              obtain ⟨_, qg, rfl⟩ := dep hD 11 rfl rfl rfl rfl
              obtain ⟨l0, l1, l2, l3⟩ := rm _ hC
              clear hF hD
              refine want_yes rfl rfl rfl qg ?_
              go_simp
              exact hK _ _ hC (Below.refl _ _) rfl
            refine RegSteps.cons ?_ ?_
            · intro _ az wz hC hF hD _ K hK
              have q14 : az.tmps[14]? = some (.slice (some ⟨g, 0, none⟩) 4 4) := hF 14 rfl
              obtain ⟨_, qg, rfl⟩ := dep hD 11 rfl rfl rfl rfl
              clear hF hD
              refine want_yes rfl rfl rfl qg ?_
              go_simp
              exact hK _ _ hC (Below.refl _ _) rfl
            refine RegSteps.cons ?_ ?_
            · intro _ az wz hC hF hD _ K hK
              have q15 : az.tmps[15]? = some (.int .i64 (k : Int)) := hF 15 rfl
              obtain ⟨_, qg, rfl⟩ := dep hD 11 rfl rfl rfl rfl
              clear hF hD
              refine want_yes rfl rfl rfl qg ?_
              go_simp
              exact hK _ _ hC (Below.refl _ _) rfl
            refine RegSteps.cons ?_ ?_
            · intro _ az wz hC hF hD _ K hK
              obtain ⟨_, q107, rfl⟩ := dep hD 17 rfl rfl rfl rfl
              obtain ⟨_, q108, rfl⟩ := dep hD 18 rfl rfl rfl rfl
              obtain ⟨_, qg, rfl⟩ := dep hD 11 rfl rfl rfl rfl
              clear hF hD
              refine want_yes rfl rfl rfl qg ?_
              go_simp
              exact hK _ _ hC (Below.refl _ _) rfl
            refine RegSteps.cons ?_ ?_
            · intro _ az wz hC hF hD _ K hK
              obtain ⟨_, q109, rfl⟩ := dep hD 19 rfl rfl rfl rfl
              obtain ⟨_, qg, rfl⟩ := dep hD 11 rfl rfl rfl rfl
              obtain ⟨l0, l1, l2, l3⟩ := rk _ hC
              clear hF hD
              refine want_yes rfl rfl rfl qg ?_
              go_simp
              exact hK _ _ hC (Below.refl _ _) rfl
            refine RegSteps.cons ?_ ?_
            · intro _ az wz hC hF hD _ K hK
              obtain ⟨_, q106, rfl⟩ := dep hD 16 rfl rfl rfl rfl
              obtain ⟨_, q110, rfl⟩ := dep hD 20 rfl rfl rfl rfl
              obtain ⟨_, qg, rfl⟩ := dep hD 11 rfl rfl rfl rfl
              clear hF hD
              refine want_yes rfl rfl rfl qg ?_
              go_simp
              refine (HM3.out _).mono ?_
              rintro e wy ⟨rfl, k⟩
              exact hK _ _ (Below.call hC k) k rfl
            refine RegSteps.cons ?_ ?_
            · intro _ az wz hC hF hD _ K hK
              obtain ⟨_, q102, rfl⟩ := dep hD 12 rfl rfl rfl rfl
              obtain ⟨_, q111, rfl⟩ := dep hD 21 rfl rfl rfl rfl
              obtain ⟨_, qg, rfl⟩ := dep hD 11 rfl rfl rfl rfl
              clear hF hD
              refine want_yes rfl rfl rfl qg ?_
              go_simp
              exact hK _ _ hC (Below.refl _ _) rfl
            refine RegSteps.cons ?_ ?_
            · intro _ az wz hC hF hD _ K hK
              obtain ⟨_, q101, rfl⟩ := dep hD 11 rfl rfl rfl rfl
              obtain ⟨_, q112, rfl⟩ := dep hD 22 rfl rfl rfl rfl
              clear hF hD
              refine want_none rfl ?_
              go_simp
              exact hK _ _ hC (Below.refl _ _) rfl
            exact RegSteps.nil
          intro w12 hC12
          rintro _ rfl _ rfl _ rfl _ rfl _ rfl _ rfl _ rfl _ rfl _ rfl _ rfl _ rfl _ rfl _ rfl _ rfl _ rfl _ rfl _ rfl _ rfl _ rfl _ rfl _ rfl _ rfl _ rfl _ rfl
          simp only [FinOK, Act.put, List.setIfInBounds_toArray, List.set_cons_zero, List.set_cons_succ]
          have hb12 := Below.call hb11 hC12
          have rk : ∀ wz, Below w12.heap.size w12 wz → _ := fun wz hwz => rW wz (Below.call hb12 hwz)
          have rm : ∀ wz, Below w12.heap.size w12 wz → _ := fun wz hwz => rV wz (Below.call hb12 hwz)
          go_wp2_with fail
          refine wp_region_boxes w12 [Spec.eq (.slice (some ⟨g, 0, none⟩) 4 4), Spec.eq (.int .i64 (k : Int)), Spec.eq (.pointer (some ⟨g, k * 4, none⟩)), Spec.eq (.pointer (some ⟨g, k * 4, none⟩)), Spec.eq (.pointer (some ⟨g, k * 4, none⟩)), Spec.eq (.int .i64 A0), Spec.eq (.slice (some ⟨g, 0, none⟩) 4 4), Spec.eq (.int .i64 (m : Int)), Spec.eq (.pointer (some ⟨g, m * 4, none⟩)), Spec.eq (.pointer (some ⟨g, m * 4, none⟩)), Spec.eq (.pointer (some ⟨g, m * 4, none⟩)), Spec.eq (.int .i64 C0), Spec.eq (.int .i64 (max A0 C0)), Spec.eq (.slice (some ⟨g, 0, none⟩) 4 4), Spec.eq (.int .i64 (k : Int)), Spec.eq (.pointer (some ⟨g, k * 4, none⟩)), Spec.eq (.pointer (some ⟨g, k * 4, none⟩)), Spec.eq (.pointer (some ⟨g, k * 4 + 1, none⟩)), Spec.eq (.int .i64 A1), Spec.eq (.slice (some ⟨g, 0, none⟩) 4 4), Spec.eq (.int .i64 (m : Int)), Spec.eq (.pointer (some ⟨g, m * 4, none⟩)), Spec.eq (.pointer (some ⟨g, m * 4, none⟩)), Spec.eq (.pointer (some ⟨g, m * 4 + 1, none⟩)), Spec.eq (.int .i64 C1), Spec.eq (.int .i64 (max A1 C1)), Spec.eq (.agg #[.int .i64 (max A0 C0), .int .i64 (max A1 C1)]), sP (max A0 C0) 1 (max A1 C1) 1, Spec.any, Spec.any]
              [{ A := 28, j := 29, t := 18, T := 31, zs := [.bool false, .slice none 0 0, .bool false, .slice none 0 0, .bool false, .slice none 0 0, .bool false, .slice none 0 0], X := fun us w => ∃ x : PV, us = [.bool x.x.p.neg, .slice x.x.p.A x.x.p.n x.x.p.c, .bool x.x.l.neg, .slice x.x.l.A x.x.l.n x.x.l.c, .bool x.y.p.neg, .slice x.y.p.A x.y.p.n x.y.p.c, .bool x.y.l.neg, .slice x.y.l.A x.y.l.n x.y.l.c] ∧ x.is w (max A0 C0) 1 (max A1 C1) 1, up := fun ⟨x, e, hx⟩ k => ⟨x, e, hx.keeps k⟩ }]
              (by kernel_rfl) (by kernel_rfl) rfl (by kernel_rfl) rfl (Below.drew (Below.refl _ _)) ?_ ?_ ⟨rfl, rfl, trivial⟩ ?_
          ·
            refine RegSteps.cons ?_ ?_
            · intro _ az wz hC hF hD _ K hK
              have q14 : az.tmps[14]? = some (.slice (some ⟨g, 0, none⟩) 4 4) := hF 14 rfl
              clear hF hD
              refine want_none rfl ?_
              go_simp
              exact hK _ _ hC (Below.refl _ _) rfl
            refine RegSteps.cons ?_ ?_
            · intro _ az wz hC hF hD _ K hK
              have q15 : az.tmps[15]? = some (.int .i64 (k : Int)) := hF 15 rfl
              clear hF hD
              refine want_none rfl ?_
              go_simp
              exact hK _ _ hC (Below.refl _ _) rfl
            refine RegSteps.cons ?_ ?_
            · intro _ az wz hC hF hD _ K hK
              obtain ⟨_, q114, rfl⟩ := dep hD 0 rfl rfl rfl rfl
              obtain ⟨_, q115, rfl⟩ := dep hD 1 rfl rfl rfl rfl
              clear hF hD
              refine want_none rfl ?_
              go_simp
              exact hK _ _ hC (Below.refl _ _) rfl
            refine RegSteps.cons ?_ ?_
            · intro _ az wz hC hF hD _ K hK
              obtain ⟨_, q116, rfl⟩ := dep hD 2 rfl rfl rfl rfl
              clear hF hD
              refine want_none rfl ?_
              go_simp
              exact hK _ _ hC (Below.refl _ _) rfl
            refine RegSteps.cons ?_ ?_
            · intro _ az wz hC hF hD _ K hK
              obtain ⟨_, q117, rfl⟩ := dep hD 3 rfl rfl rfl rfl
              clear hF hD
              refine want_none rfl ?_
              go_simp
              exact hK _ _ hC (Below.refl _ _) rfl
            refine RegSteps.cons ?_ ?_
            · intro _ az wz hC hF hD _ K hK
              obtain ⟨_, q118, rfl⟩ := dep hD 4 rfl rfl rfl rfl
              obtain ⟨l0, l1, l2, l3⟩ := rk _ hC
              clear hF hD
              refine want_none rfl ?_
              go_simp
              exact hK _ _ hC (Below.refl _ _) rfl
            refine RegSteps.cons ?_ ?_
            · intro _ az wz hC hF hD _ K hK
              have q14 : az.tmps[14]? = some (.slice (some ⟨g, 0, none⟩) 4 4) := hF 14 rfl
              clear hF hD
              refine want_none rfl ?_
              go_simp
              exact hK _ _ hC (Below.refl _ _) rfl
            refine RegSteps.cons ?_ ?_
            · intro _ az wz hC hF hD _ K hK
              have q16 : az.tmps[16]? = some (.int .i64 (m : Int)) := hF 16 rfl
              clear hF hD
              refine want_none rfl ?_
              go_simp
              exact hK _ _ hC (Below.refl _ _) rfl
            refine RegSteps.cons ?_ ?_
            · intro _ az wz hC hF hD _ K hK
              obtain ⟨_, q120, rfl⟩ := dep hD 6 rfl rfl rfl rfl
              obtain ⟨_, q121, rfl⟩ := dep hD 7 rfl rfl rfl rfl
              clear hF hD
              refine want_none rfl ?_
              go_simp
              exact hK _ _ hC (Below.refl _ _) rfl
            refine RegSteps.cons ?_ ?_
            · intro _ az wz hC hF hD _ K hK
              obtain ⟨_, q122, rfl⟩ := dep hD 8 rfl rfl rfl rfl
              clear hF hD
              refine want_none rfl ?_
              go_simp
              exact hK _ _ hC (Below.refl _ _) rfl
            refine RegSteps.cons ?_ ?_
            · intro _ az wz hC hF hD _ K hK
              obtain ⟨_, q123, rfl⟩ := dep hD 9 rfl rfl rfl rfl
              clear hF hD
              refine want_none rfl ?_
              go_simp
              exact hK _ _ hC (Below.refl _ _) rfl
            refine RegSteps.cons ?_ ?_
            · intro _ az wz hC hF hD _ K hK
              obtain ⟨_, q124, rfl⟩ := dep hD 10 rfl rfl rfl rfl
              obtain ⟨l0, l1, l2, l3⟩ := rm _ hC
              clear hF hD
              refine want_none rfl ?_
              go_simp
              exact hK _ _ hC (Below.refl _ _) rfl
            refine RegSteps.cons ?_ ?_
            · intro _ az wz hC hF hD _ K hK
              obtain ⟨_, q119, rfl⟩ := dep hD 5 rfl rfl rfl rfl
              obtain ⟨_, q125, rfl⟩ := dep hD 11 rfl rfl rfl rfl
              clear hF hD
              refine want_none rfl ?_
              go_simp
              exact hK _ _ hC (Below.refl _ _) rfl
            refine RegSteps.cons ?_ ?_
            · intro _ az wz hC hF hD _ K hK
              have q14 : az.tmps[14]? = some (.slice (some ⟨g, 0, none⟩) 4 4) := hF 14 rfl
              clear hF hD
              refine want_none rfl ?_
              go_simp
              exact hK _ _ hC (Below.refl _ _) rfl
            refine RegSteps.cons ?_ ?_
            · intro _ az wz hC hF hD _ K hK
              have q15 : az.tmps[15]? = some (.int .i64 (k : Int)) := hF 15 rfl
              clear hF hD
              refine want_none rfl ?_
              go_simp
              exact hK _ _ hC (Below.refl _ _) rfl
            refine RegSteps.cons ?_ ?_
            · intro _ az wz hC hF hD _ K hK
              obtain ⟨_, q127, rfl⟩ := dep hD 13 rfl rfl rfl rfl
              obtain ⟨_, q128, rfl⟩ := dep hD 14 rfl rfl rfl rfl
              clear hF hD
              refine want_none rfl ?_
              go_simp
              exact hK _ _ hC (Below.refl _ _) rfl
            refine RegSteps.cons ?_ ?_
            · intro _ az wz hC hF hD _ K hK
              obtain ⟨_, q129, rfl⟩ := dep hD 15 rfl rfl rfl rfl
              clear hF hD
              refine want_none rfl ?_
              go_simp
              exact hK _ _ hC (Below.refl _ _) rfl
            refine RegSteps.cons ?_ ?_
            · intro _ az wz hC hF hD _ K hK
              obtain ⟨_, q130, rfl⟩ := dep hD 16 rfl rfl rfl rfl
              clear hF hD
              refine want_none rfl ?_
              go_simp
              exact hK _ _ hC (Below.refl _ _) rfl
            refine RegSteps.cons ?_ ?_
            · intro _ az wz hC hF hD _ K hK
              obtain ⟨_, q131, rfl⟩ := dep hD 17 rfl rfl rfl rfl
              obtain ⟨l0, l1, l2, l3⟩ := rk _ hC
              clear hF hD
              refine want_none rfl ?_
              go_simp
              exact hK _ _ hC (Below.refl _ _) rfl
            refine RegSteps.cons ?_ ?_
            · intro _ az wz hC hF hD _ K hK
              have q14 : az.tmps[14]? = some (.slice (some ⟨g, 0, none⟩) 4 4) := hF 14 rfl
              clear hF hD
              refine want_none rfl ?_
              go_simp
              exact hK _ _ hC (Below.refl _ _) rfl
            refine RegSteps.cons ?_ ?_
            · intro _ az wz hC hF hD _ K hK
              have q16 : az.tmps[16]? = some (.int .i64 (m : Int)) := hF 16 rfl
              clear hF hD
              refine want_none rfl ?_
              go_simp
              exact hK _ _ hC (Below.refl _ _) rfl
            refine RegSteps.cons ?_ ?_
            · intro _ az wz hC hF hD _ K hK
              obtain ⟨_, q133, rfl⟩ := dep hD 19 rfl rfl rfl rfl
              obtain ⟨_, q134, rfl⟩ := dep hD 20 rfl rfl rfl rfl
              clear hF hD
              refine want_none rfl ?_
              go_simp
              exact hK _ _ hC (Below.refl _ _) rfl
            refine RegSteps.cons ?_ ?_
            · intro _ az wz hC hF hD _ K hK
              obtain ⟨_, q135, rfl⟩ := dep hD 21 rfl rfl rfl rfl
              clear hF hD
              refine want_none rfl ?_
              go_simp
              exact hK _ _ hC (Below.refl _ _) rfl
            refine RegSteps.cons ?_ ?_
            · intro _ az wz hC hF hD _ K hK
              obtain ⟨_, q136, rfl⟩ := dep hD 22 rfl rfl rfl rfl
              clear hF hD
              refine want_none rfl ?_
              go_simp
              exact hK _ _ hC (Below.refl _ _) rfl
            refine RegSteps.cons ?_ ?_
            · intro _ az wz hC hF hD _ K hK
              obtain ⟨_, q137, rfl⟩ := dep hD 23 rfl rfl rfl rfl
              obtain ⟨l0, l1, l2, l3⟩ := rm _ hC
              clear hF hD
              refine want_none rfl ?_
              go_simp
              exact hK _ _ hC (Below.refl _ _) rfl
            refine RegSteps.cons ?_ ?_
            · intro _ az wz hC hF hD _ K hK
              obtain ⟨_, q132, rfl⟩ := dep hD 18 rfl rfl rfl rfl
              obtain ⟨_, q138, rfl⟩ := dep hD 24 rfl rfl rfl rfl
              clear hF hD
              refine want_none rfl ?_
              go_simp
              exact hK _ _ hC (Below.refl _ _) rfl
            refine RegSteps.cons ?_ ?_
            · intro _ az wz hC hF hD _ K hK
              obtain ⟨_, q126, rfl⟩ := dep hD 12 rfl rfl rfl rfl
              obtain ⟨_, q139, rfl⟩ := dep hD 25 rfl rfl rfl rfl
              clear hF hD
              refine want_none rfl ?_
              go_simp
              exact hK _ _ hC (Below.refl _ _) rfl
            refine RegSteps.cons ?_ ?_
            · intro _ az wz hC hF hD _ K hK
              obtain ⟨_, q140, rfl⟩ := dep hD 26 rfl rfl rfl rfl
              clear hF hD
              refine want_none rfl ?_
              go_simp
              refine (HOc.out _).mono ?_
              rintro e wy ⟨x, rfl, k, hx⟩
              exact hK _ _ (Below.call hC k) k ⟨x, rfl, hx⟩
            refine RegSteps.cons ?_ ?_
            · exact fun h => by cases h
            refine RegSteps.cons ?_ ?_
            · exact fun h => by cases h
            exact RegSteps.nil
          · refine ⟨?_, trivial⟩
            · refine ⟨⟨_, rfl, rfl, rfl, fun az wz K hK => by go_simp; exact hK⟩, ⟨_, rfl, rfl, rfl, ?_⟩, by simp [Word], by simp⟩
              intro az wz gz cs hC hF hD hA K hK
              obtain ⟨p1, p2, p3, p4, p5⟩ := hA
              obtain ⟨_, q141, x, rfl, hx⟩ := dep hD 27 rfl rfl rfl rfl
              obtain ⟨c0, c1, c2, c3, c4, c5, c6, c7, rfl⟩ := list_8 (l := cs) p4
              have z0 := p3.c0
              have z1 := p3.c1
              have z2 := p3.c2
              have z3 := p3.c3
              have z4 := p3.c4
              have z5 := p3.c5
              have z6 := p3.c6
              have z7 := p3.c7
              have f0 := p3.frozen 0
              have f1 := p3.frozen 1
              have f2 := p3.frozen 2
              have f3 := p3.frozen 3
              have f4 := p3.frozen 4
              have f5 := p3.frozen 5
              have f6 := p3.frozen 6
              have f7 := p3.frozen 7
              clear hF hD p3 p5
              refine want_none rfl ?_
              go_simp
              exact hK [.bool x.x.p.neg, .slice x.x.p.A x.x.p.n x.x.p.c, .bool x.x.l.neg, .slice x.x.l.A x.x.l.n x.x.l.c, .bool x.y.p.neg, .slice x.y.p.A x.y.p.n x.y.p.c, .bool x.y.l.neg, .slice x.y.l.A x.y.l.n x.y.l.c] rfl (by simp [Word]) ⟨x, rfl, hx⟩
          intro w13 gs hC13 hgl hbf
          obtain ⟨gq, rfl⟩ := list_1 hgl
          obtain ⟨⟨hg0, us0, hOb0, ⟨cq, rfl, hcq⟩⟩, _⟩ := hbf
          rintro _ rfl _ rfl _ rfl _ rfl _ rfl _ rfl _ rfl _ rfl _ rfl _ rfl _ rfl _ rfl _ rfl _ rfl _ rfl _ rfl _ rfl _ rfl _ rfl _ rfl _ rfl _ rfl _ rfl _ rfl _ rfl _ rfl _ rfl _ ⟨y141, rfl, _⟩ _ rfl _ _
          simp only [FinOK, Act.put, List.setIfInBounds_toArray, List.set_cons_zero, List.set_cons_succ]
          have hb13 := Below.call hb12 hC13
          have rk : ∀ wz, Below w13.heap.size w13 wz → _ := fun wz hwz => rW wz (Below.call hb13 hwz)
          have rm : ∀ wz, Below w13.heap.size w13 wz → _ := fun wz hwz => rV wz (Below.call hb13 hwz)
          have hQ := hOb0
          clear hOb0
          rcases goodB_cases A0 A1 A2 A3 with e1 | e1
          case' inr =>
            rw [e1] at HG1
            clear e1
            go_wp2_with fail
            refine wp_region_specs w13 [Spec.eq (.slice (some ⟨g, 0, none⟩) 4 4), Spec.eq (.int .i64 (k : Int)), Spec.eq (.pointer (some ⟨g, k * 4, none⟩)), Spec.eq (.agg #[.int .i64 A0, .int .i64 A1, .int .i64 A2, .int .i64 A3]), Spec.eq (.int .i64 5), Spec.eq (.bool false), Spec.eq (.bool false), Spec.eq undef, Spec.eq undef, Spec.eq undef, Spec.eq undef, Spec.eq undef, Spec.eq undef, Spec.eq (.bool false), Spec.eq (.bool false), Spec.eq undef, Spec.eq undef, Spec.eq undef, Spec.eq undef, Spec.eq undef, Spec.eq undef, Spec.eq undef, Spec.eq undef, Spec.eq undef, Spec.eq undef, Spec.eq undef, Spec.eq undef, Spec.eq undef, Spec.eq undef, Spec.eq undef, Spec.eq undef, Spec.eq (.bool false)]
                (by kernel_rfl) (by kernel_rfl) rfl (by kernel_rfl) (Below.drew (Below.refl _ _)) ?_ ?_
            ·
              refine RegSteps.cons ?_ ?_
              · intro _ az wz hC hF hD _ K hK
                have q14 : az.tmps[14]? = some (.slice (some ⟨g, 0, none⟩) 4 4) := hF 14 rfl
                clear hF hD
                refine want_none rfl ?_
                go_simp
                exact hK _ _ hC (Below.refl _ _) rfl
              refine RegSteps.cons ?_ ?_
              · intro _ az wz hC hF hD _ K hK
                have q15 : az.tmps[15]? = some (.int .i64 (k : Int)) := hF 15 rfl
                clear hF hD
                refine want_none rfl ?_
                go_simp
                exact hK _ _ hC (Below.refl _ _) rfl
              refine RegSteps.cons ?_ ?_
              · intro _ az wz hC hF hD _ K hK
                obtain ⟨_, q142, rfl⟩ := dep hD 0 rfl rfl rfl rfl
                obtain ⟨_, q143, rfl⟩ := dep hD 1 rfl rfl rfl rfl
                clear hF hD
                refine want_none rfl ?_
                go_simp
                exact hK _ _ hC (Below.refl _ _) rfl
              refine RegSteps.cons ?_ ?_
              · intro _ az wz hC hF hD _ K hK
                obtain ⟨_, q144, rfl⟩ := dep hD 2 rfl rfl rfl rfl
                obtain ⟨l0, l1, l2, l3⟩ := rk _ hC
                clear hF hD
                refine want_none rfl ?_
                go_simp
                exact hK _ _ hC (Below.refl _ _) rfl
              refine RegSteps.cons ?_ ?_
              · intro _ az wz hC hF hD _ K hK
                obtain ⟨_, q145, rfl⟩ := dep hD 3 rfl rfl rfl rfl
                clear hF hD
                refine want_none rfl ?_
                go_simp
                refine (HG1.out _).mono ?_
                rintro e wy ⟨rfl, k⟩
                exact hK _ _ (Below.call hC k) k rfl
              refine RegSteps.cons ?_ ?_
              · intro _ az wz hC hF hD _ K hK
                obtain ⟨_, q146, rfl⟩ := dep hD 4 rfl rfl rfl rfl
                clear hF hD
                refine want_none rfl ?_
                go_simp
                exact hK _ _ hC (Below.refl _ _) rfl
              refine RegSteps.cons ?_ ?_
              · intro _ az wz hC hF hD _ K hK
                obtain ⟨_, q147, rfl⟩ := dep hD 5 rfl rfl rfl rfl
                clear hF hD
                refine want_none rfl ?_
                go_simp
                exact hK _ _ hC (Below.refl _ _) rfl
              refine RegSteps.cons ?_ ?_
              · exact fun _ => step_no (c := false) rfl rfl rfl rfl rfl (fun _ _ h => h) rfl (fun _ => rfl)
              refine RegSteps.cons ?_ ?_
              · exact fun _ => step_no (c := false) rfl rfl rfl rfl rfl (fun _ _ h => h) rfl (fun _ => rfl)
              refine RegSteps.cons ?_ ?_
              · exact fun _ => step_no (c := false) rfl rfl rfl rfl rfl (fun _ _ h => h) rfl (fun _ => rfl)
              refine RegSteps.cons ?_ ?_
              · exact fun _ => step_no (c := false) rfl rfl rfl rfl rfl (fun _ _ h => h) rfl (fun _ => rfl)
              refine RegSteps.cons ?_ ?_
              · exact fun _ => step_no (c := false) rfl rfl rfl rfl rfl (fun _ _ h => h) rfl (fun _ => rfl)
              refine RegSteps.cons ?_ ?_
              · exact fun _ => step_no (c := false) rfl rfl rfl rfl rfl (fun _ _ h => h) rfl (fun _ => rfl)
              refine RegSteps.cons ?_ ?_
              · intro _ az wz hC hF hD _ K hK
                obtain ⟨_, q148, rfl⟩ := dep hD 6 rfl rfl rfl rfl
                obtain ⟨_, q154, rfl⟩ := dep hD 12 rfl rfl rfl rfl
                clear hF hD
                refine want_none rfl ?_
                go_simp
                exact hK _ _ hC (Below.refl _ _) rfl
              refine RegSteps.cons ?_ ?_
              · intro _ az wz hC hF hD _ K hK
                obtain ⟨_, q155, rfl⟩ := dep hD 13 rfl rfl rfl rfl
                clear hF hD
                refine want_none rfl ?_
                go_simp
                exact hK _ _ hC (Below.refl _ _) rfl
              refine RegSteps.cons ?_ ?_
              · exact fun _ => step_no (c := false) rfl rfl rfl rfl rfl (fun _ _ h => h) rfl (fun _ => rfl)
              refine RegSteps.cons ?_ ?_
              · exact fun _ => step_no (c := false) rfl rfl rfl rfl rfl (fun _ _ h => h) rfl (fun _ => rfl)
              refine RegSteps.cons ?_ ?_
              · exact fun _ => step_no (c := false) rfl rfl rfl rfl rfl (fun _ _ h => h) rfl (fun _ => rfl)
              refine RegSteps.cons ?_ ?_
              · exact fun _ => step_no (c := false) rfl rfl rfl rfl rfl (fun _ _ h => h) rfl (fun _ => rfl)
              refine RegSteps.cons ?_ ?_
              · exact fun _ => step_no (c := false) rfl rfl rfl rfl rfl (fun _ _ h => h) rfl (fun _ => rfl)
              refine RegSteps.cons ?_ ?_
              · exact fun _ => step_no (c := false) rfl rfl rfl rfl rfl (fun _ _ h => h) rfl (fun _ => rfl)
              refine RegSteps.cons ?_ ?_
              · exact fun _ => step_no (c := false) rfl rfl rfl rfl rfl (fun _ _ h => h) rfl (fun _ => rfl)
              refine RegSteps.cons ?_ ?_
              · exact fun _ => step_no (c := false) rfl rfl rfl rfl rfl (fun _ _ h => h) rfl (fun _ => rfl)
              refine RegSteps.cons ?_ ?_
              · exact fun _ => step_un rfl rfl rfl rfl rfl (fun _ _ h => h) (fun _ => rfl)
              refine RegSteps.cons ?_ ?_
              · exact fun _ => step_un rfl rfl rfl rfl rfl (fun _ _ h => h) (fun _ => rfl)
              refine RegSteps.cons ?_ ?_
              · exact fun _ => step_un rfl rfl rfl rfl rfl (fun _ _ h => h) (fun _ => rfl)
              refine RegSteps.cons ?_ ?_
              · exact fun _ => step_un rfl rfl rfl rfl rfl (fun _ _ h => h) (fun _ => rfl)
              refine RegSteps.cons ?_ ?_
              · exact fun _ => step_un rfl rfl rfl rfl rfl (fun _ _ h => h) (fun _ => rfl)
              refine RegSteps.cons ?_ ?_
              · exact fun _ => step_un rfl rfl rfl rfl rfl (fun _ _ h => h) (fun _ => rfl)
              refine RegSteps.cons ?_ ?_
              · exact fun _ => step_no (c := false) rfl rfl rfl rfl rfl (fun _ _ h => h) rfl (fun _ => rfl)
              refine RegSteps.cons ?_ ?_
              · exact fun _ => step_no (c := false) rfl rfl rfl rfl rfl (fun _ _ h => h) rfl (fun _ => rfl)
              refine RegSteps.cons ?_ ?_
              · intro _ az wz hC hF hD _ K hK
                obtain ⟨_, q156, rfl⟩ := dep hD 14 rfl rfl rfl rfl
                obtain ⟨_, q172, rfl⟩ := dep hD 30 rfl rfl rfl rfl
                clear hF hD
                refine want_none rfl ?_
                go_simp
                exact hK _ _ hC (Below.refl _ _) rfl
              exact RegSteps.nil
            intro w14 hC14
            rintro _ rfl _ rfl _ rfl _ rfl _ rfl _ rfl _ rfl _ rfl _ rfl _ rfl _ rfl _ rfl _ rfl _ rfl _ rfl _ rfl _ rfl _ rfl _ rfl _ rfl _ rfl _ rfl _ rfl _ rfl _ rfl _ rfl _ rfl _ rfl _ rfl _ rfl _ rfl _ rfl
            simp only [FinOK, Act.put, List.setIfInBounds_toArray, List.set_cons_zero, List.set_cons_succ]
          case' inl => rcases goodB_cases C0 C1 C2 C3 with e2 | e2
          case' inl.inl => cases v1
          case' inl.inl.false =>
            have hi := HCr.out e1 e2
            rw [Bool.false_and] at hi
            subst hi
            rw [e1] at HG1
            rw [e2] at HG2
            clear e1 e2
            go_wp2_with fail
            refine wp_region_specs w13 [Spec.eq (.slice (some ⟨g, 0, none⟩) 4 4), Spec.eq (.int .i64 (k : Int)), Spec.eq (.pointer (some ⟨g, k * 4, none⟩)), Spec.eq (.agg #[.int .i64 A0, .int .i64 A1, .int .i64 A2, .int .i64 A3]), Spec.eq (.int .i64 0), Spec.eq (.bool true), Spec.eq (.bool true), Spec.eq (.slice (some ⟨g, 0, none⟩) 4 4), Spec.eq (.int .i64 (m : Int)), Spec.eq (.pointer (some ⟨g, m * 4, none⟩)), Spec.eq (.agg #[.int .i64 C0, .int .i64 C1, .int .i64 C2, .int .i64 C3]), Spec.eq (.int .i64 0), Spec.eq (.bool true), Spec.eq (.bool true), Spec.eq (.bool true), Spec.eq (.bool false), Spec.eq (.slice (some ⟨g, 0, none⟩) 4 4), Spec.eq (.int .i64 (k : Int)), Spec.eq (.pointer (some ⟨g, k * 4, none⟩)), Spec.eq (.agg #[.int .i64 A0, .int .i64 A1, .int .i64 A2, .int .i64 A3]), Spec.eq (.agg #[.bool cq.x.p.neg, .slice cq.x.p.A cq.x.p.n cq.x.p.c, .bool cq.x.l.neg, .slice cq.x.l.A cq.x.l.n cq.x.l.c, .bool cq.y.p.neg, .slice cq.y.p.A cq.y.p.n cq.y.p.c, .bool cq.y.l.neg, .slice cq.y.l.A cq.y.l.n cq.y.l.c]), Spec.eq (.bool false), Spec.eq (.bool false), Spec.eq undef, Spec.eq undef, Spec.eq undef, Spec.eq undef, Spec.eq undef, Spec.eq undef, Spec.eq (.bool false), Spec.eq (.bool false), Spec.eq (.bool false)]
                (by kernel_rfl) (by kernel_rfl) rfl (by kernel_rfl) (Below.drew (Below.refl _ _)) ?_ ?_
            ·
              refine RegSteps.cons ?_ ?_
              · intro _ az wz hC hF hD _ K hK
                have q14 : az.tmps[14]? = some (.slice (some ⟨g, 0, none⟩) 4 4) := hF 14 rfl
                clear hF hD
                refine want_none rfl ?_
                go_simp
                exact hK _ _ hC (Below.refl _ _) rfl
              refine RegSteps.cons ?_ ?_
              · intro _ az wz hC hF hD _ K hK
                have q15 : az.tmps[15]? = some (.int .i64 (k : Int)) := hF 15 rfl
                clear hF hD
                refine want_none rfl ?_
                go_simp
                exact hK _ _ hC (Below.refl _ _) rfl
              refine RegSteps.cons ?_ ?_
              · intro _ az wz hC hF hD _ K hK
                obtain ⟨_, q142, rfl⟩ := dep hD 0 rfl rfl rfl rfl
                obtain ⟨_, q143, rfl⟩ := dep hD 1 rfl rfl rfl rfl
                clear hF hD
                refine want_none rfl ?_
                go_simp
                exact hK _ _ hC (Below.refl _ _) rfl
              refine RegSteps.cons ?_ ?_
              · intro _ az wz hC hF hD _ K hK
                obtain ⟨_, q144, rfl⟩ := dep hD 2 rfl rfl rfl rfl
                obtain ⟨l0, l1, l2, l3⟩ := rk _ hC
                clear hF hD
                refine want_none rfl ?_
                go_simp
                exact hK _ _ hC (Below.refl _ _) rfl
              refine RegSteps.cons ?_ ?_
              · intro _ az wz hC hF hD _ K hK
                obtain ⟨_, q145, rfl⟩ := dep hD 3 rfl rfl rfl rfl
                clear hF hD
                refine want_none rfl ?_
                go_simp
                refine (HG1.out _).mono ?_
                rintro e wy ⟨rfl, k⟩
                exact hK _ _ (Below.call hC k) k rfl
              refine RegSteps.cons ?_ ?_
              · intro _ az wz hC hF hD _ K hK
                obtain ⟨_, q146, rfl⟩ := dep hD 4 rfl rfl rfl rfl
                clear hF hD
                refine want_none rfl ?_
                go_simp
                exact hK _ _ hC (Below.refl _ _) rfl
              refine RegSteps.cons ?_ ?_
              · intro _ az wz hC hF hD _ K hK
                obtain ⟨_, q147, rfl⟩ := dep hD 5 rfl rfl rfl rfl
                clear hF hD
                refine want_none rfl ?_
                go_simp
                exact hK _ _ hC (Below.refl _ _) rfl
              refine RegSteps.cons ?_ ?_
              · intro _ az wz hC hF hD _ K hK
                have q14 : az.tmps[14]? = some (.slice (some ⟨g, 0, none⟩) 4 4) := hF 14 rfl
                obtain ⟨_, qg, rfl⟩ := dep hD 6 rfl rfl rfl rfl
                clear hF hD
                refine want_yes rfl rfl rfl qg ?_
                go_simp
                exact hK _ _ hC (Below.refl _ _) rfl
              refine RegSteps.cons ?_ ?_
              · intro _ az wz hC hF hD _ K hK
                have q16 : az.tmps[16]? = some (.int .i64 (m : Int)) := hF 16 rfl
                obtain ⟨_, qg, rfl⟩ := dep hD 6 rfl rfl rfl rfl
                clear hF hD
                refine want_yes rfl rfl rfl qg ?_
                go_simp
                exact hK _ _ hC (Below.refl _ _) rfl
              refine RegSteps.cons ?_ ?_
              · intro _ az wz hC hF hD _ K hK
                obtain ⟨_, q149, rfl⟩ := dep hD 7 rfl rfl rfl rfl
                obtain ⟨_, q150, rfl⟩ := dep hD 8 rfl rfl rfl rfl
                obtain ⟨_, qg, rfl⟩ := dep hD 6 rfl rfl rfl rfl
                clear hF hD
                refine want_yes rfl rfl rfl qg ?_
                go_simp
                exact hK _ _ hC (Below.refl _ _) rfl
              refine RegSteps.cons ?_ ?_
              · intro _ az wz hC hF hD _ K hK
                obtain ⟨_, q151, rfl⟩ := dep hD 9 rfl rfl rfl rfl
                obtain ⟨_, qg, rfl⟩ := dep hD 6 rfl rfl rfl rfl
                obtain ⟨l0, l1, l2, l3⟩ := rm _ hC
                clear hF hD
                refine want_yes rfl rfl rfl qg ?_
                go_simp
                exact hK _ _ hC (Below.refl _ _) rfl
              refine RegSteps.cons ?_ ?_
              · intro _ az wz hC hF hD _ K hK
                obtain ⟨_, q152, rfl⟩ := dep hD 10 rfl rfl rfl rfl
                obtain ⟨_, qg, rfl⟩ := dep hD 6 rfl rfl rfl rfl
                clear hF hD
                refine want_yes rfl rfl rfl qg ?_
                go_simp
                refine (HG2.out _).mono ?_
                rintro e wy ⟨rfl, k⟩
                exact hK _ _ (Below.call hC k) k rfl
              refine RegSteps.cons ?_ ?_
              · intro _ az wz hC hF hD _ K hK
                obtain ⟨_, q153, rfl⟩ := dep hD 11 rfl rfl rfl rfl
                obtain ⟨_, qg, rfl⟩ := dep hD 6 rfl rfl rfl rfl
                clear hF hD
                refine want_yes rfl rfl rfl qg ?_
                go_simp
                exact hK _ _ hC (Below.refl _ _) rfl
              refine RegSteps.cons ?_ ?_
              · intro _ az wz hC hF hD _ K hK
                obtain ⟨_, q148, rfl⟩ := dep hD 6 rfl rfl rfl rfl
                obtain ⟨_, q154, rfl⟩ := dep hD 12 rfl rfl rfl rfl
                clear hF hD
                refine want_none rfl ?_
                go_simp
                exact hK _ _ hC (Below.refl _ _) rfl
              refine RegSteps.cons ?_ ?_
              · intro _ az wz hC hF hD _ K hK
                obtain ⟨_, q155, rfl⟩ := dep hD 13 rfl rfl rfl rfl
                clear hF hD
                refine want_none rfl ?_
                go_simp
                exact hK _ _ hC (Below.refl _ _) rfl
              refine RegSteps.cons ?_ ?_
              · intro _ az wz hC hF hD _ K hK
                have q17 : az.tmps[17]? = some (.bool false) := hF 17 rfl
                obtain ⟨_, qg, rfl⟩ := dep hD 14 rfl rfl rfl rfl
                clear hF hD
                refine want_yes rfl rfl rfl qg ?_
                go_simp
                exact hK _ _ hC (Below.refl _ _) rfl
              refine RegSteps.cons ?_ ?_
              · intro _ az wz hC hF hD _ K hK
                have q14 : az.tmps[14]? = some (.slice (some ⟨g, 0, none⟩) 4 4) := hF 14 rfl
                obtain ⟨_, qg, rfl⟩ := dep hD 14 rfl rfl rfl rfl
                clear hF hD
                refine want_yes rfl rfl rfl qg ?_
                go_simp
                exact hK _ _ hC (Below.refl _ _) rfl
              refine RegSteps.cons ?_ ?_
              · intro _ az wz hC hF hD _ K hK
                have q15 : az.tmps[15]? = some (.int .i64 (k : Int)) := hF 15 rfl
                obtain ⟨_, qg, rfl⟩ := dep hD 14 rfl rfl rfl rfl
                clear hF hD
                refine want_yes rfl rfl rfl qg ?_
                go_simp
                exact hK _ _ hC (Below.refl _ _) rfl
              refine RegSteps.cons ?_ ?_
              · intro _ az wz hC hF hD _ K hK
                obtain ⟨_, q158, rfl⟩ := dep hD 16 rfl rfl rfl rfl
                obtain ⟨_, q159, rfl⟩ := dep hD 17 rfl rfl rfl rfl
                obtain ⟨_, qg, rfl⟩ := dep hD 14 rfl rfl rfl rfl
                clear hF hD
                refine want_yes rfl rfl rfl qg ?_
                go_simp
                exact hK _ _ hC (Below.refl _ _) rfl
              refine RegSteps.cons ?_ ?_
              · intro _ az wz hC hF hD _ K hK
                obtain ⟨_, q160, rfl⟩ := dep hD 18 rfl rfl rfl rfl
                obtain ⟨_, qg, rfl⟩ := dep hD 14 rfl rfl rfl rfl
                obtain ⟨l0, l1, l2, l3⟩ := rk _ hC
                clear hF hD
                refine want_yes rfl rfl rfl qg ?_
                go_simp
                exact hK _ _ hC (Below.refl _ _) rfl
              refine RegSteps.cons ?_ ?_
              · intro _ az wz hC hF hD _ K hK
                have q18 : az.tmps[18]? = some (.pointer (some ⟨gq, 0, none⟩)) := hF 18 rfl
                obtain ⟨_, qg, rfl⟩ := dep hD 14 rfl rfl rfl rfl
                obtain ⟨l0, l1, l2, l3, l4, l5, l6, l7, _⟩ := (hQ.on hC).all8
                clear hF hD
                refine want_yes rfl rfl rfl qg ?_
                go_simp
                exact hK _ _ hC (Below.refl _ _) rfl
              refine RegSteps.cons ?_ ?_
              · intro _ az wz hC hF hD _ K hK
                obtain ⟨_, q161, rfl⟩ := dep hD 19 rfl rfl rfl rfl
                obtain ⟨_, q162, rfl⟩ := dep hD 20 rfl rfl rfl rfl
                obtain ⟨_, qg, rfl⟩ := dep hD 14 rfl rfl rfl rfl
                clear hF hD
                refine want_yes rfl rfl rfl qg ?_
                go_simp
                refine (HV1.out _ _ (hcq.on hC)).mono ?_
                rintro e wy ⟨rfl, k⟩
                exact hK _ _ (Below.call hC k) k rfl
              refine RegSteps.cons ?_ ?_
              · intro _ az wz hC hF hD _ K hK
                obtain ⟨_, q163, rfl⟩ := dep hD 21 rfl rfl rfl rfl
                obtain ⟨_, qg, rfl⟩ := dep hD 14 rfl rfl rfl rfl
                clear hF hD
                refine want_yes rfl rfl rfl qg ?_
                go_simp
                exact hK _ _ hC (Below.refl _ _) rfl
              refine RegSteps.cons ?_ ?_
              · exact fun _ => step_no (c := false) rfl rfl rfl rfl rfl (fun _ _ h => h) rfl (fun _ => rfl)
              refine RegSteps.cons ?_ ?_
              · exact fun _ => step_no (c := false) rfl rfl rfl rfl rfl (fun _ _ h => h) rfl (fun _ => rfl)
              refine RegSteps.cons ?_ ?_
              · exact fun _ => step_no (c := false) rfl rfl rfl rfl rfl (fun _ _ h => h) rfl (fun _ => rfl)
              refine RegSteps.cons ?_ ?_
              · exact fun _ => step_no (c := false) rfl rfl rfl rfl rfl (fun _ _ h => h) rfl (fun _ => rfl)
              refine RegSteps.cons ?_ ?_
              · exact fun _ => step_no (c := false) rfl rfl rfl rfl rfl (fun _ _ h => h) rfl (fun _ => rfl)
              refine RegSteps.cons ?_ ?_
              · exact fun _ => step_no (c := false) rfl rfl rfl rfl rfl (fun _ _ h => h) rfl (fun _ => rfl)
              refine RegSteps.cons ?_ ?_
              · intro _ az wz hC hF hD _ K hK
                obtain ⟨_, q164, rfl⟩ := dep hD 22 rfl rfl rfl rfl
                obtain ⟨_, q170, rfl⟩ := dep hD 28 rfl rfl rfl rfl
                obtain ⟨_, qg, rfl⟩ := dep hD 14 rfl rfl rfl rfl
                clear hF hD
                refine want_yes rfl rfl rfl qg ?_
                go_simp
                exact hK _ _ hC (Below.refl _ _) rfl
              refine RegSteps.cons ?_ ?_
              · intro _ az wz hC hF hD _ K hK
                obtain ⟨_, q157, rfl⟩ := dep hD 15 rfl rfl rfl rfl
                obtain ⟨_, q171, rfl⟩ := dep hD 29 rfl rfl rfl rfl
                obtain ⟨_, qg, rfl⟩ := dep hD 14 rfl rfl rfl rfl
                clear hF hD
                refine want_yes rfl rfl rfl qg ?_
                go_simp
                exact hK _ _ hC (Below.refl _ _) rfl
              refine RegSteps.cons ?_ ?_
              · intro _ az wz hC hF hD _ K hK
                obtain ⟨_, q156, rfl⟩ := dep hD 14 rfl rfl rfl rfl
                obtain ⟨_, q172, rfl⟩ := dep hD 30 rfl rfl rfl rfl
                clear hF hD
                refine want_none rfl ?_
                go_simp
                exact hK _ _ hC (Below.refl _ _) rfl
              exact RegSteps.nil
            intro w14 hC14
            rintro _ rfl _ rfl _ rfl _ rfl _ rfl _ rfl _ rfl _ rfl _ rfl _ rfl _ rfl _ rfl _ rfl _ rfl _ rfl _ rfl _ rfl _ rfl _ rfl _ rfl _ rfl _ rfl _ rfl _ rfl _ rfl _ rfl _ rfl _ rfl _ rfl _ rfl _ rfl _ rfl
            simp only [FinOK, Act.put, List.setIfInBounds_toArray, List.set_cons_zero, List.set_cons_succ]
          case' inl.inl.true =>
            have hi := HCr.out e1 e2
            rw [Bool.true_and] at hi
            subst hi
            rw [e1] at HG1
            rw [e2] at HG2
            clear e1 e2
            go_wp2_with fail
            refine wp_region_specs w13 [Spec.eq (.slice (some ⟨g, 0, none⟩) 4 4), Spec.eq (.int .i64 (k : Int)), Spec.eq (.pointer (some ⟨g, k * 4, none⟩)), Spec.eq (.agg #[.int .i64 A0, .int .i64 A1, .int .i64 A2, .int .i64 A3]), Spec.eq (.int .i64 0), Spec.eq (.bool true), Spec.eq (.bool true), Spec.eq (.slice (some ⟨g, 0, none⟩) 4 4), Spec.eq (.int .i64 (m : Int)), Spec.eq (.pointer (some ⟨g, m * 4, none⟩)), Spec.eq (.agg #[.int .i64 C0, .int .i64 C1, .int .i64 C2, .int .i64 C3]), Spec.eq (.int .i64 0), Spec.eq (.bool true), Spec.eq (.bool true), Spec.eq (.bool true), Spec.eq (.bool is_), Spec.eq (.slice (some ⟨g, 0, none⟩) 4 4), Spec.eq (.int .i64 (k : Int)), Spec.eq (.pointer (some ⟨g, k * 4, none⟩)), Spec.eq (.agg #[.int .i64 A0, .int .i64 A1, .int .i64 A2, .int .i64 A3]), Spec.eq (.agg #[.bool cq.x.p.neg, .slice cq.x.p.A cq.x.p.n cq.x.p.c, .bool cq.x.l.neg, .slice cq.x.l.A cq.x.l.n cq.x.l.c, .bool cq.y.p.neg, .slice cq.y.p.A cq.y.p.n cq.y.p.c, .bool cq.y.l.neg, .slice cq.y.l.A cq.y.l.n cq.y.l.c]), Spec.eq (.bool true), Spec.eq (.bool true), Spec.eq (.slice (some ⟨g, 0, none⟩) 4 4), Spec.eq (.int .i64 (m : Int)), Spec.eq (.pointer (some ⟨g, m * 4, none⟩)), Spec.eq (.agg #[.int .i64 C0, .int .i64 C1, .int .i64 C2, .int .i64 C3]), Spec.eq (.agg #[.bool cq.x.p.neg, .slice cq.x.p.A cq.x.p.n cq.x.p.c, .bool cq.x.l.neg, .slice cq.x.l.A cq.x.l.n cq.x.l.c, .bool cq.y.p.neg, .slice cq.y.p.A cq.y.p.n cq.y.p.c, .bool cq.y.l.neg, .slice cq.y.l.A cq.y.l.n cq.y.l.c]), Spec.eq (.bool is_), Spec.eq (.bool is_), Spec.eq (.bool false), Spec.eq (.bool false)]
                (by kernel_rfl) (by kernel_rfl) rfl (by kernel_rfl) (Below.drew (Below.refl _ _)) ?_ ?_
            ·
              refine RegSteps.cons ?_ ?_
              · intro _ az wz hC hF hD _ K hK
                have q14 : az.tmps[14]? = some (.slice (some ⟨g, 0, none⟩) 4 4) := hF 14 rfl
                clear hF hD
                refine want_none rfl ?_
                go_simp
                exact hK _ _ hC (Below.refl _ _) rfl
              refine RegSteps.cons ?_ ?_
              · intro _ az wz hC hF hD _ K hK
                have q15 : az.tmps[15]? = some (.int .i64 (k : Int)) := hF 15 rfl
                clear hF hD
                refine want_none rfl ?_
                go_simp
                exact hK _ _ hC (Below.refl _ _) rfl
              refine RegSteps.cons ?_ ?_
              · intro _ az wz hC hF hD _ K hK
                obtain ⟨_, q142, rfl⟩ := dep hD 0 rfl rfl rfl rfl
                obtain ⟨_, q143, rfl⟩ := dep hD 1 rfl rfl rfl rfl
                clear hF hD
                refine want_none rfl ?_
                go_simp
                exact hK _ _ hC (Below.refl _ _) rfl
              refine RegSteps.cons ?_ ?_
              · intro _ az wz hC hF hD _ K hK
                obtain ⟨_, q144, rfl⟩ := dep hD 2 rfl rfl rfl rfl
                obtain ⟨l0, l1, l2, l3⟩ := rk _ hC
                clear hF hD
                refine want_none rfl ?_
                go_simp
                exact hK _ _ hC (Below.refl _ _) rfl
              refine RegSteps.cons ?_ ?_
              · intro _ az wz hC hF hD _ K hK
                obtain ⟨_, q145, rfl⟩ := dep hD 3 rfl rfl rfl rfl
                clear hF hD
                refine want_none rfl ?_
                go_simp
                refine (HG1.out _).mono ?_
                rintro e wy ⟨rfl, k⟩
                exact hK _ _ (Below.call hC k) k rfl
              refine RegSteps.cons ?_ ?_
              · intro _ az wz hC hF hD _ K hK
                obtain ⟨_, q146, rfl⟩ := dep hD 4 rfl rfl rfl rfl
                clear hF hD
                refine want_none rfl ?_
                go_simp
                exact hK _ _ hC (Below.refl _ _) rfl
              refine RegSteps.cons ?_ ?_
              · intro _ az wz hC hF hD _ K hK
                obtain ⟨_, q147, rfl⟩ := dep hD 5 rfl rfl rfl rfl
                clear hF hD
                refine want_none rfl ?_
                go_simp
                exact hK _ _ hC (Below.refl _ _) rfl
              refine RegSteps.cons ?_ ?_
              · intro _ az wz hC hF hD _ K hK
                have q14 : az.tmps[14]? = some (.slice (some ⟨g, 0, none⟩) 4 4) := hF 14 rfl
                obtain ⟨_, qg, rfl⟩ := dep hD 6 rfl rfl rfl rfl
                clear hF hD
                refine want_yes rfl rfl rfl qg ?_
                go_simp
                exact hK _ _ hC (Below.refl _ _) rfl
              refine RegSteps.cons ?_ ?_
              · intro _ az wz hC hF hD _ K hK
                have q16 : az.tmps[16]? = some (.int .i64 (m : Int)) := hF 16 rfl
                obtain ⟨_, qg, rfl⟩ := dep hD 6 rfl rfl rfl rfl
                clear hF hD
                refine want_yes rfl rfl rfl qg ?_
                go_simp
                exact hK _ _ hC (Below.refl _ _) rfl
              refine RegSteps.cons ?_ ?_
              · intro _ az wz hC hF hD _ K hK
                obtain ⟨_, q149, rfl⟩ := dep hD 7 rfl rfl rfl rfl
                obtain ⟨_, q150, rfl⟩ := dep hD 8 rfl rfl rfl rfl
                obtain ⟨_, qg, rfl⟩ := dep hD 6 rfl rfl rfl rfl
                clear hF hD
                refine want_yes rfl rfl rfl qg ?_
                go_simp
                exact hK _ _ hC (Below.refl _ _) rfl
              refine RegSteps.cons ?_ ?_
              · intro _ az wz hC hF hD _ K hK
                obtain ⟨_, q151, rfl⟩ := dep hD 9 rfl rfl rfl rfl
                obtain ⟨_, qg, rfl⟩ := dep hD 6 rfl rfl rfl rfl
                obtain ⟨l0, l1, l2, l3⟩ := rm _ hC
                clear hF hD
                refine want_yes rfl rfl rfl qg ?_
                go_simp
                exact hK _ _ hC (Below.refl _ _) rfl
              refine RegSteps.cons ?_ ?_
              · intro _ az wz hC hF hD _ K hK
                obtain ⟨_, q152, rfl⟩ := dep hD 10 rfl rfl rfl rfl
                obtain ⟨_, qg, rfl⟩ := dep hD 6 rfl rfl rfl rfl
                clear hF hD
                refine want_yes rfl rfl rfl qg ?_
                go_simp
                refine (HG2.out _).mono ?_
                rintro e wy ⟨rfl, k⟩
                exact hK _ _ (Below.call hC k) k rfl
              refine RegSteps.cons ?_ ?_
              · intro _ az wz hC hF hD _ K hK
                obtain ⟨_, q153, rfl⟩ := dep hD 11 rfl rfl rfl rfl
                obtain ⟨_, qg, rfl⟩ := dep hD 6 rfl rfl rfl rfl
                clear hF hD
                refine want_yes rfl rfl rfl qg ?_
                go_simp
                exact hK _ _ hC (Below.refl _ _) rfl
              refine RegSteps.cons ?_ ?_
              · intro _ az wz hC hF hD _ K hK
                obtain ⟨_, q148, rfl⟩ := dep hD 6 rfl rfl rfl rfl
                obtain ⟨_, q154, rfl⟩ := dep hD 12 rfl rfl rfl rfl
                clear hF hD
                refine want_none rfl ?_
                go_simp
                exact hK _ _ hC (Below.refl _ _) rfl
              refine RegSteps.cons ?_ ?_
              · intro _ az wz hC hF hD _ K hK
                obtain ⟨_, q155, rfl⟩ := dep hD 13 rfl rfl rfl rfl
                clear hF hD
                refine want_none rfl ?_
                go_simp
                exact hK _ _ hC (Below.refl _ _) rfl
              refine RegSteps.cons ?_ ?_
              · intro _ az wz hC hF hD _ K hK
                have q17 : az.tmps[17]? = some (.bool is_) := hF 17 rfl
                obtain ⟨_, qg, rfl⟩ := dep hD 14 rfl rfl rfl rfl
                clear hF hD
                refine want_yes rfl rfl rfl qg ?_
                go_simp
                exact hK _ _ hC (Below.refl _ _) rfl
              refine RegSteps.cons ?_ ?_
              · intro _ az wz hC hF hD _ K hK
                have q14 : az.tmps[14]? = some (.slice (some ⟨g, 0, none⟩) 4 4) := hF 14 rfl
                obtain ⟨_, qg, rfl⟩ := dep hD 14 rfl rfl rfl rfl
                clear hF hD
                refine want_yes rfl rfl rfl qg ?_
                go_simp
                exact hK _ _ hC (Below.refl _ _) rfl
              refine RegSteps.cons ?_ ?_
              · intro _ az wz hC hF hD _ K hK
                have q15 : az.tmps[15]? = some (.int .i64 (k : Int)) := hF 15 rfl
                obtain ⟨_, qg, rfl⟩ := dep hD 14 rfl rfl rfl rfl
                clear hF hD
                refine want_yes rfl rfl rfl qg ?_
                go_simp
                exact hK _ _ hC (Below.refl _ _) rfl
              refine RegSteps.cons ?_ ?_
              · intro _ az wz hC hF hD _ K hK
                obtain ⟨_, q158, rfl⟩ := dep hD 16 rfl rfl rfl rfl
                obtain ⟨_, q159, rfl⟩ := dep hD 17 rfl rfl rfl rfl
                obtain ⟨_, qg, rfl⟩ := dep hD 14 rfl rfl rfl rfl
                clear hF hD
                refine want_yes rfl rfl rfl qg ?_
                go_simp
                exact hK _ _ hC (Below.refl _ _) rfl
              refine RegSteps.cons ?_ ?_
              · intro _ az wz hC hF hD _ K hK
                obtain ⟨_, q160, rfl⟩ := dep hD 18 rfl rfl rfl rfl
                obtain ⟨_, qg, rfl⟩ := dep hD 14 rfl rfl rfl rfl
                obtain ⟨l0, l1, l2, l3⟩ := rk _ hC
                clear hF hD
                refine want_yes rfl rfl rfl qg ?_
                go_simp
                exact hK _ _ hC (Below.refl _ _) rfl
              refine RegSteps.cons ?_ ?_
              · intro _ az wz hC hF hD _ K hK
                have q18 : az.tmps[18]? = some (.pointer (some ⟨gq, 0, none⟩)) := hF 18 rfl
                obtain ⟨_, qg, rfl⟩ := dep hD 14 rfl rfl rfl rfl
                obtain ⟨l0, l1, l2, l3, l4, l5, l6, l7, _⟩ := (hQ.on hC).all8
                clear hF hD
                refine want_yes rfl rfl rfl qg ?_
                go_simp
                exact hK _ _ hC (Below.refl _ _) rfl
              refine RegSteps.cons ?_ ?_
              · intro _ az wz hC hF hD _ K hK
                obtain ⟨_, q161, rfl⟩ := dep hD 19 rfl rfl rfl rfl
                obtain ⟨_, q162, rfl⟩ := dep hD 20 rfl rfl rfl rfl
                obtain ⟨_, qg, rfl⟩ := dep hD 14 rfl rfl rfl rfl
                clear hF hD
                refine want_yes rfl rfl rfl qg ?_
                go_simp
                refine (HV1.out _ _ (hcq.on hC)).mono ?_
                rintro e wy ⟨rfl, k⟩
                exact hK _ _ (Below.call hC k) k rfl
              refine RegSteps.cons ?_ ?_
              · intro _ az wz hC hF hD _ K hK
                obtain ⟨_, q163, rfl⟩ := dep hD 21 rfl rfl rfl rfl
                obtain ⟨_, qg, rfl⟩ := dep hD 14 rfl rfl rfl rfl
                clear hF hD
                refine want_yes rfl rfl rfl qg ?_
                go_simp
                exact hK _ _ hC (Below.refl _ _) rfl
              refine RegSteps.cons ?_ ?_
              · intro _ az wz hC hF hD _ K hK
                have q14 : az.tmps[14]? = some (.slice (some ⟨g, 0, none⟩) 4 4) := hF 14 rfl
                obtain ⟨_, qg, rfl⟩ := dep hD 22 rfl rfl rfl rfl
                clear hF hD
                refine want_yes rfl rfl rfl qg ?_
                go_simp
                exact hK _ _ hC (Below.refl _ _) rfl
              refine RegSteps.cons ?_ ?_
              · intro _ az wz hC hF hD _ K hK
                have q16 : az.tmps[16]? = some (.int .i64 (m : Int)) := hF 16 rfl
                obtain ⟨_, qg, rfl⟩ := dep hD 22 rfl rfl rfl rfl
                clear hF hD
                refine want_yes rfl rfl rfl qg ?_
                go_simp
                exact hK _ _ hC (Below.refl _ _) rfl
              refine RegSteps.cons ?_ ?_
              · intro _ az wz hC hF hD _ K hK
                obtain ⟨_, q165, rfl⟩ := dep hD 23 rfl rfl rfl rfl
                obtain ⟨_, q166, rfl⟩ := dep hD 24 rfl rfl rfl rfl
                obtain ⟨_, qg, rfl⟩ := dep hD 22 rfl rfl rfl rfl
                clear hF hD
                refine want_yes rfl rfl rfl qg ?_
                go_simp
                exact hK _ _ hC (Below.refl _ _) rfl
              refine RegSteps.cons ?_ ?_
              · intro _ az wz hC hF hD _ K hK
                obtain ⟨_, q167, rfl⟩ := dep hD 25 rfl rfl rfl rfl
                obtain ⟨_, qg, rfl⟩ := dep hD 22 rfl rfl rfl rfl
                obtain ⟨l0, l1, l2, l3⟩ := rm _ hC
                clear hF hD
                refine want_yes rfl rfl rfl qg ?_
                go_simp
                exact hK _ _ hC (Below.refl _ _) rfl
              refine RegSteps.cons ?_ ?_
              · intro _ az wz hC hF hD _ K hK
                have q18 : az.tmps[18]? = some (.pointer (some ⟨gq, 0, none⟩)) := hF 18 rfl
                obtain ⟨_, qg, rfl⟩ := dep hD 22 rfl rfl rfl rfl
                obtain ⟨l0, l1, l2, l3, l4, l5, l6, l7, _⟩ := (hQ.on hC).all8
                clear hF hD
                refine want_yes rfl rfl rfl qg ?_
                go_simp
                exact hK _ _ hC (Below.refl _ _) rfl
              refine RegSteps.cons ?_ ?_
              · intro _ az wz hC hF hD _ K hK
                obtain ⟨_, q168, rfl⟩ := dep hD 26 rfl rfl rfl rfl
                obtain ⟨_, q169, rfl⟩ := dep hD 27 rfl rfl rfl rfl
                obtain ⟨_, qg, rfl⟩ := dep hD 22 rfl rfl rfl rfl
                clear hF hD
                refine want_yes rfl rfl rfl qg ?_
                go_simp
                refine (HV2.out _ _ (hcq.on hC)).mono ?_
                rintro e wy ⟨rfl, k⟩
                exact hK _ _ (Below.call hC k) k rfl
              refine RegSteps.cons ?_ ?_
              · intro _ az wz hC hF hD _ K hK
                obtain ⟨_, q164, rfl⟩ := dep hD 22 rfl rfl rfl rfl
                obtain ⟨_, q170, rfl⟩ := dep hD 28 rfl rfl rfl rfl
                obtain ⟨_, qg, rfl⟩ := dep hD 14 rfl rfl rfl rfl
                clear hF hD
                refine want_yes rfl rfl rfl qg ?_
                go_simp
                exact hK _ _ hC (Below.refl _ _) rfl
              refine RegSteps.cons ?_ ?_
              · intro _ az wz hC hF hD _ K hK
                obtain ⟨_, q157, rfl⟩ := dep hD 15 rfl rfl rfl rfl
                obtain ⟨_, q171, rfl⟩ := dep hD 29 rfl rfl rfl rfl
                obtain ⟨_, qg, rfl⟩ := dep hD 14 rfl rfl rfl rfl
                clear hF hD
                refine want_yes rfl rfl rfl qg ?_
                go_simp
                exact hK _ _ hC (Below.refl _ _) rfl
              refine RegSteps.cons ?_ ?_
              · intro _ az wz hC hF hD _ K hK
                obtain ⟨_, q156, rfl⟩ := dep hD 14 rfl rfl rfl rfl
                obtain ⟨_, q172, rfl⟩ := dep hD 30 rfl rfl rfl rfl
                clear hF hD
                refine want_none rfl ?_
                go_simp
                exact hK _ _ hC (Below.refl _ _) rfl
              exact RegSteps.nil
            intro w14 hC14
            rintro _ rfl _ rfl _ rfl _ rfl _ rfl _ rfl _ rfl _ rfl _ rfl _ rfl _ rfl _ rfl _ rfl _ rfl _ rfl _ rfl _ rfl _ rfl _ rfl _ rfl _ rfl _ rfl _ rfl _ rfl _ rfl _ rfl _ rfl _ rfl _ rfl _ rfl _ rfl _ rfl
            simp only [FinOK, Act.put, List.setIfInBounds_toArray, List.set_cons_zero, List.set_cons_succ]
          case' inl.inr =>
            rw [e1] at HG1
            rw [e2] at HG2
            clear e1 e2
            go_wp2_with fail
            refine wp_region_specs w13 [Spec.eq (.slice (some ⟨g, 0, none⟩) 4 4), Spec.eq (.int .i64 (k : Int)), Spec.eq (.pointer (some ⟨g, k * 4, none⟩)), Spec.eq (.agg #[.int .i64 A0, .int .i64 A1, .int .i64 A2, .int .i64 A3]), Spec.eq (.int .i64 0), Spec.eq (.bool true), Spec.eq (.bool true), Spec.eq (.slice (some ⟨g, 0, none⟩) 4 4), Spec.eq (.int .i64 (m : Int)), Spec.eq (.pointer (some ⟨g, m * 4, none⟩)), Spec.eq (.agg #[.int .i64 C0, .int .i64 C1, .int .i64 C2, .int .i64 C3]), Spec.eq (.int .i64 5), Spec.eq (.bool false), Spec.eq (.bool false), Spec.eq (.bool false), Spec.eq undef, Spec.eq undef, Spec.eq undef, Spec.eq undef, Spec.eq undef, Spec.eq undef, Spec.eq undef, Spec.eq undef, Spec.eq undef, Spec.eq undef, Spec.eq undef, Spec.eq undef, Spec.eq undef, Spec.eq undef, Spec.eq undef, Spec.eq undef, Spec.eq (.bool false)]
                (by kernel_rfl) (by kernel_rfl) rfl (by kernel_rfl) (Below.drew (Below.refl _ _)) ?_ ?_
            ·
              refine RegSteps.cons ?_ ?_
              · intro _ az wz hC hF hD _ K hK
                have q14 : az.tmps[14]? = some (.slice (some ⟨g, 0, none⟩) 4 4) := hF 14 rfl
                clear hF hD
                refine want_none rfl ?_
                go_simp
                exact hK _ _ hC (Below.refl _ _) rfl
              refine RegSteps.cons ?_ ?_
              · intro _ az wz hC hF hD _ K hK
                have q15 : az.tmps[15]? = some (.int .i64 (k : Int)) := hF 15 rfl
                clear hF hD
                refine want_none rfl ?_
                go_simp
                exact hK _ _ hC (Below.refl _ _) rfl
              refine RegSteps.cons ?_ ?_
              · intro _ az wz hC hF hD _ K hK
                obtain ⟨_, q142, rfl⟩ := dep hD 0 rfl rfl rfl rfl
                obtain ⟨_, q143, rfl⟩ := dep hD 1 rfl rfl rfl rfl
                clear hF hD
                refine want_none rfl ?_
                go_simp
                exact hK _ _ hC (Below.refl _ _) rfl
              refine RegSteps.cons ?_ ?_
              · intro _ az wz hC hF hD _ K hK
                obtain ⟨_, q144, rfl⟩ := dep hD 2 rfl rfl rfl rfl
                obtain ⟨l0, l1, l2, l3⟩ := rk _ hC
                clear hF hD
                refine want_none rfl ?_
                go_simp
                exact hK _ _ hC (Below.refl _ _) rfl
              refine RegSteps.cons ?_ ?_
              · intro _ az wz hC hF hD _ K hK
                obtain ⟨_, q145, rfl⟩ := dep hD 3 rfl rfl rfl rfl
                clear hF hD
                refine want_none rfl ?_
                go_simp
                refine (HG1.out _).mono ?_
                rintro e wy ⟨rfl, k⟩
                exact hK _ _ (Below.call hC k) k rfl
              refine RegSteps.cons ?_ ?_
              · intro _ az wz hC hF hD _ K hK
                obtain ⟨_, q146, rfl⟩ := dep hD 4 rfl rfl rfl rfl
                clear hF hD
                refine want_none rfl ?_
                go_simp
                exact hK _ _ hC (Below.refl _ _) rfl
              refine RegSteps.cons ?_ ?_
              · intro _ az wz hC hF hD _ K hK
                obtain ⟨_, q147, rfl⟩ := dep hD 5 rfl rfl rfl rfl
                clear hF hD
                refine want_none rfl ?_
                go_simp
                exact hK _ _ hC (Below.refl _ _) rfl
              refine RegSteps.cons ?_ ?_
              · intro _ az wz hC hF hD _ K hK
                have q14 : az.tmps[14]? = some (.slice (some ⟨g, 0, none⟩) 4 4) := hF 14 rfl
                obtain ⟨_, qg, rfl⟩ := dep hD 6 rfl rfl rfl rfl
                clear hF hD
                refine want_yes rfl rfl rfl qg ?_
                go_simp
                exact hK _ _ hC (Below.refl _ _) rfl
              refine RegSteps.cons ?_ ?_
              · intro _ az wz hC hF hD _ K hK
                have q16 : az.tmps[16]? = some (.int .i64 (m : Int)) := hF 16 rfl
                obtain ⟨_, qg, rfl⟩ := dep hD 6 rfl rfl rfl rfl
                clear hF hD
                refine want_yes rfl rfl rfl qg ?_
                go_simp
                exact hK _ _ hC (Below.refl _ _) rfl
              refine RegSteps.cons ?_ ?_
              · intro _ az wz hC hF hD _ K hK
                obtain ⟨_, q149, rfl⟩ := dep hD 7 rfl rfl rfl rfl
                obtain ⟨_, q150, rfl⟩ := dep hD 8 rfl rfl rfl rfl
                obtain ⟨_, qg, rfl⟩ := dep hD 6 rfl rfl rfl rfl
                clear hF hD
                refine want_yes rfl rfl rfl qg ?_
                go_simp
                exact hK _ _ hC (Below.refl _ _) rfl
              refine RegSteps.cons ?_ ?_
              · intro _ az wz hC hF hD _ K hK
                obtain ⟨_, q151, rfl⟩ := dep hD 9 rfl rfl rfl rfl
                obtain ⟨_, qg, rfl⟩ := dep hD 6 rfl rfl rfl rfl
                obtain ⟨l0, l1, l2, l3⟩ := rm _ hC
                clear hF hD
                refine want_yes rfl rfl rfl qg ?_
                go_simp
                exact hK _ _ hC (Below.refl _ _) rfl
              refine RegSteps.cons ?_ ?_
              · intro _ az wz hC hF hD _ K hK
                obtain ⟨_, q152, rfl⟩ := dep hD 10 rfl rfl rfl rfl
                obtain ⟨_, qg, rfl⟩ := dep hD 6 rfl rfl rfl rfl
                clear hF hD
                refine want_yes rfl rfl rfl qg ?_
                go_simp
                refine (HG2.out _).mono ?_
                rintro e wy ⟨rfl, k⟩
                exact hK _ _ (Below.call hC k) k rfl
              refine RegSteps.cons ?_ ?_
              · intro _ az wz hC hF hD _ K hK
                obtain ⟨_, q153, rfl⟩ := dep hD 11 rfl rfl rfl rfl
                obtain ⟨_, qg, rfl⟩ := dep hD 6 rfl rfl rfl rfl
                clear hF hD
                refine want_yes rfl rfl rfl qg ?_
                go_simp
                exact hK _ _ hC (Below.refl _ _) rfl
              refine RegSteps.cons ?_ ?_
              · intro _ az wz hC hF hD _ K hK
                obtain ⟨_, q148, rfl⟩ := dep hD 6 rfl rfl rfl rfl
                obtain ⟨_, q154, rfl⟩ := dep hD 12 rfl rfl rfl rfl
                clear hF hD
                refine want_none rfl ?_
                go_simp
                exact hK _ _ hC (Below.refl _ _) rfl
              refine RegSteps.cons ?_ ?_
              · intro _ az wz hC hF hD _ K hK
                obtain ⟨_, q155, rfl⟩ := dep hD 13 rfl rfl rfl rfl
                clear hF hD
                refine want_none rfl ?_
                go_simp
                exact hK _ _ hC (Below.refl _ _) rfl
              refine RegSteps.cons ?_ ?_
              · exact fun _ => step_no (c := false) rfl rfl rfl rfl rfl (fun _ _ h => h) rfl (fun _ => rfl)
              refine RegSteps.cons ?_ ?_
              · exact fun _ => step_no (c := false) rfl rfl rfl rfl rfl (fun _ _ h => h) rfl (fun _ => rfl)
              refine RegSteps.cons ?_ ?_
              · exact fun _ => step_no (c := false) rfl rfl rfl rfl rfl (fun _ _ h => h) rfl (fun _ => rfl)
              refine RegSteps.cons ?_ ?_
              · exact fun _ => step_no (c := false) rfl rfl rfl rfl rfl (fun _ _ h => h) rfl (fun _ => rfl)
              refine RegSteps.cons ?_ ?_
              · exact fun _ => step_no (c := false) rfl rfl rfl rfl rfl (fun _ _ h => h) rfl (fun _ => rfl)
              refine RegSteps.cons ?_ ?_
              · exact fun _ => step_no (c := false) rfl rfl rfl rfl rfl (fun _ _ h => h) rfl (fun _ => rfl)
              refine RegSteps.cons ?_ ?_
              · exact fun _ => step_no (c := false) rfl rfl rfl rfl rfl (fun _ _ h => h) rfl (fun _ => rfl)
              refine RegSteps.cons ?_ ?_
              · exact fun _ => step_no (c := false) rfl rfl rfl rfl rfl (fun _ _ h => h) rfl (fun _ => rfl)
              refine RegSteps.cons ?_ ?_
              · exact fun _ => step_un rfl rfl rfl rfl rfl (fun _ _ h => h) (fun _ => rfl)
              refine RegSteps.cons ?_ ?_
              · exact fun _ => step_un rfl rfl rfl rfl rfl (fun _ _ h => h) (fun _ => rfl)
              refine RegSteps.cons ?_ ?_
              · exact fun _ => step_un rfl rfl rfl rfl rfl (fun _ _ h => h) (fun _ => rfl)
              refine RegSteps.cons ?_ ?_
              · exact fun _ => step_un rfl rfl rfl rfl rfl (fun _ _ h => h) (fun _ => rfl)
              refine RegSteps.cons ?_ ?_
              · exact fun _ => step_un rfl rfl rfl rfl rfl (fun _ _ h => h) (fun _ => rfl)
              refine RegSteps.cons ?_ ?_
              · exact fun _ => step_un rfl rfl rfl rfl rfl (fun _ _ h => h) (fun _ => rfl)
              refine RegSteps.cons ?_ ?_
              · exact fun _ => step_no (c := false) rfl rfl rfl rfl rfl (fun _ _ h => h) rfl (fun _ => rfl)
              refine RegSteps.cons ?_ ?_
              · exact fun _ => step_no (c := false) rfl rfl rfl rfl rfl (fun _ _ h => h) rfl (fun _ => rfl)
              refine RegSteps.cons ?_ ?_
              · intro _ az wz hC hF hD _ K hK
                obtain ⟨_, q156, rfl⟩ := dep hD 14 rfl rfl rfl rfl
                obtain ⟨_, q172, rfl⟩ := dep hD 30 rfl rfl rfl rfl
                clear hF hD
                refine want_none rfl ?_
                go_simp
                exact hK _ _ hC (Below.refl _ _) rfl
              exact RegSteps.nil
            intro w14 hC14
            rintro _ rfl _ rfl _ rfl _ rfl _ rfl _ rfl _ rfl _ rfl _ rfl _ rfl _ rfl _ rfl _ rfl _ rfl _ rfl _ rfl _ rfl _ rfl _ rfl _ rfl _ rfl _ rfl _ rfl _ rfl _ rfl _ rfl _ rfl _ rfl _ rfl _ rfl _ rfl _ rfl
            simp only [FinOK, Act.put, List.setIfInBounds_toArray, List.set_cons_zero, List.set_cons_succ]
          all_goals
            have hb14 := Below.call hb13 hC14
            clear HCr
            go_wp2_with fail
            go_roundw
            case rel => exact ⟨m + 1, by omega, by go_num, hb14⟩
            case measure => simp [intOf]; omega
        · obtain rfl : m = 4 := by omega
          clear hm4
          go_wp2_with fail
          go_roundw
          case rel => exact ⟨k + 1, by omega, by go_num, hbm⟩
          case measure => simp [intOf]; omega
    · obtain rfl : k = 4 := by omega
      clear hk4
      go_wp2_with fail
      refine (lives_any _ (ht.on (Below.call hB hbk))).mono ?_
      rintro e w9 ⟨rfl, k9⟩
      have hB9 := Below.call (Below.call hB hbk) k9
      go_wp2
      go_returns
      exact ⟨by simp, hB9⟩
end Go.Proofs.YthcpaagfgkbjaaaDoor
