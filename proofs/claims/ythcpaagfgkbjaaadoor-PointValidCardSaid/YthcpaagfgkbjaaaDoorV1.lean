/-
  Chapter 05: PointValid.
-/
import Derived.Test.YthcpaagfgkbjaaaDoorL1
import Derived.Test.YthcpaagfgkbjaaaDoorG
namespace Go.Proofs.YthcpaagfgkbjaaaDoor
open Go.RowKit Mag

/-- The points that PointValid looks at. -/
def vX (x y w : Int) : Nat → Int
  | 0 => x | 1 => y | 2 => 1073741824 | 3 => 1073741825 | 4 => 0 | _ => w.tmod 50
def vY (y z : Int) : Nat → Int
  | 0 => y | 1 => z | 2 => -1073741824 | 3 => 0 | 4 => -1073741825 | _ => z.tmod 50
def vList (x y z w : Int) : List Value := [.int .i64 x, .int .i64 y, .int .i64 y, .int .i64 z, .int .i64 1073741824, .int .i64 (-1073741824), .int .i64 1073741825, .int .i64 0, .int .i64 0, .int .i64 (-1073741825), .int .i64 (w.tmod 50), .int .i64 (z.tmod 50)]
theorem vCells {x y z w : Int} {W : World} {g : Nat} {t : TypeId} (h : Own W g t (vList x y z w)) {k : Nat} (hk : k < 6) : W.cell? ⟨g, k * 2, none⟩ = some (.int .i64 (vX x y w k)) ∧ W.cell? ⟨g, k * 2 + 1, none⟩ = some (.int .i64 (vY y z k)) := by
  rcases (by omega : k = 0 ∨ k = 1 ∨ k = 2 ∨ k = 3 ∨ k = 4 ∨ k = 5) with rfl | rfl | rfl | rfl | rfl | rfl
  all_goals exact ⟨h.cell _, h.cell _⟩
theorem whPt_one {x y : Int} (hx : in64 x) (hy : in64 y) : whPt x 1 y 1 = decide (goodV x y = 0) := by
  have h1 : small 1 = true := by decide
  have h2 : small x = true := by simp [small, hx.1, hx.2]
  have h3 : small y = true := by simp [small, hy.1, hy.2]
  simp [whPt, whOK, h1, h2, h3]
theorem tmod50 (u : Int) : -50 < u.tmod 50 ∧ u.tmod 50 < 50 := by
  have h1 := Int.tmod_lt_of_pos u (show (0 : Int) < 50 by omega)
  rcases (by omega : u < 0 ∨ 0 ≤ u) with h | h
  · have h2 := Int.neg_tmod u 50
    have h3 := Int.tmod_lt_of_pos (-u) (show (0 : Int) < 50 by omega)
    omega
  · have h2 := Int.tmod_nonneg 50 h
    omega
theorem PValid_z {x y v : Int} {w : World} (h : goodV x y = v) : Calls Tryd.prog 23 #[.agg #[.int .i64 x, .int .i64 y]] w (RetInt w v) := h ▸ PValid_any x y w
theorem PCompare_same {a : PV} {p q r s : Int} {w : World} (ha : a.is w p q r s) : Calls Tryd.prog 13 #[.agg #[.bool a.x.p.neg, .slice a.x.p.A a.x.p.n a.x.p.c, .bool a.x.l.neg, .slice a.x.l.A a.x.l.n a.x.l.c, .bool a.y.p.neg, .slice a.y.p.A a.y.p.n a.y.p.c, .bool a.y.l.neg, .slice a.y.l.A a.y.l.n a.y.l.c], .agg #[.bool a.x.p.neg, .slice a.x.p.A a.x.p.n a.x.p.c, .bool a.x.l.neg, .slice a.x.l.A a.x.l.n a.x.l.c, .bool a.y.p.neg, .slice a.y.p.A a.y.p.n a.y.p.c, .bool a.y.l.neg, .slice a.y.l.A a.y.l.n a.y.l.c]] w (RetInt w 0) := by
  have h := PCompare_any ha ha
  have e : cmpPt p q r s p q r s = 0 := by rw [cmpPt, cmpI_eq rfl, cmpI_eq rfl]; rfl
  rw [e] at h
  exact h
set_option maxRecDepth 100000 in
set_option maxHeartbeats 6400000 in
theorem PointValid_any (x y z u : Int) (w : World) (hx : in64 x) (hy : in64 y) (hz : in64 z) (_hu : in64 u) (ht : Tab w) : Calls Tryd.prog 7 #[.int .i64 x, .int .i64 y, .int .i64 z, .int .i64 u] w (RetB w true) := by
  go_enter Tryd.func7, Tryd.ntmps7
  go_upto_region 2 with fail
  have hO : Own (w.alloc (.cells #[.int .i64 x, .int .i64 y, .int .i64 y, .int .i64 z, .int .i64 1073741824, .int .i64 (-1073741824), .int .i64 1073741825, .int .i64 0, .int .i64 0, .int .i64 (-1073741825), .int .i64 (u.tmod 50), .int .i64 (z.tmod 50)] 40)) w.heap.size 40 (vList x y z u) := Own.new w 40 (vList x y z u)
  have hB := below_new w (.cells #[.int .i64 x, .int .i64 y, .int .i64 y, .int .i64 z, .int .i64 1073741824, .int .i64 (-1073741824), .int .i64 1073741825, .int .i64 0, .int .i64 0, .int .i64 (-1073741825), .int .i64 (u.tmod 50), .int .i64 (z.tmod 50)] 40)
  generalize w.alloc (.cells #[.int .i64 x, .int .i64 y, .int .i64 y, .int .i64 z, .int .i64 1073741824, .int .i64 (-1073741824), .int .i64 1073741825, .int .i64 0, .int .i64 0, .int .i64 (-1073741825), .int .i64 (u.tmod 50), .int .i64 (z.tmod 50)] 40) = W at hO hB ⊢
  generalize w.heap.size = g at hO ⊢
  have hin : ∀ k, in64 (vX x y u k) ∧ in64 (vY y z k) := fun k => by
    have h1 := tmod50 u
    have h2 := tmod50 z
    unfold in64 at *
    match k with
    | 0 => exact ⟨hx, hy⟩
    | 1 => exact ⟨hy, hz⟩
    | 2 => simp [vX, vY]
    | 3 => simp [vX, vY]
    | 4 => simp [vX, vY]
    | k + 5 => exact ⟨⟨by simp only [vX]; omega, by simp only [vX]; omega⟩, ⟨by simp only [vY]; omega, by simp only [vY]; omega⟩⟩
  go_wp2_with fail
  go_loopw [10] (fun i wr => ∃ k : Nat, k ≤ 6 ∧ i = .int .i64 k ∧ Below W.heap.size W wr) (fun i _ => 6 - (intOf i).toNat)
  case atStart => exact ⟨0, by omega, rfl, Below.refl _ _⟩
  case round =>
    obtain ⟨k, hk, rfl, hb⟩ := hrel
    have hO1 := hO.on hb
    by_cases hk6 : k < 6
    · obtain ⟨hx1, hy1⟩ := hin k
      obtain ⟨c0, c1⟩ := vCells hO1 hk6
      obtain ⟨X, hX⟩ : ∃ X, X = vX x y u k := ⟨_, rfl⟩
      obtain ⟨Y, hY⟩ : ∃ Y, Y = vY y z k := ⟨_, rfl⟩
      rw [← hX] at c0 hx1
      rw [← hY] at c1 hy1
      have HX := Lib.hid hX
      have HY := Lib.hid hY
      have h0 : (0 : Int) ≤ (k : Int) := by omega
      have h6 : (k : Int) < 6 := by omega
      clear hX hY
      go_wp2_with fail
      refine (Good_any X Y _).mono ?_
      rintro e w1 ⟨rfl, k1⟩
      have hB1 := Below.call hb k1
      have hO2 := hO1.on k1
      clear c0 c1
      obtain ⟨c0, c1⟩ := vCells hO2 hk6
      rw [← HX.out] at c0
      rw [← HY.out] at c1
      go_wp2_with fail
      refine (POf_any X Y _ hx1.1 hx1.2 hy1.1 hy1.2).mono ?_
      rintro e w2 ⟨a, rfl, k2, ha⟩
      have hB2 := Below.call hB1 k2
      go_upto_region 7 with fail
      have k3 := below_new w2 (.cells #[.bool a.x.p.neg, .slice a.x.p.A a.x.p.n a.x.p.c, .bool a.x.l.neg, .slice a.x.l.A a.x.l.n a.x.l.c, .bool a.y.p.neg, .slice a.y.p.A a.y.p.n a.y.p.c, .bool a.y.l.neg, .slice a.y.l.A a.y.l.n a.y.l.c] 31)
      have hP := Own.newPt w2 31 a
      generalize w2.alloc (.cells #[.bool a.x.p.neg, .slice a.x.p.A a.x.p.n a.x.p.c, .bool a.x.l.neg, .slice a.x.l.A a.x.l.n a.x.l.c, .bool a.y.p.neg, .slice a.y.p.A a.y.p.n a.y.p.c, .bool a.y.l.neg, .slice a.y.l.A a.y.l.n a.y.l.c] 31) = w3 at k3 hP ⊢
      generalize w2.heap.size = b1 at hP ⊢
      have ha3 := ha.on k3
      have hB3 := Below.call hB2 k3
      clear c0 c1
      have l0 := hP.c0
      have l1 := hP.c1
      have l2 := hP.c2
      have l3 := hP.c3
      have l4 := hP.c4
      have l5 := hP.c5
      have l6 := hP.c6
      have l7 := hP.c7
      go_wp2_with fail
      refine (PWhole_any ha3).mono ?_
      rintro e w4 ⟨rfl, k4⟩
      have hP := hP.on k4
      have ha4 := ha3.on k4
      have hB4 := Below.call hB3 k4
      clear l0 l1 l2 l3 l4 l5 l6 l7
      rw [whPt_one hx1 hy1]
      go_upto_region 8 with fail
      generalize hq1 : pick0 (decide (goodV X Y = 0)) X = QX
      generalize hq2 : pick0 (decide (goodV X Y = 0)) Y = QY
      have HQ1 := Lib.hid hq1
      have HQ2 := Lib.hid hq2
      clear hq1 hq2
      have k5 := below_new w4 (.cells #[.int .i64 QX, .int .i64 QY] 40)
      have hQ := Own.new2 w4 40 (.int .i64 QX) (.int .i64 QY)
      generalize w4.alloc (.cells #[.int .i64 QX, .int .i64 QY] 40) = w5 at k5 hQ ⊢
      generalize w4.heap.size = b2 at hQ ⊢
      have hP := hP.on k5
      have ha5 := ha4.on k5
      have hB5 := Below.call hB4 k5
      have hO5 := hO.on hB5
      have r0 : ∀ wz, Below w5.heap.size w5 wz → wz.cell? ⟨g, k * 2, none⟩ = some (.int .i64 X) ∧ wz.cell? ⟨g, k * 2 + 1, none⟩ = some (.int .i64 Y) := fun wz hwz => by
        obtain ⟨c0, c1⟩ := vCells (hO5.on hwz) hk6
        rw [← HX.out] at c0
        rw [← HY.out] at c1
        exact ⟨c0, c1⟩
      have haW := ha5
      rcases goodV_cases X Y with hg | hg
      case' inl =>
        have hd : decide (goodV X Y = 0) = true := by simp [hg]
        rw [hd]
        have hqx : QX = X := by rw [← HQ1.out, hd]; rfl
        have hqy : QY = Y := by rw [← HQ2.out, hd]; rfl
        rw [hqx, hqy] at hQ
        have HG := Lib.hid hg
        rw [hg]
        clear hg hd hqx hqy
        refine wp_region_boxes w5 [Spec.eq (.slice (some ⟨g, 0, none⟩) 6 6), Spec.eq (.int .i64 (k : Int)), Spec.eq (.pointer (some ⟨g, k * 2, none⟩)), Spec.eq (.agg #[.int .i64 X, .int .i64 Y]), Spec.eq (.int .i64 0), Spec.eq (.int .i64 0), Spec.eq (.bool false), Spec.eq (.bool false), Spec.eq (.bool true), Spec.eq (.int .i64 0), Spec.eq (.bool true), Spec.eq (.bool false), Spec.eq (.bool false), Spec.eq (.bool false), Spec.eq (.bool true), Spec.eq (.bool true), Spec.eq (.agg #[.int .i64 X, .int .i64 Y]), Spec.eq (.slice (some ⟨g, 0, none⟩) 6 6), Spec.eq (.int .i64 (k : Int)), Spec.eq (.pointer (some ⟨g, k * 2, none⟩)), Spec.eq (.agg #[.int .i64 X, .int .i64 Y]), Spec.eq (.bool false), Spec.eq (.bool false), Spec.eq (.bool false), Spec.eq (.bool false), Spec.eq (.bool true), Spec.eq (.bool false), Spec.eq (.bool false), Spec.eq undef, Spec.eq undef, Spec.eq undef, Spec.eq (.bool false), Spec.eq (.bool false), Spec.eq (.bool false), Spec.eq (.agg #[.bool a.x.p.neg, .slice a.x.p.A a.x.p.n a.x.p.c, .bool a.x.l.neg, .slice a.x.l.A a.x.l.n a.x.l.c, .bool a.y.p.neg, .slice a.y.p.A a.y.p.n a.y.p.c, .bool a.y.l.neg, .slice a.y.l.A a.y.l.n a.y.l.c]), Spec.eq (.agg #[.bool a.x.p.neg, .slice a.x.p.A a.x.p.n a.x.p.c, .bool a.x.l.neg, .slice a.x.l.A a.x.l.n a.x.l.c, .bool a.y.p.neg, .slice a.y.p.A a.y.p.n a.y.p.c, .bool a.y.l.neg, .slice a.y.l.A a.y.l.n a.y.l.c]), Spec.eq (.int .i64 0), Spec.eq (.bool false), Spec.eq (.bool false)]
            []
            (by kernel_rfl) (by kernel_rfl) rfl (by kernel_rfl) rfl (Below.drew (Below.refl _ _)) ?_ ?_ trivial ?_
        ·
          refine RegSteps.cons ?_ ?_
          · intro _ a w hC hF hD _ K hK
            have q9 : a.tmps[9]? = some (.slice (some ⟨g, 0, none⟩) 6 6) := hF 9 rfl
            clear hF hD
            refine want_none rfl ?_
            go_simp
            exact hK _ _ hC (Below.refl _ _) rfl
          refine RegSteps.cons ?_ ?_
          · intro _ a w hC hF hD _ K hK
            have q10 : a.tmps[10]? = some (.int .i64 (k : Int)) := hF 10 rfl
            clear hF hD
            refine want_none rfl ?_
            go_simp
            exact hK _ _ hC (Below.refl _ _) rfl
          refine RegSteps.cons ?_ ?_
          · intro _ a w hC hF hD _ K hK
            obtain ⟨_, q53, rfl⟩ := dep hD 0 rfl rfl rfl rfl
            obtain ⟨_, q54, rfl⟩ := dep hD 1 rfl rfl rfl rfl
            clear hF hD
            refine want_none rfl ?_
            go_simp
            exact hK _ _ hC (Below.refl _ _) rfl
          refine RegSteps.cons ?_ ?_
          · intro _ a w hC hF hD _ K hK
            obtain ⟨_, q55, rfl⟩ := dep hD 2 rfl rfl rfl rfl
            obtain ⟨l0, l1⟩ := r0 _ hC
            clear hF hD
            refine want_none rfl ?_
            go_simp
            exact hK _ _ hC (Below.refl _ _) rfl
          refine RegSteps.cons ?_ ?_
          · intro _ a w hC hF hD _ K hK
            obtain ⟨_, q56, rfl⟩ := dep hD 3 rfl rfl rfl rfl
            clear hF hD
            refine want_none rfl ?_
            go_simp
            refine (PValid_z HG.out).mono ?_
            rintro e w2 ⟨rfl, k⟩
            exact hK _ _ (Below.call hC k) k rfl
          refine RegSteps.cons ?_ ?_
          · intro _ a w hC hF hD _ K hK
            have q11 : a.tmps[11]? = some (.int .i64 0) := hF 11 rfl
            clear hF hD
            refine want_none rfl ?_
            go_simp
            exact hK _ _ hC (Below.refl _ _) rfl
          refine RegSteps.cons ?_ ?_
          · intro _ a w hC hF hD _ K hK
            obtain ⟨_, q57, rfl⟩ := dep hD 4 rfl rfl rfl rfl
            obtain ⟨_, q58, rfl⟩ := dep hD 5 rfl rfl rfl rfl
            clear hF hD
            refine want_none rfl ?_
            go_simp
            exact hK _ _ hC (Below.refl _ _) rfl
          refine RegSteps.cons ?_ ?_
          · intro _ a w hC hF hD _ K hK
            obtain ⟨_, q59, rfl⟩ := dep hD 6 rfl rfl rfl rfl
            clear hF hD
            refine want_none rfl ?_
            go_simp
            exact hK _ _ hC (Below.refl _ _) rfl
          refine RegSteps.cons ?_ ?_
          · intro _ a w hC hF hD _ K hK
            have q14 : a.tmps[14]? = some (.bool true) := hF 14 rfl
            obtain ⟨_, qg, rfl⟩ := dep hD 7 rfl rfl rfl rfl
            clear hF hD
            refine want_yes rfl rfl rfl qg ?_
            go_simp
            exact hK _ _ hC (Below.refl _ _) rfl
          refine RegSteps.cons ?_ ?_
          · intro _ a w hC hF hD _ K hK
            have q11 : a.tmps[11]? = some (.int .i64 0) := hF 11 rfl
            obtain ⟨_, qg, rfl⟩ := dep hD 7 rfl rfl rfl rfl
            clear hF hD
            refine want_yes rfl rfl rfl qg ?_
            go_simp
            exact hK _ _ hC (Below.refl _ _) rfl
          refine RegSteps.cons ?_ ?_
          · intro _ a w hC hF hD _ K hK
            obtain ⟨_, q62, rfl⟩ := dep hD 9 rfl rfl rfl rfl
            obtain ⟨_, qg, rfl⟩ := dep hD 7 rfl rfl rfl rfl
            clear hF hD
            refine want_yes rfl rfl rfl qg ?_
            go_simp
            exact hK _ _ hC (Below.refl _ _) rfl
          refine RegSteps.cons ?_ ?_
          · intro _ a w hC hF hD _ K hK
            obtain ⟨_, q61, rfl⟩ := dep hD 8 rfl rfl rfl rfl
            obtain ⟨_, q63, rfl⟩ := dep hD 10 rfl rfl rfl rfl
            obtain ⟨_, qg, rfl⟩ := dep hD 7 rfl rfl rfl rfl
            clear hF hD
            refine want_yes rfl rfl rfl qg ?_
            go_simp
            exact hK _ _ hC (Below.refl _ _) rfl
          refine RegSteps.cons ?_ ?_
          · intro _ a w hC hF hD _ K hK
            obtain ⟨_, q60, rfl⟩ := dep hD 7 rfl rfl rfl rfl
            obtain ⟨_, q64, rfl⟩ := dep hD 11 rfl rfl rfl rfl
            clear hF hD
            refine want_none rfl ?_
            go_simp
            exact hK _ _ hC (Below.refl _ _) rfl
          refine RegSteps.cons ?_ ?_
          · intro _ a w hC hF hD _ K hK
            obtain ⟨_, q65, rfl⟩ := dep hD 12 rfl rfl rfl rfl
            clear hF hD
            refine want_none rfl ?_
            go_simp
            exact hK _ _ hC (Below.refl _ _) rfl
          refine RegSteps.cons ?_ ?_
          · intro _ a w hC hF hD _ K hK
            have q14 : a.tmps[14]? = some (.bool true) := hF 14 rfl
            obtain ⟨_, qg, rfl⟩ := dep hD 13 rfl rfl rfl rfl
            clear hF hD
            refine want_yes rfl rfl rfl qg ?_
            go_simp
            exact hK _ _ hC (Below.refl _ _) rfl
          refine RegSteps.cons ?_ ?_
          · intro _ a w hC hF hD _ K hK
            obtain ⟨_, q67, rfl⟩ := dep hD 14 rfl rfl rfl rfl
            obtain ⟨_, qg, rfl⟩ := dep hD 13 rfl rfl rfl rfl
            clear hF hD
            refine want_yes rfl rfl rfl qg ?_
            go_simp
            exact hK _ _ hC (Below.refl _ _) rfl
          refine RegSteps.cons ?_ ?_
          · intro _ a w hC hF hD _ K hK
            have q13 : a.tmps[13]? = some (.pointer (some ⟨b2, 0, none⟩)) := hF 13 rfl
            obtain ⟨_, qg, rfl⟩ := dep hD 15 rfl rfl rfl rfl
            have l0 := (hQ.on hC).c0
            have l1 := (hQ.on hC).c1
            clear hF hD
            refine want_yes rfl rfl rfl qg ?_
            go_simp
            exact hK _ _ hC (Below.refl _ _) rfl
          refine RegSteps.cons ?_ ?_
          · intro _ a w hC hF hD _ K hK
            have q9 : a.tmps[9]? = some (.slice (some ⟨g, 0, none⟩) 6 6) := hF 9 rfl
            obtain ⟨_, qg, rfl⟩ := dep hD 15 rfl rfl rfl rfl
            clear hF hD
            refine want_yes rfl rfl rfl qg ?_
            go_simp
            exact hK _ _ hC (Below.refl _ _) rfl
          refine RegSteps.cons ?_ ?_
          · intro _ a w hC hF hD _ K hK
            have q10 : a.tmps[10]? = some (.int .i64 (k : Int)) := hF 10 rfl
            obtain ⟨_, qg, rfl⟩ := dep hD 15 rfl rfl rfl rfl
            clear hF hD
            refine want_yes rfl rfl rfl qg ?_
            go_simp
            exact hK _ _ hC (Below.refl _ _) rfl
          refine RegSteps.cons ?_ ?_
          · intro _ a w hC hF hD _ K hK
            obtain ⟨_, q70, rfl⟩ := dep hD 17 rfl rfl rfl rfl
            obtain ⟨_, q71, rfl⟩ := dep hD 18 rfl rfl rfl rfl
            obtain ⟨_, qg, rfl⟩ := dep hD 15 rfl rfl rfl rfl
            clear hF hD
            refine want_yes rfl rfl rfl qg ?_
            go_simp
            exact hK _ _ hC (Below.refl _ _) rfl
          refine RegSteps.cons ?_ ?_
          · intro _ a w hC hF hD _ K hK
            obtain ⟨_, q72, rfl⟩ := dep hD 19 rfl rfl rfl rfl
            obtain ⟨_, qg, rfl⟩ := dep hD 15 rfl rfl rfl rfl
            obtain ⟨l0, l1⟩ := r0 _ hC
            clear hF hD
            refine want_yes rfl rfl rfl qg ?_
            go_simp
            exact hK _ _ hC (Below.refl _ _) rfl
          refine RegSteps.cons ?_ ?_
          · intro _ a w hC hF hD _ K hK
            obtain ⟨_, q69, rfl⟩ := dep hD 16 rfl rfl rfl rfl
            obtain ⟨_, q73, rfl⟩ := dep hD 20 rfl rfl rfl rfl
            obtain ⟨_, qg, rfl⟩ := dep hD 15 rfl rfl rfl rfl
            clear hF hD
            refine want_yes rfl rfl rfl qg ?_
            go_simp
            exact hK _ _ hC (Below.refl _ _) rfl
          refine RegSteps.cons ?_ ?_
          · intro _ a w hC hF hD _ K hK
            obtain ⟨_, q68, rfl⟩ := dep hD 15 rfl rfl rfl rfl
            obtain ⟨_, q74, rfl⟩ := dep hD 21 rfl rfl rfl rfl
            obtain ⟨_, qg, rfl⟩ := dep hD 13 rfl rfl rfl rfl
            clear hF hD
            refine want_yes rfl rfl rfl qg ?_
            go_simp
            exact hK _ _ hC (Below.refl _ _) rfl
          refine RegSteps.cons ?_ ?_
          · intro _ a w hC hF hD _ K hK
            obtain ⟨_, q66, rfl⟩ := dep hD 13 rfl rfl rfl rfl
            obtain ⟨_, q75, rfl⟩ := dep hD 22 rfl rfl rfl rfl
            clear hF hD
            refine want_none rfl ?_
            go_simp
            exact hK _ _ hC (Below.refl _ _) rfl
          refine RegSteps.cons ?_ ?_
          · intro _ a w hC hF hD _ K hK
            obtain ⟨_, q76, rfl⟩ := dep hD 23 rfl rfl rfl rfl
            clear hF hD
            refine want_none rfl ?_
            go_simp
            exact hK _ _ hC (Below.refl _ _) rfl
          refine RegSteps.cons ?_ ?_
          · intro _ a w hC hF hD _ K hK
            have q14 : a.tmps[14]? = some (.bool true) := hF 14 rfl
            obtain ⟨_, qg, rfl⟩ := dep hD 24 rfl rfl rfl rfl
            clear hF hD
            refine want_yes rfl rfl rfl qg ?_
            go_simp
            exact hK _ _ hC (Below.refl _ _) rfl
          refine RegSteps.cons ?_ ?_
          · intro _ a w hC hF hD _ K hK
            obtain ⟨_, q78, rfl⟩ := dep hD 25 rfl rfl rfl rfl
            obtain ⟨_, qg, rfl⟩ := dep hD 24 rfl rfl rfl rfl
            clear hF hD
            refine want_yes rfl rfl rfl qg ?_
            go_simp
            exact hK _ _ hC (Below.refl _ _) rfl
          refine RegSteps.cons ?_ ?_
          · intro _ a w hC hF hD _ K hK
            obtain ⟨_, q79, rfl⟩ := dep hD 26 rfl rfl rfl rfl
            obtain ⟨_, qg, rfl⟩ := dep hD 24 rfl rfl rfl rfl
            clear hF hD
            refine want_yes rfl rfl rfl qg ?_
            go_simp
            exact hK _ _ hC (Below.refl _ _) rfl
          refine RegSteps.cons ?_ ?_
          · exact fun _ => step_no (c := false) rfl rfl rfl rfl rfl (fun _ _ h => h) rfl (fun _ => rfl)
          refine RegSteps.cons ?_ ?_
          · exact fun _ => step_no (c := false) rfl rfl rfl rfl rfl (fun _ _ h => h) rfl (fun _ => rfl)
          refine RegSteps.cons ?_ ?_
          · exact fun _ => step_no (c := false) rfl rfl rfl rfl rfl (fun _ _ h => h) rfl (fun _ => rfl)
          refine RegSteps.cons ?_ ?_
          · intro _ a w hC hF hD _ K hK
            obtain ⟨_, q80, rfl⟩ := dep hD 27 rfl rfl rfl rfl
            obtain ⟨_, q83, rfl⟩ := dep hD 30 rfl rfl rfl rfl
            obtain ⟨_, qg, rfl⟩ := dep hD 24 rfl rfl rfl rfl
            clear hF hD
            refine want_yes rfl rfl rfl qg ?_
            go_simp
            exact hK _ _ hC (Below.refl _ _) rfl
          refine RegSteps.cons ?_ ?_
          · intro _ a w hC hF hD _ K hK
            obtain ⟨_, q77, rfl⟩ := dep hD 24 rfl rfl rfl rfl
            obtain ⟨_, q84, rfl⟩ := dep hD 31 rfl rfl rfl rfl
            clear hF hD
            refine want_none rfl ?_
            go_simp
            exact hK _ _ hC (Below.refl _ _) rfl
          refine RegSteps.cons ?_ ?_
          · intro _ a w hC hF hD _ K hK
            obtain ⟨_, q85, rfl⟩ := dep hD 32 rfl rfl rfl rfl
            clear hF hD
            refine want_none rfl ?_
            go_simp
            exact hK _ _ hC (Below.refl _ _) rfl
          refine RegSteps.cons ?_ ?_
          · intro _ a w hC hF hD _ K hK
            have q12 : a.tmps[12]? = some (.pointer (some ⟨b1, 0, none⟩)) := hF 12 rfl
            obtain ⟨_, qg, rfl⟩ := dep hD 33 rfl rfl rfl rfl
            have l0 := (hP.on hC).c0
            have l1 := (hP.on hC).c1
            have l2 := (hP.on hC).c2
            have l3 := (hP.on hC).c3
            have l4 := (hP.on hC).c4
            have l5 := (hP.on hC).c5
            have l6 := (hP.on hC).c6
            have l7 := (hP.on hC).c7
            clear hF hD
            refine want_yes rfl rfl rfl qg ?_
            go_simp
            exact hK _ _ hC (Below.refl _ _) rfl
          refine RegSteps.cons ?_ ?_
          · intro _ a w hC hF hD _ K hK
            have q12 : a.tmps[12]? = some (.pointer (some ⟨b1, 0, none⟩)) := hF 12 rfl
            obtain ⟨_, qg, rfl⟩ := dep hD 33 rfl rfl rfl rfl
            have l0 := (hP.on hC).c0
            have l1 := (hP.on hC).c1
            have l2 := (hP.on hC).c2
            have l3 := (hP.on hC).c3
            have l4 := (hP.on hC).c4
            have l5 := (hP.on hC).c5
            have l6 := (hP.on hC).c6
            have l7 := (hP.on hC).c7
            clear hF hD
            refine want_yes rfl rfl rfl qg ?_
            go_simp
            exact hK _ _ hC (Below.refl _ _) rfl
          refine RegSteps.cons ?_ ?_
          · intro _ a w hC hF hD _ K hK
            obtain ⟨_, q87, rfl⟩ := dep hD 34 rfl rfl rfl rfl
            obtain ⟨_, q88, rfl⟩ := dep hD 35 rfl rfl rfl rfl
            obtain ⟨_, qg, rfl⟩ := dep hD 33 rfl rfl rfl rfl
            clear hF hD
            refine want_yes rfl rfl rfl qg ?_
            go_simp
            refine (PCompare_same (ha5.on hC)).mono ?_
            rintro e w2 ⟨rfl, k⟩
            exact hK _ _ (Below.call hC k) k rfl
          refine RegSteps.cons ?_ ?_
          · intro _ a w hC hF hD _ K hK
            obtain ⟨_, q89, rfl⟩ := dep hD 36 rfl rfl rfl rfl
            obtain ⟨_, qg, rfl⟩ := dep hD 33 rfl rfl rfl rfl
            clear hF hD
            refine want_yes rfl rfl rfl qg ?_
            go_simp
            exact hK _ _ hC (Below.refl _ _) rfl
          refine RegSteps.cons ?_ ?_
          · intro _ a w hC hF hD _ K hK
            obtain ⟨_, q86, rfl⟩ := dep hD 33 rfl rfl rfl rfl
            obtain ⟨_, q90, rfl⟩ := dep hD 37 rfl rfl rfl rfl
            clear hF hD
            refine want_none rfl ?_
            go_simp
            exact hK _ _ hC (Below.refl _ _) rfl
          exact RegSteps.nil
        · exact trivial
        intro w6 gs hC6 hgl hbf
        obtain rfl : gs = [] := List.length_eq_zero_iff.1 hgl
        rintro _ rfl _ rfl _ rfl _ rfl _ rfl _ rfl _ rfl _ rfl _ rfl _ rfl _ rfl _ rfl _ rfl _ rfl _ rfl _ rfl _ rfl _ rfl _ rfl _ rfl _ rfl _ rfl _ rfl _ rfl _ rfl _ rfl _ rfl _ rfl _ rfl _ rfl _ rfl _ rfl _ rfl _ rfl _ rfl _ rfl _ rfl _ rfl _ rfl
        simp only [FinOK, Act.put, List.setIfInBounds_toArray, List.set_cons_zero, List.set_cons_succ]
      case' inr =>
        have hd : decide (goodV X Y = 0) = false := by simp [hg]
        rw [hd]
        have hqx : QX = 0 := by rw [← HQ1.out, hd]; rfl
        have hqy : QY = 0 := by rw [← HQ2.out, hd]; rfl
        rw [hqx, hqy] at hQ
        have HG := Lib.hid hg
        rw [hg]
        clear hg hd hqx hqy
        refine wp_region_boxes w5 [Spec.eq (.slice (some ⟨g, 0, none⟩) 6 6), Spec.eq (.int .i64 (k : Int)), Spec.eq (.pointer (some ⟨g, k * 2, none⟩)), Spec.eq (.agg #[.int .i64 X, .int .i64 Y]), Spec.eq (.int .i64 5), Spec.eq (.int .i64 5), Spec.eq (.bool false), Spec.eq (.bool false), Spec.eq (.bool false), Spec.eq (.int .i64 5), Spec.eq (.bool false), Spec.eq (.bool false), Spec.eq (.bool false), Spec.eq (.bool false), Spec.eq (.bool false), Spec.eq (.bool false), Spec.eq undef, Spec.eq undef, Spec.eq undef, Spec.eq undef, Spec.eq undef, Spec.eq undef, Spec.eq (.bool false), Spec.eq (.bool false), Spec.eq (.bool false), Spec.eq (.bool false), Spec.eq (.bool true), Spec.eq (.bool true), Spec.eq (.agg #[.int .i64 0, .int .i64 0]), Spec.eq (.agg #[.int .i64 0, .int .i64 0]), Spec.eq (.bool false), Spec.eq (.bool false), Spec.eq (.bool false), Spec.eq (.bool false), Spec.eq (.agg #[.bool a.x.p.neg, .slice a.x.p.A a.x.p.n a.x.p.c, .bool a.x.l.neg, .slice a.x.l.A a.x.l.n a.x.l.c, .bool a.y.p.neg, .slice a.y.p.A a.y.p.n a.y.p.c, .bool a.y.l.neg, .slice a.y.l.A a.y.l.n a.y.l.c]), Spec.eq (.agg #[.bool a.x.p.neg, .slice a.x.p.A a.x.p.n a.x.p.c, .bool a.x.l.neg, .slice a.x.l.A a.x.l.n a.x.l.c, .bool a.y.p.neg, .slice a.y.p.A a.y.p.n a.y.p.c, .bool a.y.l.neg, .slice a.y.l.A a.y.l.n a.y.l.c]), Spec.eq (.int .i64 0), Spec.eq (.bool false), Spec.eq (.bool false)]
            []
            (by kernel_rfl) (by kernel_rfl) rfl (by kernel_rfl) rfl (Below.drew (Below.refl _ _)) ?_ ?_ trivial ?_
        ·
          refine RegSteps.cons ?_ ?_
          · intro _ a w hC hF hD _ K hK
            have q9 : a.tmps[9]? = some (.slice (some ⟨g, 0, none⟩) 6 6) := hF 9 rfl
            clear hF hD
            refine want_none rfl ?_
            go_simp
            exact hK _ _ hC (Below.refl _ _) rfl
          refine RegSteps.cons ?_ ?_
          · intro _ a w hC hF hD _ K hK
            have q10 : a.tmps[10]? = some (.int .i64 (k : Int)) := hF 10 rfl
            clear hF hD
            refine want_none rfl ?_
            go_simp
            exact hK _ _ hC (Below.refl _ _) rfl
          refine RegSteps.cons ?_ ?_
          · intro _ a w hC hF hD _ K hK
            obtain ⟨_, q53, rfl⟩ := dep hD 0 rfl rfl rfl rfl
            obtain ⟨_, q54, rfl⟩ := dep hD 1 rfl rfl rfl rfl
            clear hF hD
            refine want_none rfl ?_
            go_simp
            exact hK _ _ hC (Below.refl _ _) rfl
          refine RegSteps.cons ?_ ?_
          · intro _ a w hC hF hD _ K hK
            obtain ⟨_, q55, rfl⟩ := dep hD 2 rfl rfl rfl rfl
            obtain ⟨l0, l1⟩ := r0 _ hC
            clear hF hD
            refine want_none rfl ?_
            go_simp
            exact hK _ _ hC (Below.refl _ _) rfl
          refine RegSteps.cons ?_ ?_
          · intro _ a w hC hF hD _ K hK
            obtain ⟨_, q56, rfl⟩ := dep hD 3 rfl rfl rfl rfl
            clear hF hD
            refine want_none rfl ?_
            go_simp
            refine (PValid_z HG.out).mono ?_
            rintro e w2 ⟨rfl, k⟩
            exact hK _ _ (Below.call hC k) k rfl
          refine RegSteps.cons ?_ ?_
          · intro _ a w hC hF hD _ K hK
            have q11 : a.tmps[11]? = some (.int .i64 5) := hF 11 rfl
            clear hF hD
            refine want_none rfl ?_
            go_simp
            exact hK _ _ hC (Below.refl _ _) rfl
          refine RegSteps.cons ?_ ?_
          · intro _ a w hC hF hD _ K hK
            obtain ⟨_, q57, rfl⟩ := dep hD 4 rfl rfl rfl rfl
            obtain ⟨_, q58, rfl⟩ := dep hD 5 rfl rfl rfl rfl
            clear hF hD
            refine want_none rfl ?_
            go_simp
            exact hK _ _ hC (Below.refl _ _) rfl
          refine RegSteps.cons ?_ ?_
          · intro _ a w hC hF hD _ K hK
            obtain ⟨_, q59, rfl⟩ := dep hD 6 rfl rfl rfl rfl
            clear hF hD
            refine want_none rfl ?_
            go_simp
            exact hK _ _ hC (Below.refl _ _) rfl
          refine RegSteps.cons ?_ ?_
          · intro _ a w hC hF hD _ K hK
            have q14 : a.tmps[14]? = some (.bool false) := hF 14 rfl
            obtain ⟨_, qg, rfl⟩ := dep hD 7 rfl rfl rfl rfl
            clear hF hD
            refine want_yes rfl rfl rfl qg ?_
            go_simp
            exact hK _ _ hC (Below.refl _ _) rfl
          refine RegSteps.cons ?_ ?_
          · intro _ a w hC hF hD _ K hK
            have q11 : a.tmps[11]? = some (.int .i64 5) := hF 11 rfl
            obtain ⟨_, qg, rfl⟩ := dep hD 7 rfl rfl rfl rfl
            clear hF hD
            refine want_yes rfl rfl rfl qg ?_
            go_simp
            exact hK _ _ hC (Below.refl _ _) rfl
          refine RegSteps.cons ?_ ?_
          · intro _ a w hC hF hD _ K hK
            obtain ⟨_, q62, rfl⟩ := dep hD 9 rfl rfl rfl rfl
            obtain ⟨_, qg, rfl⟩ := dep hD 7 rfl rfl rfl rfl
            clear hF hD
            refine want_yes rfl rfl rfl qg ?_
            go_simp
            exact hK _ _ hC (Below.refl _ _) rfl
          refine RegSteps.cons ?_ ?_
          · intro _ a w hC hF hD _ K hK
            obtain ⟨_, q61, rfl⟩ := dep hD 8 rfl rfl rfl rfl
            obtain ⟨_, q63, rfl⟩ := dep hD 10 rfl rfl rfl rfl
            obtain ⟨_, qg, rfl⟩ := dep hD 7 rfl rfl rfl rfl
            clear hF hD
            refine want_yes rfl rfl rfl qg ?_
            go_simp
            exact hK _ _ hC (Below.refl _ _) rfl
          refine RegSteps.cons ?_ ?_
          · intro _ a w hC hF hD _ K hK
            obtain ⟨_, q60, rfl⟩ := dep hD 7 rfl rfl rfl rfl
            obtain ⟨_, q64, rfl⟩ := dep hD 11 rfl rfl rfl rfl
            clear hF hD
            refine want_none rfl ?_
            go_simp
            exact hK _ _ hC (Below.refl _ _) rfl
          refine RegSteps.cons ?_ ?_
          · intro _ a w hC hF hD _ K hK
            obtain ⟨_, q65, rfl⟩ := dep hD 12 rfl rfl rfl rfl
            clear hF hD
            refine want_none rfl ?_
            go_simp
            exact hK _ _ hC (Below.refl _ _) rfl
          refine RegSteps.cons ?_ ?_
          · intro _ a w hC hF hD _ K hK
            have q14 : a.tmps[14]? = some (.bool false) := hF 14 rfl
            obtain ⟨_, qg, rfl⟩ := dep hD 13 rfl rfl rfl rfl
            clear hF hD
            refine want_yes rfl rfl rfl qg ?_
            go_simp
            exact hK _ _ hC (Below.refl _ _) rfl
          refine RegSteps.cons ?_ ?_
          · intro _ a w hC hF hD _ K hK
            obtain ⟨_, q67, rfl⟩ := dep hD 14 rfl rfl rfl rfl
            obtain ⟨_, qg, rfl⟩ := dep hD 13 rfl rfl rfl rfl
            clear hF hD
            refine want_yes rfl rfl rfl qg ?_
            go_simp
            exact hK _ _ hC (Below.refl _ _) rfl
          refine RegSteps.cons ?_ ?_
          · exact fun _ => step_no (c := false) rfl rfl rfl rfl rfl (fun _ _ h => h) rfl (fun _ => rfl)
          refine RegSteps.cons ?_ ?_
          · exact fun _ => step_no (c := false) rfl rfl rfl rfl rfl (fun _ _ h => h) rfl (fun _ => rfl)
          refine RegSteps.cons ?_ ?_
          · exact fun _ => step_no (c := false) rfl rfl rfl rfl rfl (fun _ _ h => h) rfl (fun _ => rfl)
          refine RegSteps.cons ?_ ?_
          · exact fun _ => step_no (c := false) rfl rfl rfl rfl rfl (fun _ _ h => h) rfl (fun _ => rfl)
          refine RegSteps.cons ?_ ?_
          · exact fun _ => step_no (c := false) rfl rfl rfl rfl rfl (fun _ _ h => h) rfl (fun _ => rfl)
          refine RegSteps.cons ?_ ?_
          · exact fun _ => step_no (c := false) rfl rfl rfl rfl rfl (fun _ _ h => h) rfl (fun _ => rfl)
          refine RegSteps.cons ?_ ?_
          · intro _ a w hC hF hD _ K hK
            obtain ⟨_, q68, rfl⟩ := dep hD 15 rfl rfl rfl rfl
            obtain ⟨_, q74, rfl⟩ := dep hD 21 rfl rfl rfl rfl
            obtain ⟨_, qg, rfl⟩ := dep hD 13 rfl rfl rfl rfl
            clear hF hD
            refine want_yes rfl rfl rfl qg ?_
            go_simp
            exact hK _ _ hC (Below.refl _ _) rfl
          refine RegSteps.cons ?_ ?_
          · intro _ a w hC hF hD _ K hK
            obtain ⟨_, q66, rfl⟩ := dep hD 13 rfl rfl rfl rfl
            obtain ⟨_, q75, rfl⟩ := dep hD 22 rfl rfl rfl rfl
            clear hF hD
            refine want_none rfl ?_
            go_simp
            exact hK _ _ hC (Below.refl _ _) rfl
          refine RegSteps.cons ?_ ?_
          · intro _ a w hC hF hD _ K hK
            obtain ⟨_, q76, rfl⟩ := dep hD 23 rfl rfl rfl rfl
            clear hF hD
            refine want_none rfl ?_
            go_simp
            exact hK _ _ hC (Below.refl _ _) rfl
          refine RegSteps.cons ?_ ?_
          · intro _ a w hC hF hD _ K hK
            have q14 : a.tmps[14]? = some (.bool false) := hF 14 rfl
            obtain ⟨_, qg, rfl⟩ := dep hD 24 rfl rfl rfl rfl
            clear hF hD
            refine want_yes rfl rfl rfl qg ?_
            go_simp
            exact hK _ _ hC (Below.refl _ _) rfl
          refine RegSteps.cons ?_ ?_
          · intro _ a w hC hF hD _ K hK
            obtain ⟨_, q78, rfl⟩ := dep hD 25 rfl rfl rfl rfl
            obtain ⟨_, qg, rfl⟩ := dep hD 24 rfl rfl rfl rfl
            clear hF hD
            refine want_yes rfl rfl rfl qg ?_
            go_simp
            exact hK _ _ hC (Below.refl _ _) rfl
          refine RegSteps.cons ?_ ?_
          · intro _ a w hC hF hD _ K hK
            obtain ⟨_, q79, rfl⟩ := dep hD 26 rfl rfl rfl rfl
            obtain ⟨_, qg, rfl⟩ := dep hD 24 rfl rfl rfl rfl
            clear hF hD
            refine want_yes rfl rfl rfl qg ?_
            go_simp
            exact hK _ _ hC (Below.refl _ _) rfl
          refine RegSteps.cons ?_ ?_
          · intro _ a w hC hF hD _ K hK
            have q13 : a.tmps[13]? = some (.pointer (some ⟨b2, 0, none⟩)) := hF 13 rfl
            obtain ⟨_, qg, rfl⟩ := dep hD 27 rfl rfl rfl rfl
            have l0 := (hQ.on hC).c0
            have l1 := (hQ.on hC).c1
            clear hF hD
            refine want_yes rfl rfl rfl qg ?_
            go_simp
            exact hK _ _ hC (Below.refl _ _) rfl
          refine RegSteps.cons ?_ ?_
          · intro _ a w hC hF hD _ K hK
            obtain ⟨_, qg, rfl⟩ := dep hD 27 rfl rfl rfl rfl
            clear hF hD
            refine want_yes rfl rfl rfl qg ?_
            go_simp
            exact hK _ _ hC (Below.refl _ _) rfl
          refine RegSteps.cons ?_ ?_
          · intro _ a w hC hF hD _ K hK
            obtain ⟨_, q81, rfl⟩ := dep hD 28 rfl rfl rfl rfl
            obtain ⟨_, q82, rfl⟩ := dep hD 29 rfl rfl rfl rfl
            obtain ⟨_, qg, rfl⟩ := dep hD 27 rfl rfl rfl rfl
            clear hF hD
            refine want_yes rfl rfl rfl qg ?_
            go_simp
            exact hK _ _ hC (Below.refl _ _) rfl
          refine RegSteps.cons ?_ ?_
          · intro _ a w hC hF hD _ K hK
            obtain ⟨_, q80, rfl⟩ := dep hD 27 rfl rfl rfl rfl
            obtain ⟨_, q83, rfl⟩ := dep hD 30 rfl rfl rfl rfl
            obtain ⟨_, qg, rfl⟩ := dep hD 24 rfl rfl rfl rfl
            clear hF hD
            refine want_yes rfl rfl rfl qg ?_
            go_simp
            exact hK _ _ hC (Below.refl _ _) rfl
          refine RegSteps.cons ?_ ?_
          · intro _ a w hC hF hD _ K hK
            obtain ⟨_, q77, rfl⟩ := dep hD 24 rfl rfl rfl rfl
            obtain ⟨_, q84, rfl⟩ := dep hD 31 rfl rfl rfl rfl
            clear hF hD
            refine want_none rfl ?_
            go_simp
            exact hK _ _ hC (Below.refl _ _) rfl
          refine RegSteps.cons ?_ ?_
          · intro _ a w hC hF hD _ K hK
            obtain ⟨_, q85, rfl⟩ := dep hD 32 rfl rfl rfl rfl
            clear hF hD
            refine want_none rfl ?_
            go_simp
            exact hK _ _ hC (Below.refl _ _) rfl
          refine RegSteps.cons ?_ ?_
          · intro _ a w hC hF hD _ K hK
            have q12 : a.tmps[12]? = some (.pointer (some ⟨b1, 0, none⟩)) := hF 12 rfl
            obtain ⟨_, qg, rfl⟩ := dep hD 33 rfl rfl rfl rfl
            have l0 := (hP.on hC).c0
            have l1 := (hP.on hC).c1
            have l2 := (hP.on hC).c2
            have l3 := (hP.on hC).c3
            have l4 := (hP.on hC).c4
            have l5 := (hP.on hC).c5
            have l6 := (hP.on hC).c6
            have l7 := (hP.on hC).c7
            clear hF hD
            refine want_yes rfl rfl rfl qg ?_
            go_simp
            exact hK _ _ hC (Below.refl _ _) rfl
          refine RegSteps.cons ?_ ?_
          · intro _ a w hC hF hD _ K hK
            have q12 : a.tmps[12]? = some (.pointer (some ⟨b1, 0, none⟩)) := hF 12 rfl
            obtain ⟨_, qg, rfl⟩ := dep hD 33 rfl rfl rfl rfl
            have l0 := (hP.on hC).c0
            have l1 := (hP.on hC).c1
            have l2 := (hP.on hC).c2
            have l3 := (hP.on hC).c3
            have l4 := (hP.on hC).c4
            have l5 := (hP.on hC).c5
            have l6 := (hP.on hC).c6
            have l7 := (hP.on hC).c7
            clear hF hD
            refine want_yes rfl rfl rfl qg ?_
            go_simp
            exact hK _ _ hC (Below.refl _ _) rfl
          refine RegSteps.cons ?_ ?_
          · intro _ a w hC hF hD _ K hK
            obtain ⟨_, q87, rfl⟩ := dep hD 34 rfl rfl rfl rfl
            obtain ⟨_, q88, rfl⟩ := dep hD 35 rfl rfl rfl rfl
            obtain ⟨_, qg, rfl⟩ := dep hD 33 rfl rfl rfl rfl
            clear hF hD
            refine want_yes rfl rfl rfl qg ?_
            go_simp
            refine (PCompare_same (ha5.on hC)).mono ?_
            rintro e w2 ⟨rfl, k⟩
            exact hK _ _ (Below.call hC k) k rfl
          refine RegSteps.cons ?_ ?_
          · intro _ a w hC hF hD _ K hK
            obtain ⟨_, q89, rfl⟩ := dep hD 36 rfl rfl rfl rfl
            obtain ⟨_, qg, rfl⟩ := dep hD 33 rfl rfl rfl rfl
            clear hF hD
            refine want_yes rfl rfl rfl qg ?_
            go_simp
            exact hK _ _ hC (Below.refl _ _) rfl
          refine RegSteps.cons ?_ ?_
          · intro _ a w hC hF hD _ K hK
            obtain ⟨_, q86, rfl⟩ := dep hD 33 rfl rfl rfl rfl
            obtain ⟨_, q90, rfl⟩ := dep hD 37 rfl rfl rfl rfl
            clear hF hD
            refine want_none rfl ?_
            go_simp
            exact hK _ _ hC (Below.refl _ _) rfl
          exact RegSteps.nil
        · exact trivial
        intro w6 gs hC6 hgl hbf
        obtain rfl : gs = [] := List.length_eq_zero_iff.1 hgl
        rintro _ rfl _ rfl _ rfl _ rfl _ rfl _ rfl _ rfl _ rfl _ rfl _ rfl _ rfl _ rfl _ rfl _ rfl _ rfl _ rfl _ rfl _ rfl _ rfl _ rfl _ rfl _ rfl _ rfl _ rfl _ rfl _ rfl _ rfl _ rfl _ rfl _ rfl _ rfl _ rfl _ rfl _ rfl _ rfl _ rfl _ rfl _ rfl _ rfl
        simp only [FinOK, Act.put, List.setIfInBounds_toArray, List.set_cons_zero, List.set_cons_succ]
      all_goals
        have hB6 := Below.call hB5 hC6
        clear hQ hP ha5 haW r0 HG
        go_wp2_with fail
        obtain ⟨wo, rfl⟩ : ∃ wo : World, wo = wr := ⟨_, rfl⟩
        go_loopw [15] (fun i wr => ∃ m : Nat, m ≤ 6 ∧ i = .int .i64 m ∧ Below W.heap.size W wr) (fun i _ => 6 - (intOf i).toNat)
        case atStart => exact ⟨0, by omega, rfl, hB6⟩
        case round =>
          obtain ⟨m, hm, rfl, hbi⟩ := hrel
          by_cases hm6 : m < 6
          · obtain ⟨hx2, hy2⟩ := hin m
            obtain ⟨X2, hX2⟩ : ∃ X2, X2 = vX x y u m := ⟨_, rfl⟩
            obtain ⟨Y2, hY2⟩ : ∃ Y2, Y2 = vY y z m := ⟨_, rfl⟩
            have HX2 := Lib.hid hX2
            have HY2 := Lib.hid hY2
            have hOi := hO.on hbi
            have ri : ∀ wz, Below wr.heap.size wr wz → wz.cell? ⟨g, k * 2, none⟩ = some (.int .i64 X) ∧ wz.cell? ⟨g, k * 2 + 1, none⟩ = some (.int .i64 Y) := fun wz hwz => by
              obtain ⟨c0, c1⟩ := vCells (hOi.on hwz) hk6
              rw [← HX.out] at c0
              rw [← HY.out] at c1
              exact ⟨c0, c1⟩
            have rk : ∀ wz, Below wr.heap.size wr wz → wz.cell? ⟨g, m * 2, none⟩ = some (.int .i64 X2) ∧ wz.cell? ⟨g, m * 2 + 1, none⟩ = some (.int .i64 Y2) := fun wz hwz => by
              obtain ⟨c0, c1⟩ := vCells (hOi.on hwz) hm6
              rw [← HX2.out] at c0
              rw [← HY2.out] at c1
              exact ⟨c0, c1⟩
            clear hX2 hY2 hx2 hy2
            have m0 : (0 : Int) ≤ (m : Int) := by omega
            have m6 : (m : Int) < 6 := by omega
            go_upto_region 13 with fail
            refine wp_region_boxes wr [Spec.eq (.slice (some ⟨g, 0, none⟩) 6 6), Spec.eq (.int .i64 (k : Int)), Spec.eq (.pointer (some ⟨g, k * 2, none⟩)), Spec.eq (.agg #[.int .i64 X, .int .i64 Y]), Spec.eq (.slice (some ⟨g, 0, none⟩) 6 6), Spec.eq (.int .i64 (m : Int)), Spec.eq (.pointer (some ⟨g, m * 2, none⟩)), Spec.eq (.agg #[.int .i64 X2, .int .i64 Y2]), Spec.eq (.agg #[.int .i64 X, .int .i64 Y, .int .i64 X2, .int .i64 Y2]), Spec.any, Spec.any]
                [{ A := 9, j := 10, t := 16, T := 56, zs := [.int .i64 0, .int .i64 0, .int .i64 0, .int .i64 0], X := fun us _ => us = [.int .i64 X, .int .i64 Y, .int .i64 X2, .int .i64 Y2], up := fun e _ => e }]
                (by kernel_rfl) (by kernel_rfl) rfl (by kernel_rfl) rfl (Below.drew (Below.refl _ _)) ?_ ?_ ⟨rfl, rfl, trivial⟩ ?_
            ·
              refine RegSteps.cons ?_ ?_
              · intro _ a w hC hF hD _ K hK
                have q9 : a.tmps[9]? = some (.slice (some ⟨g, 0, none⟩) 6 6) := hF 9 rfl
                clear hF hD
                refine want_none rfl ?_
                go_simp
                exact hK _ _ hC (Below.refl _ _) rfl
              refine RegSteps.cons ?_ ?_
              · intro _ a w hC hF hD _ K hK
                have q10 : a.tmps[10]? = some (.int .i64 (k : Int)) := hF 10 rfl
                clear hF hD
                refine want_none rfl ?_
                go_simp
                exact hK _ _ hC (Below.refl _ _) rfl
              refine RegSteps.cons ?_ ?_
              · intro _ a w hC hF hD _ K hK
                obtain ⟨_, q98, rfl⟩ := dep hD 0 rfl rfl rfl rfl
                obtain ⟨_, q99, rfl⟩ := dep hD 1 rfl rfl rfl rfl
                clear hF hD
                refine want_none rfl ?_
                go_simp
                exact hK _ _ hC (Below.refl _ _) rfl
              refine RegSteps.cons ?_ ?_
              · intro _ a w hC hF hD _ K hK
                obtain ⟨_, q100, rfl⟩ := dep hD 2 rfl rfl rfl rfl
                obtain ⟨l0, l1⟩ := ri _ hC
                clear hF hD
                refine want_none rfl ?_
                go_simp
                exact hK _ _ hC (Below.refl _ _) rfl
              refine RegSteps.cons ?_ ?_
              · intro _ a w hC hF hD _ K hK
                have q9 : a.tmps[9]? = some (.slice (some ⟨g, 0, none⟩) 6 6) := hF 9 rfl
                clear hF hD
                refine want_none rfl ?_
                go_simp
                exact hK _ _ hC (Below.refl _ _) rfl
              refine RegSteps.cons ?_ ?_
              · intro _ a w hC hF hD _ K hK
                have q15 : a.tmps[15]? = some (.int .i64 (m : Int)) := hF 15 rfl
                clear hF hD
                refine want_none rfl ?_
                go_simp
                exact hK _ _ hC (Below.refl _ _) rfl
              refine RegSteps.cons ?_ ?_
              · intro _ a w hC hF hD _ K hK
                obtain ⟨_, q102, rfl⟩ := dep hD 4 rfl rfl rfl rfl
                obtain ⟨_, q103, rfl⟩ := dep hD 5 rfl rfl rfl rfl
                clear hF hD
                refine want_none rfl ?_
                go_simp
                exact hK _ _ hC (Below.refl _ _) rfl
              refine RegSteps.cons ?_ ?_
              · intro _ a w hC hF hD _ K hK
                obtain ⟨_, q104, rfl⟩ := dep hD 6 rfl rfl rfl rfl
                obtain ⟨l0, l1⟩ := rk _ hC
                clear hF hD
                refine want_none rfl ?_
                go_simp
                exact hK _ _ hC (Below.refl _ _) rfl
              refine RegSteps.cons ?_ ?_
              · intro _ a w hC hF hD _ K hK
                obtain ⟨_, q101, rfl⟩ := dep hD 3 rfl rfl rfl rfl
                obtain ⟨_, q105, rfl⟩ := dep hD 7 rfl rfl rfl rfl
                clear hF hD
                refine want_none rfl ?_
                go_simp
                exact hK _ _ hC (Below.refl _ _) rfl
              refine RegSteps.cons ?_ ?_
              · exact fun h => by cases h
              refine RegSteps.cons ?_ ?_
              · exact fun h => by cases h
              exact RegSteps.nil
            · refine ⟨?_, trivial⟩
              · refine ⟨⟨_, rfl, rfl, rfl, fun a w K hK => by go_simp; exact hK⟩, ⟨_, rfl, rfl, rfl, ?_⟩, by simp [Word], by simp⟩
                intro a w g cs hC hF hD hA K hK
                obtain ⟨p1, p2, p3, p4, p5⟩ := hA
                obtain ⟨_, q106, rfl⟩ := dep hD 8 rfl rfl rfl rfl
                obtain ⟨c0, c1, c2, c3, rfl⟩ := list_4 (l := cs) p4
                have z0 := p3.c0
                have z1 := p3.c1
                have z2 := p3.c2
                have z3 := p3.c3
                have f0 := p3.frozen 0
                have f1 := p3.frozen 1
                have f2 := p3.frozen 2
                have f3 := p3.frozen 3
                clear hF hD p3 p5
                refine want_none rfl ?_
                go_simp
                exact hK [.int .i64 X, .int .i64 Y, .int .i64 X2, .int .i64 Y2] rfl (by simp [Word]) rfl
            intro w7 gs hC7 hgl hbf
            obtain ⟨gb, rfl⟩ := list_1 hgl
            obtain ⟨⟨hg0, us0, hOb0, rfl⟩, _⟩ := hbf
            rintro _ rfl _ rfl _ rfl _ rfl _ rfl _ rfl _ rfl _ rfl _ rfl _ rfl _ _
            simp only [FinOK, Act.put, List.setIfInBounds_toArray, List.set_cons_zero, List.set_cons_succ]
            go_wp2_with fail
            refine wp_region_boxes w7 [Spec.eq (.agg #[.int .i64 X, .int .i64 Y, .int .i64 X2, .int .i64 Y2]), Spec.eq (.int .i64 (goodB X Y X2 Y2)), Spec.eq (.agg #[.int .i64 X, .int .i64 Y, .int .i64 X2, .int .i64 Y2]), Spec.eq (.int .i64 (goodB X Y X2 Y2)), Spec.eq (.bool false)]
                []
                (by kernel_rfl) (by kernel_rfl) rfl (by kernel_rfl) rfl (Below.drew (Below.refl _ _)) ?_ ?_ trivial ?_
            ·
              refine RegSteps.cons ?_ ?_
              · intro _ a w hC hF hD _ K hK
                have q16 : a.tmps[16]? = some (.pointer (some ⟨gb, 0, none⟩)) := hF 16 rfl
                have l0 := (hOb0.on hC).c0
                have l1 := (hOb0.on hC).c1
                have l2 := (hOb0.on hC).c2
                have l3 := (hOb0.on hC).c3
                clear hF hD
                refine want_none rfl ?_
                go_simp
                exact hK _ _ hC (Below.refl _ _) rfl
              refine RegSteps.cons ?_ ?_
              · intro _ a w hC hF hD _ K hK
                obtain ⟨_, q107, rfl⟩ := dep hD 0 rfl rfl rfl rfl
                clear hF hD
                refine want_none rfl ?_
                go_simp
                refine (PValidBox_any X Y X2 Y2 _).mono ?_
                rintro e w2 ⟨rfl, k⟩
                exact hK _ _ (Below.call hC k) k rfl
              refine RegSteps.cons ?_ ?_
              · intro _ a w hC hF hD _ K hK
                have q16 : a.tmps[16]? = some (.pointer (some ⟨gb, 0, none⟩)) := hF 16 rfl
                have l0 := (hOb0.on hC).c0
                have l1 := (hOb0.on hC).c1
                have l2 := (hOb0.on hC).c2
                have l3 := (hOb0.on hC).c3
                clear hF hD
                refine want_none rfl ?_
                go_simp
                exact hK _ _ hC (Below.refl _ _) rfl
              refine RegSteps.cons ?_ ?_
              · intro _ a w hC hF hD _ K hK
                obtain ⟨_, q109, rfl⟩ := dep hD 2 rfl rfl rfl rfl
                clear hF hD
                refine want_none rfl ?_
                go_simp
                refine (GoodBox_any X Y X2 Y2 _).mono ?_
                rintro e w2 ⟨rfl, k⟩
                exact hK _ _ (Below.call hC k) k rfl
              refine RegSteps.cons ?_ ?_
              · intro _ a w hC hF hD _ K hK
                obtain ⟨_, q108, rfl⟩ := dep hD 1 rfl rfl rfl rfl
                obtain ⟨_, q110, rfl⟩ := dep hD 3 rfl rfl rfl rfl
                clear hF hD
                refine want_none rfl ?_
                go_simp
                exact hK _ _ hC (Below.refl _ _) rfl
              exact RegSteps.nil
            · exact trivial
            intro w8 gs hC8 hgl hbf
            obtain rfl : gs = [] := List.length_eq_zero_iff.1 hgl
            rintro _ rfl _ rfl _ rfl _ rfl _ rfl
            simp only [FinOK, Act.put, List.setIfInBounds_toArray, List.set_cons_zero, List.set_cons_succ]
            have hb8 := Below.call (Below.call hbi hC7) hC8
            clear ri rk hOb0 hC7 hC8
            go_wp2_with fail
            go_roundw
            case rel => exact ⟨m + 1, by omega, by go_num, hb8⟩
            case measure => simp [intOf]; omega
          · obtain rfl : m = 6 := by omega
            clear hm6
            go_wp2_with fail
            go_roundw
            case rel => exact ⟨k + 1, by omega, by go_num, hbi⟩
            case measure => simp [intOf]; omega
    · obtain rfl : k = 6 := by omega
      clear hk6
      go_wp2_with fail
      refine (lives_any _ (ht.on (Below.call hB hb))).mono ?_
      rintro e w9 ⟨rfl, k9⟩
      have hB9 := Below.call (Below.call hB hb) k9
      go_wp2
      go_returns
      exact ⟨by simp, hB9⟩
end Go.Proofs.YthcpaagfgkbjaaaDoor
