/-
  Contracts of chapter 05's real and same, and of the reference's Some, Whole, Mid, In, Round.
-/
import Derived.Test.YthcpaagfgkbjaaaDoorG
import Derived.Test.YthcpaagfgkbjaaaDoorR5
import Derived.Test.YthcpaagfgkbjaaaDoorP9
namespace Go.Proofs.YthcpaagfgkbjaaaDoor
open Go.RowKit Mag

set_option maxRecDepth 100000 in
set_option maxHeartbeats 1600000 in
theorem real_any (X Y D : Int) (w : World) (hX : in64 X) (hY : in64 Y) (hD : in64 D) (h0 : D ≠ 0) : Calls Tryd.prog 10 #[.agg #[.int .i64 X, .int .i64 Y, .int .i64 D]] w (RetP w (mkP X D) (mkQ X D) (mkP Y D) (mkQ Y D)) := by
  go_enter Tryd.func10, Tryd.ntmps10
  go_upto_region 1 with fail
  refine wp_new2 fun W hS hO hB => ?_
  obtain ⟨r0, r1, r2⟩ := hS.rules3
  have hW := Below.refl W.heap.size W
  go_wp2_with fail
  refine (Of_any X D _ hX.1 hX.2 hD.1 hD.2 h0).mono ?_
  rintro e w1 ⟨f, rfl, k1, hf⟩
  go_upto_region 2 with fail
  refine wp_new1 fun w2 hF k2 => ?_
  have h2 := Below.call k1 k2
  go_wp2_with fail
  refine (Of_any Y D _ hY.1 hY.2 hD.1 hD.2 h0).mono ?_
  rintro e w3 ⟨g, rfl, k3, hg⟩
  have h3 := Below.call h2 k3
  go_upto_region 3 with fail
  refine wp_new1 fun w4 hG k4 => ?_
  have h4 := Below.call h3 k4
  have hF4 := hF.on (Below.call k3 k4)
  clear r0 r1 r2 hF
  obtain ⟨x0, x1, x2, x3, _⟩ := hF4.all4
  obtain ⟨y0, y1, y2, y3, _⟩ := hG.all4
  have hO4 : Own w4 (w.heap.size + 1) 31 z8 := hO.on h4
  obtain ⟨c0, c1, c2, c3, c4, c5, c6, c7, f0, f1, f2, f3, f4, f5, f6, f7⟩ := hO4.all8
  have hp : RetP w (mkP X D) (mkQ X D) (mkP Y D) (mkQ Y D) (.returned (.agg #[.bool (⟨f, g⟩ : PV).x.p.neg, .slice (⟨f, g⟩ : PV).x.p.A (⟨f, g⟩ : PV).x.p.n (⟨f, g⟩ : PV).x.p.c, .bool (⟨f, g⟩ : PV).x.l.neg, .slice (⟨f, g⟩ : PV).x.l.A (⟨f, g⟩ : PV).x.l.n (⟨f, g⟩ : PV).x.l.c, .bool (⟨f, g⟩ : PV).y.p.neg, .slice (⟨f, g⟩ : PV).y.p.A (⟨f, g⟩ : PV).y.p.n (⟨f, g⟩ : PV).y.p.c, .bool (⟨f, g⟩ : PV).y.l.neg, .slice (⟨f, g⟩ : PV).y.l.A (⟨f, g⟩ : PV).y.l.n (⟨f, g⟩ : PV).y.l.c])) (putP w4 (w.heap.size + 1) ⟨f, g⟩) :=
    ⟨⟨f, g⟩, rfl, Below.putP (Below.call hB h4) (by omega), PV.is.putP (b := ⟨f, g⟩) ⟨(hf.on (Below.call k2 k3)).on k4, hg.on k4⟩ hO4⟩
  obtain ⟨q0, q1, q2, q3, q4, q5, q6, q7, _⟩ := (hO4.putP (a := ⟨f, g⟩)).all8
  have HP := Lib.hid hp
  clear hp
  go_wp2
  exact bodyPost_ret (v := .agg #[.bool f.p.neg, .slice f.p.A f.p.n f.p.c, .bool f.l.neg, .slice f.l.A f.l.n f.l.c, .bool g.p.neg, .slice g.p.A g.p.n g.p.c, .bool g.l.neg, .slice g.l.A g.l.n g.l.c]) (by simp [results, Tryd.results10, go_sem, q0, q1, q2, q3, q4, q5, q6, q7]) rfl HP.out

set_option maxRecDepth 100000 in
set_option maxHeartbeats 1600000 in
theorem same_eq {a : PV} (X Y D : Int) (w : World) (ha : a.is w (mkP X D) (mkQ X D) (mkP Y D) (mkQ Y D)) (ht : Tab w) (hX : in64 X) (hY : in64 Y) (hD : in64 D) (h0 : D ≠ 0) : Calls Tryd.prog 11 #[.agg #[.bool a.x.p.neg, .slice a.x.p.A a.x.p.n a.x.p.c, .bool a.x.l.neg, .slice a.x.l.A a.x.l.n a.x.l.c, .bool a.y.p.neg, .slice a.y.p.A a.y.p.n a.y.p.c, .bool a.y.l.neg, .slice a.y.l.A a.y.l.n a.y.l.c], .agg #[.int .i64 X, .int .i64 Y, .int .i64 D]] w (RetB w true) := by
  go_enter Tryd.func11, Tryd.ntmps11
  go_upto_region 1 with fail
  refine wp_new2 fun W hP hS hB => ?_
  obtain ⟨r0, r1, r2⟩ := hS.rules3
  have hW := Below.refl W.heap.size W
  go_wp2_with fail
  refine (real_any X Y D _ hX hY hD h0).mono ?_
  rintro e w1 ⟨b, rfl, k1, hb⟩
  go_upto_region 2 with fail
  refine wp_new1 fun w2 hR k2 => ?_
  have h2 := Below.call k1 k2
  have hB2 := Below.call hB h2
  have hP := hP.on h2
  have ha2 := ha.on hB2
  have hb2 := hb.on k2
  have ht2 := ht.on hB2
  clear r0 r1 r2 hS
  refine wp_region_specs w2 [Spec.eq (.pointer (some ⟨w.heap.size, 0, none⟩)), Spec.eq (.agg #[.bool a.x.p.neg, .slice a.x.p.A a.x.p.n a.x.p.c, .bool a.x.l.neg, .slice a.x.l.A a.x.l.n a.x.l.c]), Spec.eq (.string ⟨(ftext (mkP X D) (mkQ X D)).toArray⟩), Spec.eq (.pointer (some ⟨w1.heap.size, 0, none⟩)), Spec.eq (.agg #[.bool b.x.p.neg, .slice b.x.p.A b.x.p.n b.x.p.c, .bool b.x.l.neg, .slice b.x.l.A b.x.l.n b.x.l.c]), Spec.eq (.string ⟨(ftext (mkP X D) (mkQ X D)).toArray⟩), Spec.eq (.bool true), Spec.eq (.bool true), Spec.eq (.pointer (some ⟨w.heap.size, 4, none⟩)), Spec.eq (.agg #[.bool a.y.p.neg, .slice a.y.p.A a.y.p.n a.y.p.c, .bool a.y.l.neg, .slice a.y.l.A a.y.l.n a.y.l.c]), Spec.eq (.string ⟨(ftext (mkP Y D) (mkQ Y D)).toArray⟩), Spec.eq (.pointer (some ⟨w1.heap.size, 4, none⟩)), Spec.eq (.agg #[.bool b.y.p.neg, .slice b.y.p.A b.y.p.n b.y.p.c, .bool b.y.l.neg, .slice b.y.l.A b.y.l.n b.y.l.c]), Spec.eq (.string ⟨(ftext (mkP Y D) (mkQ Y D)).toArray⟩), Spec.eq (.bool true), Spec.eq (.bool true), Spec.eq (.bool true)]
      (by kernel_rfl) (by kernel_rfl) rfl (by kernel_rfl) (Below.drew (Below.refl _ _)) ?_ ?_
  ·
    refine RegSteps.cons ?_ ?_
    · intro _ az wz hC hF hD _ K hK
      have q2 : az.tmps[2]? = some (.pointer (some ⟨w.heap.size, 0, none⟩)) := hF 2 rfl
      clear hF hD
      refine want_none rfl ?_
      go_simp
      exact hK _ _ hC (Below.refl _ _) rfl
    refine RegSteps.cons ?_ ?_
    · intro _ az wz hC hF hD _ K hK
      obtain ⟨_, q8, rfl⟩ := dep hD 0 rfl rfl rfl rfl
      obtain ⟨l0, l1, l2, l3, l4, l5, l6, l7, _⟩ := (hP.on hC).all8
      clear hF hD
      refine want_none rfl ?_
      go_simp
      exact hK _ _ hC (Below.refl _ _) rfl
    refine RegSteps.cons ?_ ?_
    · intro _ az wz hC hF hD _ K hK
      obtain ⟨_, q9, rfl⟩ := dep hD 1 rfl rfl rfl rfl
      clear hF hD
      refine want_none rfl ?_
      go_simp
      refine (FString_any (ha2.x.on hC) (ht2.on hC)).mono ?_
      rintro e wy ⟨rfl, k⟩
      exact hK _ _ (Below.call hC k) k rfl
    refine RegSteps.cons ?_ ?_
    · intro _ az wz hC hF hD _ K hK
      have q5 : az.tmps[5]? = some (.pointer (some ⟨w1.heap.size, 0, none⟩)) := hF 5 rfl
      clear hF hD
      refine want_none rfl ?_
      go_simp
      exact hK _ _ hC (Below.refl _ _) rfl
    refine RegSteps.cons ?_ ?_
    · intro _ az wz hC hF hD _ K hK
      obtain ⟨_, q11, rfl⟩ := dep hD 3 rfl rfl rfl rfl
      obtain ⟨l0, l1, l2, l3, l4, l5, l6, l7, _⟩ := (hR.on hC).all8
      clear hF hD
      refine want_none rfl ?_
      go_simp
      exact hK _ _ hC (Below.refl _ _) rfl
    refine RegSteps.cons ?_ ?_
    · intro _ az wz hC hF hD _ K hK
      obtain ⟨_, q12, rfl⟩ := dep hD 4 rfl rfl rfl rfl
      clear hF hD
      refine want_none rfl ?_
      go_simp
      refine (FString_any (hb2.x.on hC) (ht2.on hC)).mono ?_
      rintro e wy ⟨rfl, k⟩
      exact hK _ _ (Below.call hC k) k rfl
    refine RegSteps.cons ?_ ?_
    · intro _ az wz hC hF hD _ K hK
      obtain ⟨_, q10, rfl⟩ := dep hD 2 rfl rfl rfl rfl
      obtain ⟨_, q13, rfl⟩ := dep hD 5 rfl rfl rfl rfl
      clear hF hD
      refine want_none rfl ?_
      go_simp
      exact hK _ _ hC (Below.refl _ _) rfl
    refine RegSteps.cons ?_ ?_
    · intro _ az wz hC hF hD _ K hK
      obtain ⟨_, q14, rfl⟩ := dep hD 6 rfl rfl rfl rfl
      clear hF hD
      refine want_none rfl ?_
      go_simp
      exact hK _ _ hC (Below.refl _ _) rfl
    refine RegSteps.cons ?_ ?_
    · intro _ az wz hC hF hD _ K hK
      have q2 : az.tmps[2]? = some (.pointer (some ⟨w.heap.size, 0, none⟩)) := hF 2 rfl
      obtain ⟨_, qg, rfl⟩ := dep hD 7 rfl rfl rfl rfl
      clear hF hD
      refine want_yes rfl rfl rfl qg ?_
      go_simp
      exact hK _ _ hC (Below.refl _ _) rfl
    refine RegSteps.cons ?_ ?_
    · intro _ az wz hC hF hD _ K hK
      obtain ⟨_, q16, rfl⟩ := dep hD 8 rfl rfl rfl rfl
      obtain ⟨_, qg, rfl⟩ := dep hD 7 rfl rfl rfl rfl
      obtain ⟨l0, l1, l2, l3, l4, l5, l6, l7, _⟩ := (hP.on hC).all8
      clear hF hD
      refine want_yes rfl rfl rfl qg ?_
      go_simp
      exact hK _ _ hC (Below.refl _ _) rfl
    refine RegSteps.cons ?_ ?_
    · intro _ az wz hC hF hD _ K hK
      obtain ⟨_, q17, rfl⟩ := dep hD 9 rfl rfl rfl rfl
      obtain ⟨_, qg, rfl⟩ := dep hD 7 rfl rfl rfl rfl
      clear hF hD
      refine want_yes rfl rfl rfl qg ?_
      go_simp
      refine (FString_any (ha2.y.on hC) (ht2.on hC)).mono ?_
      rintro e wy ⟨rfl, k⟩
      exact hK _ _ (Below.call hC k) k rfl
    refine RegSteps.cons ?_ ?_
    · intro _ az wz hC hF hD _ K hK
      have q5 : az.tmps[5]? = some (.pointer (some ⟨w1.heap.size, 0, none⟩)) := hF 5 rfl
      obtain ⟨_, qg, rfl⟩ := dep hD 7 rfl rfl rfl rfl
      clear hF hD
      refine want_yes rfl rfl rfl qg ?_
      go_simp
      exact hK _ _ hC (Below.refl _ _) rfl
    refine RegSteps.cons ?_ ?_
    · intro _ az wz hC hF hD _ K hK
      obtain ⟨_, q19, rfl⟩ := dep hD 11 rfl rfl rfl rfl
      obtain ⟨_, qg, rfl⟩ := dep hD 7 rfl rfl rfl rfl
      obtain ⟨l0, l1, l2, l3, l4, l5, l6, l7, _⟩ := (hR.on hC).all8
      clear hF hD
      refine want_yes rfl rfl rfl qg ?_
      go_simp
      exact hK _ _ hC (Below.refl _ _) rfl
    refine RegSteps.cons ?_ ?_
    · intro _ az wz hC hF hD _ K hK
      obtain ⟨_, q20, rfl⟩ := dep hD 12 rfl rfl rfl rfl
      obtain ⟨_, qg, rfl⟩ := dep hD 7 rfl rfl rfl rfl
      clear hF hD
      refine want_yes rfl rfl rfl qg ?_
      go_simp
      refine (FString_any (hb2.y.on hC) (ht2.on hC)).mono ?_
      rintro e wy ⟨rfl, k⟩
      exact hK _ _ (Below.call hC k) k rfl
    refine RegSteps.cons ?_ ?_
    · intro _ az wz hC hF hD _ K hK
      obtain ⟨_, q18, rfl⟩ := dep hD 10 rfl rfl rfl rfl
      obtain ⟨_, q21, rfl⟩ := dep hD 13 rfl rfl rfl rfl
      obtain ⟨_, qg, rfl⟩ := dep hD 7 rfl rfl rfl rfl
      clear hF hD
      refine want_yes rfl rfl rfl qg ?_
      go_simp
      exact hK _ _ hC (Below.refl _ _) rfl
    refine RegSteps.cons ?_ ?_
    · intro _ az wz hC hF hD _ K hK
      obtain ⟨_, q15, rfl⟩ := dep hD 7 rfl rfl rfl rfl
      obtain ⟨_, q22, rfl⟩ := dep hD 14 rfl rfl rfl rfl
      clear hF hD
      refine want_none rfl ?_
      go_simp
      exact hK _ _ hC (Below.refl _ _) rfl
    refine RegSteps.cons ?_ ?_
    · intro _ az wz hC hF hD _ K hK
      obtain ⟨_, q23, rfl⟩ := dep hD 15 rfl rfl rfl rfl
      clear hF hD
      refine want_none rfl ?_
      go_simp
      exact hK _ _ hC (Below.refl _ _) rfl
    exact RegSteps.nil
  intro w3 hC3
  rintro _ rfl _ rfl _ rfl _ rfl _ rfl _ rfl _ rfl _ rfl _ rfl _ rfl _ rfl _ rfl _ rfl _ rfl _ rfl _ rfl _ rfl
  simp only [FinOK, Act.put, List.setIfInBounds_toArray, List.set_cons_zero, List.set_cons_succ]
  have hB3 := Below.call hB2 hC3
  go_wp2
  go_returns
  exact ⟨rfl, hB3⟩

/-- What Some makes of a number. -/
def sK (n : Int) : Int := around n 1048576
def dTab : List Int := [1, 1, 1, 2, 2, 3, 5, 12]
def sD0 (n : Int) : Int := dTab.getD (sK n % 8).toNat 1
def sX0 (n : Int) : Int := gX (around (sK n / 8) 1048576) * sD0 n - sK n / 64 % sD0 n
def sY0 (n : Int) : Int := gY (around (sK n / 8) 1048576) * sD0 n - sK n / 256 % sD0 n
def sG (n : Int) : Int := gMk (sX0 n) (sY0 n) (sD0 n)
def sX (n : Int) : Int := sX0 n / sG n
def sY (n : Int) : Int := sY0 n / sG n
def sD (n : Int) : Int := sD0 n / sG n
theorem dTab_all (i : Nat) : dTab.getD i 1 = 1 ∨ dTab.getD i 1 = 2 ∨ dTab.getD i 1 = 3 ∨ dTab.getD i 1 = 5 ∨ dTab.getD i 1 = 12 := by
  match i with
  | 0 | 1 | 2 | 3 | 4 | 5 | 6 | 7 => simp [dTab]
  | i + 8 => simp [dTab]
theorem sD0_bd (n : Int) : 0 < sD0 n ∧ sD0 n ≤ 12 := by
  have := dTab_all (sK n % 8).toNat
  unfold sD0
  omega
theorem mul_bd {a d : Int} (h0 : 0 ≤ a) (h1 : a ≤ 32) (d0 : 0 < d) (d1 : d ≤ 12) : 0 ≤ a * d ∧ a * d ≤ 384 :=
  ⟨Int.mul_nonneg h0 (by omega), by have := Int.mul_le_mul h1 d1 (by omega) (by omega); omega⟩
theorem sX0_bd (n : Int) : -12 ≤ sX0 n ∧ sX0 n ≤ 384 := by
  obtain ⟨d0, d1⟩ := sD0_bd n
  have h1 := gX_bd (around (sK n / 8) 1048576)
  have h2 := mul_bd h1.1 h1.2 d0 d1
  have h3 := Int.emod_nonneg (sK n / 64) (show sD0 n ≠ 0 by omega)
  have h4 := Int.emod_lt_of_pos (sK n / 64) d0
  unfold sX0
  omega
theorem sY0_bd (n : Int) : -12 ≤ sY0 n ∧ sY0 n ≤ 384 := by
  obtain ⟨d0, d1⟩ := sD0_bd n
  have h1 := gY_bd (around (sK n / 8) 1048576)
  have h2 := mul_bd h1.1 h1.2 d0 d1
  have h3 := Int.emod_nonneg (sK n / 256) (show sD0 n ≠ 0 by omega)
  have h4 := Int.emod_lt_of_pos (sK n / 256) d0
  unfold sY0
  omega
theorem gMk_one (x y : Int) : gMk x y 1 = 1 := by
  unfold gMk
  rw [Int.gcd_one_right]
  rfl
set_option maxRecDepth 100000 in
set_option maxHeartbeats 1600000 in
theorem Some_any (n : Int) (w : World) (hn : in64 n) : Calls Tryd.prog 8 #[.int .i64 n] w (RetR w (sX n) (sY n) (sD n)) := by
  obtain ⟨k0, k2⟩ := around_bd n (m := 1048576) (by omega)
  obtain ⟨d0, d1⟩ := sD0_bd n
  have hx := sX0_bd n
  have hy := sY0_bd n
  obtain ⟨k, hk⟩ : ∃ k, k = sK n := ⟨_, rfl⟩
  obtain ⟨d, hd⟩ : ∃ d, d = sD0 n := ⟨_, rfl⟩
  have hk' : around n 1048576 = k := hk.symm
  rw [hk'] at k0 k2
  rw [← hd] at d0 d1
  have gx := gX_bd (around (k / 8) 1048576)
  have gy := gY_bd (around (k / 8) 1048576)
  have mx := mul_bd gx.1 gx.2 d0 d1
  have my := mul_bd gy.1 gy.2 d0 d1
  have e1 := Int.emod_nonneg (k / 64) (show d ≠ 0 by omega)
  have e2 := Int.emod_lt_of_pos (k / 64) d0
  have e3 := Int.emod_nonneg (k / 256) (show d ≠ 0 by omega)
  have e4 := Int.emod_lt_of_pos (k / 256) d0
  have hcell : ∀ u : World, (u.alloc (.cells #[.int .i64 1, .int .i64 1, .int .i64 1, .int .i64 2, .int .i64 2, .int .i64 3, .int .i64 5, .int .i64 12] 3)).cell? ⟨u.heap.size, (k % 8).toNat, none⟩ = some (.int .i64 d) := fun u => by
    have hO := Own.new u 3 (dTab.map i64)
    have h8 : (k % 8).toNat < dTab.length := by simp [dTab]; omega
    refine (hO.cell _).trans ?_
    rw [hd, sD0, ← hk, List.getElem?_map, List.getElem?_eq_getElem h8, List.getD_eq_getElem?_getD, List.getElem?_eq_getElem h8]
    rfl
  have HK := Lib.hid hk'
  have HD := Lib.hid hd
  have HK2 := Lib.hid hk
  clear hk' hd hk
  go_enter Tryd.func8, Tryd.ntmps8
  go_upto_region 1 with fail
  refine wp_new1 fun W hO hB => ?_
  go_wp2_with fail
  refine (Around_any n 1048576 _ hn.1 hn.2 (by omega) (by omega)).mono ?_
  rintro e w1 ⟨rfl, k1⟩
  rw [HK.out]
  go_wp2_with fail
  refine (Grid_any (k / 8) _ (by omega) (by omega)).mono ?_
  rintro e w2 ⟨rfl, k3⟩
  have h2 := Below.call k1 k3
  go_upto_region 3 with fail
  refine wp_new1 fun w3 hG k4 => ?_
  have h3 := Below.call h2 k4
  have hcl := hcell w3
  go_upto_region 4 with fail
  refine wp_new1 fun w4 hL k5 => ?_
  have hB4 := Below.call hB (Below.call h3 k5)
  have hG := hG.on k5
  have hO4 := hO.on (Below.call h3 k5)
  clear hcl hcell hL
  by_cases hd1 : d = 1
  · subst hd1
    obtain ⟨l0, l1, _⟩ := hG.all2
    have hz : sX n = gX (around (k / 8) 1048576) ∧ sY n = gY (around (k / 8) 1048576) ∧ sD n = 1 := by
      have e0 : sD0 n = 1 := HD.out.symm
      have e1 : sX0 n = gX (around (k / 8) 1048576) := by rw [sX0, e0, ← HK2.out]; simp
      have e2 : sY0 n = gY (around (k / 8) 1048576) := by rw [sY0, e0, ← HK2.out]; simp
      have e3 : sG n = 1 := by rw [sG, e0]; exact gMk_one _ _
      rw [sX, sY, sD, e0, e1, e2, e3]
      simp
    have HZ := Lib.hid hz
    clear hz
    go_wp2_with fail
    refine (ROf_any _ _ _).mono ?_
    rintro e w5 ⟨rfl, k6⟩
    have hO5 := hO4.on k6
    obtain ⟨z0, z1, z2, f0, f1, f2⟩ := hO5.all3
    have hO6 := hO5.put3 (.int .i64 (gX (around (k / 8) 1048576))) (.int .i64 (gY (around (k / 8) 1048576))) (.int .i64 1)
    obtain ⟨q0, q1, q2, _⟩ := hO6.all3
    have HB := Lib.hid (Below.put3 (Below.call hB4 k6) (Nat.le_refl _) (.int .i64 (gX (around (k / 8) 1048576))) (.int .i64 (gY (around (k / 8) 1048576))) (.int .i64 1))
    clear hO6 l0 l1
    go_wp2
    exact bodyPost_ret (v := .agg #[.int .i64 (gX (around (k / 8) 1048576)), .int .i64 (gY (around (k / 8) 1048576)), .int .i64 1]) (by simp [results, Tryd.results8, go_sem, q0, q1, q2]) rfl ⟨by rw [HZ.out.1, HZ.out.2.1, HZ.out.2.2], HB.out⟩
  · have hdd : (d == 1) = false := by simp [hd1]
    have d0' : ¬ d = 0 := by omega
    have HM : Hid (∀ u, Calls Tryd.prog 30 #[.int .i64 (gX (around (k / 8) 1048576) * d - k / 64 % d), .int .i64 (gY (around (k / 8) 1048576) * d - k / 256 % d), .int .i64 d] u (RetR u (sX n) (sY n) (sD n))) := Lib.hid fun u => by
      have h := Make_ref (gX (around (k / 8) 1048576) * d - k / 64 % d) (gY (around (k / 8) 1048576) * d - k / 256 % d) d u (by omega) (by omega) d0 (by omega)
      have e1 : gX (around (k / 8) 1048576) * d - k / 64 % d = sX0 n := by rw [sX0, ← HD.out, ← HK2.out]
      have e2 : gY (around (k / 8) 1048576) * d - k / 256 % d = sY0 n := by rw [sY0, ← HD.out, ← HK2.out]
      rw [e1, e2, HD.out] at h ⊢
      exact h
    have hm := HM
    obtain ⟨X, hX⟩ : ∃ X, X = sX n := ⟨_, rfl⟩
    obtain ⟨Y, hY⟩ : ∃ Y, Y = sY n := ⟨_, rfl⟩
    obtain ⟨Z, hZ⟩ : ∃ Z, Z = sD n := ⟨_, rfl⟩
    rw [← hX, ← hY, ← hZ] at HM
    have HE := Lib.hid (And.intro hX (And.intro hY hZ))
    clear hX hY hZ hm hd1
    go_wp2_with fail
    refine wp_region_last w4 [Spec.eq (.pointer (some ⟨w2.heap.size, 0, none⟩)), Spec.eq (.int .i64 (gX (around (k / 8) 1048576))), Spec.eq (.int .i64 d), Spec.eq (.int .i64 (gX (around (k / 8) 1048576) * d)), Spec.eq (.int .i64 k), Spec.eq (.int .i64 (k / 64)), Spec.eq (.int .i64 d), Spec.eq (.int .i64 (k / 64 % d)), Spec.eq (.int .i64 (gX (around (k / 8) 1048576) * d - k / 64 % d)), Spec.eq (.pointer (some ⟨w2.heap.size, 1, none⟩)), Spec.eq (.int .i64 (gY (around (k / 8) 1048576))), Spec.eq (.int .i64 d), Spec.eq (.int .i64 (gY (around (k / 8) 1048576) * d)), Spec.eq (.int .i64 k), Spec.eq (.int .i64 (k / 256)), Spec.eq (.int .i64 d), Spec.eq (.int .i64 (k / 256 % d)), Spec.eq (.int .i64 (gY (around (k / 8) 1048576) * d - k / 256 % d)), Spec.eq (.int .i64 d), Spec.eq (.agg #[.int .i64 X, .int .i64 Y, .int .i64 Z])]
        rfl (by kernel_rfl) (by kernel_rfl) rfl (by kernel_rfl) (by kernel_rfl) (Below.drew (Below.refl _ _)) ?_ ?_
    ·
      refine RegSteps.cons ?_ ?_
      · intro _ az wz hC hF hD _ K hK
        have q4 : az.tmps[4]? = some (.pointer (some ⟨w2.heap.size, 0, none⟩)) := hF 4 rfl
        clear hF hD
        refine want_none rfl ?_
        go_simp
        exact hK _ _ hC (Below.refl _ _) rfl
      refine RegSteps.cons ?_ ?_
      · intro _ az wz hC hF hD _ K hK
        obtain ⟨_, q20, rfl⟩ := dep hD 0 rfl rfl rfl rfl
        obtain ⟨l0, l1, _⟩ := (hG.on hC).all2
        clear hF hD
        refine want_none rfl ?_
        go_simp
        exact hK _ _ hC (Below.refl _ _) rfl
      refine RegSteps.cons ?_ ?_
      · intro _ az wz hC hF hD _ K hK
        have q5 : az.tmps[5]? = some (.int .i64 d) := hF 5 rfl
        clear hF hD
        refine want_none rfl ?_
        go_simp
        exact hK _ _ hC (Below.refl _ _) rfl
      refine RegSteps.cons ?_ ?_
      · intro _ az wz hC hF hD _ K hK
        obtain ⟨_, q21, rfl⟩ := dep hD 1 rfl rfl rfl rfl
        obtain ⟨_, q22, rfl⟩ := dep hD 2 rfl rfl rfl rfl
        clear hF hD
        refine want_none rfl ?_
        go_simp
        try go_ints
        exact hK _ _ hC (Below.refl _ _) rfl
      refine RegSteps.cons ?_ ?_
      · intro _ az wz hC hF hD _ K hK
        have q3 : az.tmps[3]? = some (.int .i64 k) := hF 3 rfl
        clear hF hD
        refine want_none rfl ?_
        go_simp
        exact hK _ _ hC (Below.refl _ _) rfl
      refine RegSteps.cons ?_ ?_
      · intro _ az wz hC hF hD _ K hK
        obtain ⟨_, q24, rfl⟩ := dep hD 4 rfl rfl rfl rfl
        clear hF hD
        refine want_none rfl ?_
        go_simp
        try go_ints
        exact hK _ _ hC (Below.refl _ _) rfl
      refine RegSteps.cons ?_ ?_
      · intro _ az wz hC hF hD _ K hK
        have q5 : az.tmps[5]? = some (.int .i64 d) := hF 5 rfl
        clear hF hD
        refine want_none rfl ?_
        go_simp
        exact hK _ _ hC (Below.refl _ _) rfl
      refine RegSteps.cons ?_ ?_
      · intro _ az wz hC hF hD _ K hK
        obtain ⟨_, q25, rfl⟩ := dep hD 5 rfl rfl rfl rfl
        obtain ⟨_, q26, rfl⟩ := dep hD 6 rfl rfl rfl rfl
        clear hF hD
        refine want_none rfl ?_
        go_simp
        try go_ints
        exact hK _ _ hC (Below.refl _ _) rfl
      refine RegSteps.cons ?_ ?_
      · intro _ az wz hC hF hD _ K hK
        obtain ⟨_, q23, rfl⟩ := dep hD 3 rfl rfl rfl rfl
        obtain ⟨_, q27, rfl⟩ := dep hD 7 rfl rfl rfl rfl
        clear hF hD
        refine want_none rfl ?_
        go_simp
        try go_ints
        exact hK _ _ hC (Below.refl _ _) rfl
      refine RegSteps.cons ?_ ?_
      · intro _ az wz hC hF hD _ K hK
        have q4 : az.tmps[4]? = some (.pointer (some ⟨w2.heap.size, 0, none⟩)) := hF 4 rfl
        clear hF hD
        refine want_none rfl ?_
        go_simp
        exact hK _ _ hC (Below.refl _ _) rfl
      refine RegSteps.cons ?_ ?_
      · intro _ az wz hC hF hD _ K hK
        obtain ⟨_, q29, rfl⟩ := dep hD 9 rfl rfl rfl rfl
        obtain ⟨l0, l1, _⟩ := (hG.on hC).all2
        clear hF hD
        refine want_none rfl ?_
        go_simp
        exact hK _ _ hC (Below.refl _ _) rfl
      refine RegSteps.cons ?_ ?_
      · intro _ az wz hC hF hD _ K hK
        have q5 : az.tmps[5]? = some (.int .i64 d) := hF 5 rfl
        clear hF hD
        refine want_none rfl ?_
        go_simp
        exact hK _ _ hC (Below.refl _ _) rfl
      refine RegSteps.cons ?_ ?_
      · intro _ az wz hC hF hD _ K hK
        obtain ⟨_, q30, rfl⟩ := dep hD 10 rfl rfl rfl rfl
        obtain ⟨_, q31, rfl⟩ := dep hD 11 rfl rfl rfl rfl
        clear hF hD
        refine want_none rfl ?_
        go_simp
        try go_ints
        exact hK _ _ hC (Below.refl _ _) rfl
      refine RegSteps.cons ?_ ?_
      · intro _ az wz hC hF hD _ K hK
        have q3 : az.tmps[3]? = some (.int .i64 k) := hF 3 rfl
        clear hF hD
        refine want_none rfl ?_
        go_simp
        exact hK _ _ hC (Below.refl _ _) rfl
      refine RegSteps.cons ?_ ?_
      · intro _ az wz hC hF hD _ K hK
        obtain ⟨_, q33, rfl⟩ := dep hD 13 rfl rfl rfl rfl
        clear hF hD
        refine want_none rfl ?_
        go_simp
        try go_ints
        exact hK _ _ hC (Below.refl _ _) rfl
      refine RegSteps.cons ?_ ?_
      · intro _ az wz hC hF hD _ K hK
        have q5 : az.tmps[5]? = some (.int .i64 d) := hF 5 rfl
        clear hF hD
        refine want_none rfl ?_
        go_simp
        exact hK _ _ hC (Below.refl _ _) rfl
      refine RegSteps.cons ?_ ?_
      · intro _ az wz hC hF hD _ K hK
        obtain ⟨_, q34, rfl⟩ := dep hD 14 rfl rfl rfl rfl
        obtain ⟨_, q35, rfl⟩ := dep hD 15 rfl rfl rfl rfl
        clear hF hD
        refine want_none rfl ?_
        go_simp
        try go_ints
        exact hK _ _ hC (Below.refl _ _) rfl
      refine RegSteps.cons ?_ ?_
      · intro _ az wz hC hF hD _ K hK
        obtain ⟨_, q32, rfl⟩ := dep hD 12 rfl rfl rfl rfl
        obtain ⟨_, q36, rfl⟩ := dep hD 16 rfl rfl rfl rfl
        clear hF hD
        refine want_none rfl ?_
        go_simp
        try go_ints
        exact hK _ _ hC (Below.refl _ _) rfl
      refine RegSteps.cons ?_ ?_
      · intro _ az wz hC hF hD _ K hK
        have q5 : az.tmps[5]? = some (.int .i64 d) := hF 5 rfl
        clear hF hD
        refine want_none rfl ?_
        go_simp
        exact hK _ _ hC (Below.refl _ _) rfl
      refine RegSteps.cons ?_ ?_
      · intro _ az wz hC hF hD _ K hK
        obtain ⟨_, q28, rfl⟩ := dep hD 8 rfl rfl rfl rfl
        obtain ⟨_, q37, rfl⟩ := dep hD 17 rfl rfl rfl rfl
        obtain ⟨_, q38, rfl⟩ := dep hD 18 rfl rfl rfl rfl
        clear hF hD
        refine want_none rfl ?_
        go_simp
        refine (HM.out _).mono ?_
        rintro e wy ⟨rfl, k⟩
        exact hK _ _ (Below.call hC k) k rfl
      exact RegSteps.nil
    intro w5 hC5
    rintro _ rfl _ rfl _ rfl _ rfl _ rfl _ rfl _ rfl _ rfl _ rfl _ rfl _ rfl _ rfl _ rfl _ rfl _ rfl _ rfl _ rfl _ rfl _ rfl _ rfl
    simp only [List.dropLast, FinOK, Act.put, List.setIfInBounds_toArray, List.set_cons_zero, List.set_cons_succ]
    intro K hK
    refine want_none rfl ?_
    obtain ⟨z0, z1, z2, f0, f1, f2⟩ := (hO4.on hC5).all3
    go_simp
    refine hK _ _ ?_
    clear hK K
    have hO5 := (hO4.on hC5).put3 (.int .i64 X) (.int .i64 Y) (.int .i64 Z)
    obtain ⟨q0, q1, q2, _⟩ := hO5.all3
    have HB := Lib.hid (Below.put3 (Below.call hB4 hC5) (Nat.le_refl _) (.int .i64 X) (.int .i64 Y) (.int .i64 Z))
    clear hO5
    go_wp2
    exact bodyPost_ret (v := .agg #[.int .i64 X, .int .i64 Y, .int .i64 Z]) (by simp [results, Tryd.results8, go_sem, q0, q1, q2]) rfl ⟨by rw [HE.out.1, HE.out.2.1, HE.out.2.2], HB.out⟩

set_option maxRecDepth 100000 in
set_option maxHeartbeats 800000 in
theorem RWhole_any (X Y D : Int) (w : World) : Calls Tryd.prog 32 #[.agg #[.int .i64 X, .int .i64 Y, .int .i64 D]] w (RetW w (pick0 (decide (D = 1) && decide (goodV X Y = 0)) X) (pick0 (decide (D = 1) && decide (goodV X Y = 0)) Y) (decide (D = 1) && decide (goodV X Y = 0))) := by
  go_enter Tryd.func32, Tryd.ntmps32
  go_upto_region 1 with fail
  refine wp_new2 fun W hS hO hB => ?_
  obtain ⟨r0, r1, r2⟩ := hS.rules3
  have hW := Below.refl W.heap.size W
  go_upto_region 2 with fail
  refine wp_new1 fun w2 hP k2 => ?_
  have hB2 := Below.call hB k2
  have hO2 := hO.on k2
  obtain ⟨l0, l1, _⟩ := hP.all2
  obtain ⟨z0, z1, f0, f1⟩ := hO2.all2
  have hO3 := hO2.put2 (.int .i64 0) (.int .i64 0)
  obtain ⟨q0, q1, _⟩ := hO3.all2
  have HB := Lib.hid (Below.put2 hB2 (by omega : w.heap.size ≤ w.heap.size + 1) (.int .i64 0) (.int .i64 0))
  clear hO3
  by_cases hD : D = 1
  · subst hD
    go_wp2_with fail
    refine (Good_any X Y _).mono ?_
    rintro e w3 ⟨rfl, k3⟩
    have hO3 := hO2.on k3
    have hP3 := hP.on k3
    have hB3 := Below.call hB2 k3
    clear l0 l1 z0 z1 f0 f1 q0 q1 HB
    obtain ⟨l0, l1, _⟩ := hP3.all2
    obtain ⟨z0, z1, f0, f1⟩ := hO3.all2
    rcases goodV_cases X Y with hg | hg
    · rw [hg]
      have hO4 := hO3.put2 (.int .i64 X) (.int .i64 Y)
      obtain ⟨q0, q1, _⟩ := hO4.all2
      have HB := Lib.hid (Below.put2 hB3 (by omega : w.heap.size ≤ w.heap.size + 1) (.int .i64 X) (.int .i64 Y))
      have HG := Lib.hid hg
      clear hO4 hg
      go_wp2
      exact bodyPost_ret (v := .tuple #[.agg #[.int .i64 X, .int .i64 Y], .bool true]) (by simp [results, Tryd.results32, go_sem, q0, q1]) rfl ⟨by rw [HG.out]; simp [pick0], HB.out⟩
    · rw [hg]
      have hO4 := hO3.put2 (.int .i64 0) (.int .i64 0)
      obtain ⟨q0, q1, _⟩ := hO4.all2
      have HB := Lib.hid (Below.put2 hB3 (by omega : w.heap.size ≤ w.heap.size + 1) (.int .i64 0) (.int .i64 0))
      have HG := Lib.hid hg
      clear hO4 hg
      go_wp2
      exact bodyPost_ret (v := .tuple #[.agg #[.int .i64 0, .int .i64 0], .bool false]) (by simp [results, Tryd.results32, go_sem, q0, q1]) rfl ⟨by rw [HG.out]; simp [pick0], HB.out⟩
  · have hd : (D != 1) = true := by simp [hD]
    have HD : Hid (decide (D = 1) = false) := Lib.hid (by simp [hD])
    clear hD
    go_wp2
    exact bodyPost_ret (v := .tuple #[.agg #[.int .i64 0, .int .i64 0], .bool false]) (by simp [results, Tryd.results32, go_sem, q0, q1]) rfl ⟨by rw [HD.out]; simp [pick0], HB.out⟩

set_option maxRecDepth 100000 in
set_option maxHeartbeats 800000 in
theorem RRound_any (X Y D : Int) (w : World) (x0 : -1000000000000 ≤ X) (x1 : X ≤ 1000000000000) (y0 : -1000000000000 ≤ Y) (y1 : Y ≤ 1000000000000) (d0 : 0 < D) (d1 : D ≤ 1000000000000) : Calls Tryd.prog 33 #[.agg #[.int .i64 X, .int .i64 Y, .int .i64 D]] w
    (RetE w (pick0 (decide (goodV (nr X D) (nr Y D) = 0)) (nr X D)) (pick0 (decide (goodV (nr X D) (nr Y D) = 0)) (nr Y D)) (err5 (decide (goodV (nr X D) (nr Y D) = 0)))) := by
  go_enter Tryd.func33, Tryd.ntmps33
  go_upto_region 1 with fail
  refine wp_new2 fun W hS hO hB => ?_
  obtain ⟨N, hN⟩ : ∃ N, N = nr X D := ⟨_, rfl⟩
  obtain ⟨M, hM⟩ : ∃ M, M = nr Y D := ⟨_, rfl⟩
  have HNM := Lib.hid (And.intro hN hM)
  have HC : Hid ((∀ u, Calls Tryd.prog 55 #[.int .i64 X, .int .i64 D] u (RetInt u N)) ∧ ∀ u, Calls Tryd.prog 55 #[.int .i64 Y, .int .i64 D] u (RetInt u M)) :=
    Lib.hid ⟨fun u => hN ▸ rnear_any X D u x0 x1 d0 d1, fun u => hM ▸ rnear_any Y D u y0 y1 d0 d1⟩
  clear hN hM
  refine wp_region_boxes W [Spec.eq (.pointer (some ⟨w.heap.size, 0, none⟩)), Spec.eq (.int .i64 X), Spec.eq (.pointer (some ⟨w.heap.size, 2, none⟩)), Spec.eq (.int .i64 D), Spec.eq (.int .i64 N), Spec.eq (.pointer (some ⟨w.heap.size, 1, none⟩)), Spec.eq (.int .i64 Y), Spec.eq (.pointer (some ⟨w.heap.size, 2, none⟩)), Spec.eq (.int .i64 D), Spec.eq (.int .i64 M), Spec.eq (.agg #[.int .i64 N, .int .i64 M]), Spec.any, Spec.any]
      [{ A := 11, j := 12, t := 4, T := 40, zs := [.int .i64 0, .int .i64 0], X := fun us _ => us = [.int .i64 N, .int .i64 M], up := fun e _ => e }]
      (by kernel_rfl) (by kernel_rfl) rfl (by kernel_rfl) rfl (Below.drew (Below.refl _ _)) ?_ ?_ ⟨rfl, rfl, trivial⟩ ?_
  ·
    refine RegSteps.cons ?_ ?_
    · intro _ az wz hC hF hD _ K hK
      have q1 : az.tmps[1]? = some (.pointer (some ⟨w.heap.size, 0, none⟩)) := hF 1 rfl
      clear hF hD
      refine want_none rfl ?_
      go_simp
      exact hK _ _ hC (Below.refl _ _) rfl
    refine RegSteps.cons ?_ ?_
    · intro _ az wz hC hF hD _ K hK
      obtain ⟨_, q5, rfl⟩ := dep hD 0 rfl rfl rfl rfl
      obtain ⟨l0, l1, l2, _⟩ := (hS.on hC).all3
      clear hF hD
      refine want_none rfl ?_
      go_simp
      exact hK _ _ hC (Below.refl _ _) rfl
    refine RegSteps.cons ?_ ?_
    · intro _ az wz hC hF hD _ K hK
      have q1 : az.tmps[1]? = some (.pointer (some ⟨w.heap.size, 0, none⟩)) := hF 1 rfl
      clear hF hD
      refine want_none rfl ?_
      go_simp
      exact hK _ _ hC (Below.refl _ _) rfl
    refine RegSteps.cons ?_ ?_
    · intro _ az wz hC hF hD _ K hK
      obtain ⟨_, q7, rfl⟩ := dep hD 2 rfl rfl rfl rfl
      obtain ⟨l0, l1, l2, _⟩ := (hS.on hC).all3
      clear hF hD
      refine want_none rfl ?_
      go_simp
      exact hK _ _ hC (Below.refl _ _) rfl
    refine RegSteps.cons ?_ ?_
    · intro _ az wz hC hF hD _ K hK
      obtain ⟨_, q6, rfl⟩ := dep hD 1 rfl rfl rfl rfl
      obtain ⟨_, q8, rfl⟩ := dep hD 3 rfl rfl rfl rfl
      clear hF hD
      refine want_none rfl ?_
      go_simp
      refine (HC.out.1 _).mono ?_
      rintro e wy ⟨rfl, k⟩
      exact hK _ _ (Below.call hC k) k rfl
    refine RegSteps.cons ?_ ?_
    · intro _ az wz hC hF hD _ K hK
      have q1 : az.tmps[1]? = some (.pointer (some ⟨w.heap.size, 0, none⟩)) := hF 1 rfl
      clear hF hD
      refine want_none rfl ?_
      go_simp
      exact hK _ _ hC (Below.refl _ _) rfl
    refine RegSteps.cons ?_ ?_
    · intro _ az wz hC hF hD _ K hK
      obtain ⟨_, q10, rfl⟩ := dep hD 5 rfl rfl rfl rfl
      obtain ⟨l0, l1, l2, _⟩ := (hS.on hC).all3
      clear hF hD
      refine want_none rfl ?_
      go_simp
      exact hK _ _ hC (Below.refl _ _) rfl
    refine RegSteps.cons ?_ ?_
    · intro _ az wz hC hF hD _ K hK
      have q1 : az.tmps[1]? = some (.pointer (some ⟨w.heap.size, 0, none⟩)) := hF 1 rfl
      clear hF hD
      refine want_none rfl ?_
      go_simp
      exact hK _ _ hC (Below.refl _ _) rfl
    refine RegSteps.cons ?_ ?_
    · intro _ az wz hC hF hD _ K hK
      obtain ⟨_, q12, rfl⟩ := dep hD 7 rfl rfl rfl rfl
      obtain ⟨l0, l1, l2, _⟩ := (hS.on hC).all3
      clear hF hD
      refine want_none rfl ?_
      go_simp
      exact hK _ _ hC (Below.refl _ _) rfl
    refine RegSteps.cons ?_ ?_
    · intro _ az wz hC hF hD _ K hK
      obtain ⟨_, q11, rfl⟩ := dep hD 6 rfl rfl rfl rfl
      obtain ⟨_, q13, rfl⟩ := dep hD 8 rfl rfl rfl rfl
      clear hF hD
      refine want_none rfl ?_
      go_simp
      refine (HC.out.2 _).mono ?_
      rintro e wy ⟨rfl, k⟩
      exact hK _ _ (Below.call hC k) k rfl
    refine RegSteps.cons ?_ ?_
    · intro _ az wz hC hF hD _ K hK
      obtain ⟨_, q9, rfl⟩ := dep hD 4 rfl rfl rfl rfl
      obtain ⟨_, q14, rfl⟩ := dep hD 9 rfl rfl rfl rfl
      clear hF hD
      refine want_none rfl ?_
      go_simp
      exact hK _ _ hC (Below.refl _ _) rfl
    refine RegSteps.cons ?_ ?_
    · exact fun h => by cases h
    refine RegSteps.cons ?_ ?_
    · exact fun h => by cases h
    exact RegSteps.nil
  · refine ⟨?_, trivial⟩
    · refine ⟨⟨_, rfl, rfl, rfl, fun az wz K hK => by go_simp; exact hK⟩, ⟨_, rfl, rfl, rfl, ?_⟩, by simp [Word], by simp⟩
      intro az wz gz cs hC hF hD hA K hK
      obtain ⟨p1, p2, p3, p4, p5⟩ := hA
      obtain ⟨_, q15, rfl⟩ := dep hD 10 rfl rfl rfl rfl
      obtain ⟨c0, c1, rfl⟩ := list_2 (l := cs) p4
      have z0 := p3.c0
      have z1 := p3.c1
      have f0 := p3.frozen 0
      have f1 := p3.frozen 1
      clear hF hD p3 p5
      refine want_none rfl ?_
      go_simp
      exact hK [.int .i64 N, .int .i64 M] rfl (by simp [Word]) rfl
  intro w2 gs hC2 hgl hbf
  obtain ⟨gb, rfl⟩ := list_1 hgl
  obtain ⟨⟨hg0, us0, hOb0, rfl⟩, _⟩ := hbf
  rintro _ rfl _ rfl _ rfl _ rfl _ rfl _ rfl _ rfl _ rfl _ rfl _ rfl _ rfl _ rfl _ _
  simp only [FinOK, Act.put, List.setIfInBounds_toArray, List.set_cons_zero, List.set_cons_succ]
  have hO2 := hO.on hC2
  have hB2 := Below.call hB hC2
  obtain ⟨l0, l1, _⟩ := hOb0.all2
  go_wp2_with fail
  refine (Good_any N M _).mono ?_
  rintro e w3 ⟨rfl, k3⟩
  have hO3 := hO2.on k3
  have hP3 := hOb0.on k3
  have hB3 := Below.call hB2 k3
  clear l0 l1 HC
  obtain ⟨l0, l1, _⟩ := hP3.all2
  obtain ⟨z0, z1, f0, f1⟩ := hO3.all2
  rcases goodV_cases N M with hg | hg
  · rw [hg]
    have hO4 := hO3.put2 (.int .i64 N) (.int .i64 M)
    obtain ⟨q0, q1, _⟩ := hO4.all2
    have HB := Lib.hid (Below.put2 hB3 (by omega : w.heap.size ≤ w.heap.size + 1) (.int .i64 N) (.int .i64 M))
    have HG := Lib.hid hg
    clear hO4 hg
    go_wp2
    exact bodyPost_ret (v := .tuple #[.agg #[.int .i64 N, .int .i64 M], .int .i64 0]) (by simp [results, Tryd.results33, go_sem, q0, q1]) rfl ⟨by rw [← HNM.out.1, ← HNM.out.2, HG.out]; simp [pick0, err5], HB.out⟩
  · rw [hg]
    have hO4 := hO3.put2 (.int .i64 0) (.int .i64 0)
    obtain ⟨q0, q1, _⟩ := hO4.all2
    have HB := Lib.hid (Below.put2 hB3 (by omega : w.heap.size ≤ w.heap.size + 1) (.int .i64 0) (.int .i64 0))
    have HG := Lib.hid hg
    clear hO4 hg
    go_wp2
    exact bodyPost_ret (v := .tuple #[.agg #[.int .i64 0, .int .i64 0], .int .i64 5]) (by simp [results, Tryd.results33, go_sem, q0, q1]) rfl ⟨by rw [← HNM.out.1, ← HNM.out.2, HG.out]; simp [pick0, err5], HB.out⟩

set_option maxRecDepth 100000 in
set_option maxHeartbeats 800000 in
theorem RMid_any (X Y D X' Y' D' : Int) (w : World) (h1 : X.natAbs ≤ 1000000) (h2 : Y.natAbs ≤ 1000000) (h3 : 0 < D) (h4 : D ≤ 1000000) (k1 : X'.natAbs ≤ 1000000) (k2 : Y'.natAbs ≤ 1000000) (k3 : 0 < D') (k4 : D' ≤ 1000000) :
    Calls Tryd.prog 12 #[.agg #[.int .i64 X, .int .i64 Y, .int .i64 D], .agg #[.int .i64 X', .int .i64 Y', .int .i64 D']] w
    (RetR w ((X * D' + X' * D) / gMk (X * D' + X' * D) (Y * D' + Y' * D) (2 * D * D')) ((Y * D' + Y' * D) / gMk (X * D' + X' * D) (Y * D' + Y' * D) (2 * D * D')) (2 * D * D' / gMk (X * D' + X' * D) (Y * D' + Y' * D) (2 * D * D'))) := by
  have mb : ∀ a b : Int, a.natAbs ≤ 1000000 → b.natAbs ≤ 1000000 → -1000000000000 ≤ a * b ∧ a * b ≤ 1000000000000 := fun a b ha hb => by
    have h := Nat.mul_le_mul ha hb
    rw [← Int.natAbs_mul] at h
    omega
  have m1 := mb X D' h1 (by omega)
  have m2 := mb X' D k1 (by omega)
  have m3 := mb Y D' h2 (by omega)
  have m4 := mb Y' D k2 (by omega)
  have m5 := mb D D' (by omega) (by omega)
  have m6 : 0 < D * D' := Int.mul_pos h3 k3
  have e6 : 2 * D * D' = 2 * (D * D') := Int.mul_assoc _ _ _
  obtain ⟨P, hP⟩ : ∃ P, P = X * D' + X' * D := ⟨_, rfl⟩
  obtain ⟨Q, hQ⟩ : ∃ Q, Q = Y * D' + Y' * D := ⟨_, rfl⟩
  obtain ⟨Z, hZ⟩ : ∃ Z, Z = 2 * D * D' := ⟨_, rfl⟩
  have HC : Hid (∀ u, Calls Tryd.prog 30 #[.int .i64 P, .int .i64 Q, .int .i64 Z] u (RetR u (P / gMk P Q Z) (Q / gMk P Q Z) (Z / gMk P Q Z))) := Lib.hid fun u =>
    Make_ref P Q Z u (by omega) (by omega) (by omega) (by omega)
  obtain ⟨x, hx⟩ : ∃ x, x = P / gMk P Q Z := ⟨_, rfl⟩
  obtain ⟨y, hy⟩ : ∃ y, y = Q / gMk P Q Z := ⟨_, rfl⟩
  obtain ⟨d, hd⟩ : ∃ d, d = Z / gMk P Q Z := ⟨_, rfl⟩
  rw [← hx, ← hy, ← hd] at HC
  rw [hP, hQ, hZ] at HC hx hy hd
  have HE := Lib.hid (And.intro hx (And.intro hy hd))
  clear hP hQ hZ hx hy hd e6
  go_enter Tryd.func12, Tryd.ntmps12
  go_upto_region 1 with fail
  refine wp_new3 fun W hS hT hO hB => ?_
  obtain ⟨r0, r1, r2⟩ := hS.rules3
  obtain ⟨s0, s1, s2⟩ := hT.rules3
  have hW := Below.refl W.heap.size W
  have b1 : -9223372036854775808 ≤ 2 * D := by omega
  have b2 : 2 * D ≤ 9223372036854775807 := by omega
  have b3 : -9223372036854775808 ≤ 2 * D * D' := by rw [Int.mul_assoc]; omega
  have b4 : 2 * D * D' ≤ 9223372036854775807 := by rw [Int.mul_assoc]; omega
  go_wp2_with fail
  refine (HC.out _).mono ?_
  rintro e w2 ⟨rfl, k5⟩
  have hO2 := hO.on k5
  obtain ⟨z0, z1, z2, f0, f1, f2⟩ := hO2.all3
  have hO3 := hO2.put3 (.int .i64 x) (.int .i64 y) (.int .i64 d)
  obtain ⟨q0, q1, q2, _⟩ := hO3.all3
  have HB := Lib.hid (Below.put3 (Below.call hB k5) (by omega : w.heap.size ≤ w.heap.size + 1 + 1) (.int .i64 x) (.int .i64 y) (.int .i64 d))
  clear hO3
  go_wp2
  exact bodyPost_ret (v := .agg #[.int .i64 x, .int .i64 y, .int .i64 d]) (by simp [results, Tryd.results12, go_sem, q0, q1, q2]) rfl ⟨by rw [HE.out.1, HE.out.2.1, HE.out.2.2], HB.out⟩

/-- In, by the reference. -/
def inR5 (a b c d X Y D : Int) : Bool := decide (a * D ≤ X) && decide (X ≤ c * D) && decide (b * D ≤ Y) && decide (Y ≤ d * D)
set_option maxRecDepth 100000 in
set_option maxHeartbeats 1600000 in
theorem RIn_any (a b c d X Y D : Int) (w : World) (a0 : a.natAbs ≤ 4294967296) (b0 : b.natAbs ≤ 4294967296) (c0 : c.natAbs ≤ 4294967296) (d0 : d.natAbs ≤ 4294967296) (h3 : 0 < D) (h4 : D ≤ 1000) :
    Calls Tryd.prog 26 #[.agg #[.int .i64 a, .int .i64 b, .int .i64 c, .int .i64 d], .agg #[.int .i64 X, .int .i64 Y, .int .i64 D]] w (RetB w (inR5 a b c d X Y D)) := by
  have mb : ∀ a : Int, a.natAbs ≤ 4294967296 → -9223372036854775808 ≤ a * D ∧ a * D ≤ 9223372036854775807 := fun a ha => by
    have h := Nat.mul_le_mul ha (show D.natAbs ≤ 1000 by omega)
    rw [← Int.natAbs_mul] at h
    omega
  obtain ⟨m1, m2⟩ := mb a a0
  obtain ⟨m3, m4⟩ := mb b b0
  obtain ⟨m5, m6⟩ := mb c c0
  obtain ⟨m7, m8⟩ := mb d d0
  clear mb a0 b0 c0 d0 h3 h4
  obtain ⟨t1, e1⟩ : ∃ t, decide (a * D ≤ X) = t := ⟨_, rfl⟩
  obtain ⟨t2, e2⟩ : ∃ t, decide (X ≤ c * D) = t := ⟨_, rfl⟩
  obtain ⟨t3, e3⟩ : ∃ t, decide (b * D ≤ Y) = t := ⟨_, rfl⟩
  have HV : Hid (inR5 a b c d X Y D = (t1 && t2 && t3 && decide (Y ≤ d * D))) := Lib.hid (by rw [inR5, e1, e2, e3])
  go_enter Tryd.func26, Tryd.ntmps26
  go_upto_region 1 with fail
  refine wp_new2 fun W hS hT hB => ?_
  obtain ⟨r0, r1, r2, r3⟩ := hS.rules4
  obtain ⟨s0, s1, s2⟩ := hT.rules3
  have hW := Below.refl W.heap.size W
  cases t1
  · go_wp2
    go_returns
    exact ⟨by rw [HV.out]; simp, hB⟩
  · cases t2
    · go_wp2
      go_returns
      exact ⟨by rw [HV.out]; simp, hB⟩
    · cases t3
      · go_wp2
        go_returns
        exact ⟨by rw [HV.out]; simp, hB⟩
      · go_wp2
        go_returns
        exact ⟨by rw [HV.out]; simp, hB⟩
end Go.Proofs.YthcpaagfgkbjaaaDoor
