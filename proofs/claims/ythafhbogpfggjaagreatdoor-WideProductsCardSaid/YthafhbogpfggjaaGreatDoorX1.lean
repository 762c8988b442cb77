/-
  The law WideProducts: the walk.
-/
import Derived.Test.YthafhbogpfggjaaGreatDoorX0
namespace Go.Proofs.YthafhbogpfggjaaGreatDoor
open Go.RowKit Mag

set_option maxRecDepth 100000 in
set_option maxHeartbeats 3200000 in
theorem WideProducts_any {w : World} {A : Option Addr} {l : List Int} {c : Nat} (h : IntsIs w A l c) (ht : Tab w) : Calls Tryz.prog 6 #[.slice A l.length c] w (RetBool w true) := by
  go_enter Tryz.func6, Tryz.ntmps6
  go_wp2_with fail
  refine (Number_sm h 0 (by omega) 0 rfl).mono ?_
  rintro e w1 ⟨a, ba, x, rfl, k1, hx⟩
  go_upto_region 2 with fail
  refine wp_new1 fun w2 hX k2 => ?_
  have b1 := Below.call k1 k2
  have hx1 := hx.on k2
  clear k1 k2 hx
  go_wp2_with fail
  refine (Number_sm (h.on b1) 6 (by omega) 6 rfl).mono ?_
  rintro e w3 ⟨b, bb, y, rfl, k3, hy⟩
  go_upto_region 3 with fail
  refine wp_new1 fun w4 hY k4 => ?_
  have b2 := Below.call k3 k4
  have hx := hx1.on b2
  have hy1 := hy.on k4
  have hX2 := hX.on b2
  replace b1 := Below.call b1 b2
  clear hy k3 k4 hX hx1 b2 h
  obtain ⟨x0, x1⟩ := hX2.rules2
  obtain ⟨y0, y1⟩ := hY.rules2
  have hW := Below.refl w4.heap.size w4
  go_wp2_with fail
  refine (wider_any hx (ba.top (by omega))).mono ?_
  rintro e w5 ⟨p, rfl, k5, hp⟩
  go_upto_region 4 with fail
  refine wp_new1 fun w6 hP k6 => ?_
  have b5 := Below.call k5 k6
  go_wp2_with fail
  refine (wider_any (hy1.on b5) (bb.top (by omega))).mono ?_
  rintro e w7 ⟨q, rfl, k7, hq⟩
  go_upto_region 5 with fail
  refine wp_new1 fun w8 hQ k8 => ?_
  have b7 := Below.call k7 k8
  obtain ⟨p0, p1⟩ := (hP.on b7).all2
  obtain ⟨q0, q1⟩ := hQ.all2
  go_wp2_with fail
  refine (mul_sm ((hp.on k6).on b7) (hq.on k8) (ba.mul bb) (by omega)).mono ?_
  rintro e w9 ⟨r, rfl, k9, hr⟩
  go_upto_region 6 with fail
  refine wp_new1 fun w10 hR k10 => ?_
  have b9 := Below.call (Below.call b5 b7) (Below.call k9 k10)
  have hP := hR
  have hp := hr.on k10
  replace hX := hX2.on b9
  replace hY := hY.on b9
  replace hx := hx.on b9
  replace hy := hy1.on b9
  replace b1 := Below.call b1 b9
  replace ht := ht.on b1
  have hnx := ba.len hx
  have hny := bb.len hy
  clear x0 x1 y0 y1 p0 p1 q0 q1 hQ hq hr k5 k6 k7 k8 k9 k10 b5 b7 b9 hR hX2 hy1
  refine wp_region_specs w10 [Spec.eq (.bool true), Spec.eq (.bool true), Spec.eq (.bool true), Spec.eq (.bool true), Spec.eq (.bool true), Spec.eq (.int .i64 0), Spec.eq (.bool true), Spec.eq (.bool true), Spec.eq (.bool true), Spec.eq (.agg #[.bool r.neg, .slice r.A r.n r.c]), Spec.eq (.agg #[.bool x.neg, .slice x.A x.n x.c]), Spec.eq (.agg #[.bool y.neg, .slice y.A y.n y.c]), sN (a * b), Spec.eq (.bool true), Spec.eq (.bool true), Spec.eq (.bool true), Spec.eq (.bool true), Spec.eq (.bool true), Spec.eq (.bool true)]
      (by kernel_rfl) (by kernel_rfl) rfl (by kernel_rfl) (Below.drew (Below.refl _ _)) ?_ ?_
  ·
    refine RegSteps.cons ?_ ?_
    · intro _ az wz hC hF hD _ K hK
      have q6 : az.tmps[6]? = some (.bool true) := hF 6 rfl
      clear hF hD
      refine want_none rfl ?_
      go_simp
      exact hK _ _ hC (Below.refl _ _) rfl
    refine RegSteps.cons ?_ ?_
    · intro _ az wz hC hF hD _ K hK
      obtain ⟨_, q31, rfl⟩ := dep hD 0 rfl rfl rfl rfl
      clear hF hD
      refine want_none rfl ?_
      go_simp
      exact hK _ _ hC (Below.refl _ _) rfl
    refine RegSteps.cons ?_ ?_
    · intro _ az wz hC hF hD _ K hK
      have q8 : az.tmps[8]? = some (.bool true) := hF 8 rfl
      obtain ⟨_, qg, rfl⟩ := dep hD 1 rfl rfl rfl rfl
      clear hF hD
      refine want_yes rfl rfl rfl qg ?_
      go_simp
      exact hK _ _ hC (Below.refl _ _) rfl
    refine RegSteps.cons ?_ ?_
    · intro _ az wz hC hF hD _ K hK
      obtain ⟨_, q32, rfl⟩ := dep hD 1 rfl rfl rfl rfl
      obtain ⟨_, q33, rfl⟩ := dep hD 2 rfl rfl rfl rfl
      clear hF hD
      refine want_none rfl ?_
      go_simp
      exact hK _ _ hC (Below.refl _ _) rfl
    refine RegSteps.cons ?_ ?_
    · intro _ az wz hC hF hD _ K hK
      obtain ⟨_, q34, rfl⟩ := dep hD 3 rfl rfl rfl rfl
      clear hF hD
      refine want_none rfl ?_
      go_simp
      exact hK _ _ hC (Below.refl _ _) rfl
    refine RegSteps.cons ?_ ?_
    · intro _ az wz hC hF hD _ K hK
      have q10 : az.tmps[10]? = some (.int .i64 0) := hF 10 rfl
      obtain ⟨_, qg, rfl⟩ := dep hD 4 rfl rfl rfl rfl
      clear hF hD
      refine want_yes rfl rfl rfl qg ?_
      go_simp
      exact hK _ _ hC (Below.refl _ _) rfl
    refine RegSteps.cons ?_ ?_
    · intro _ az wz hC hF hD _ K hK
      obtain ⟨_, q36, rfl⟩ := dep hD 5 rfl rfl rfl rfl
      obtain ⟨_, qg, rfl⟩ := dep hD 4 rfl rfl rfl rfl
      clear hF hD
      refine want_yes rfl rfl rfl qg ?_
      go_simp
      exact hK _ _ hC (Below.refl _ _) rfl
    refine RegSteps.cons ?_ ?_
    · intro _ az wz hC hF hD _ K hK
      obtain ⟨_, q35, rfl⟩ := dep hD 4 rfl rfl rfl rfl
      obtain ⟨_, q37, rfl⟩ := dep hD 6 rfl rfl rfl rfl
      clear hF hD
      refine want_none rfl ?_
      go_simp
      exact hK _ _ hC (Below.refl _ _) rfl
    refine RegSteps.cons ?_ ?_
    · intro _ az wz hC hF hD _ K hK
      obtain ⟨_, q38, rfl⟩ := dep hD 7 rfl rfl rfl rfl
      clear hF hD
      refine want_none rfl ?_
      go_simp
      exact hK _ _ hC (Below.refl _ _) rfl
    refine RegSteps.cons ?_ ?_
    · intro _ az wz hC hF hD _ K hK
      have q9 : az.tmps[9]? = some (.pointer (some ⟨w9.heap.size, 0, none⟩)) := hF 9 rfl
      obtain ⟨_, qg, rfl⟩ := dep hD 8 rfl rfl rfl rfl
      obtain ⟨l0, l1, _⟩ := (hP.on hC).all2
      clear hF hD
      refine want_yes rfl rfl rfl qg ?_
      go_simp
      exact hK _ _ hC (Below.refl _ _) rfl
    refine RegSteps.cons ?_ ?_
    · intro _ az wz hC hF hD _ K hK
      have q3 : az.tmps[3]? = some (.pointer (some ⟨w1.heap.size, 0, none⟩)) := hF 3 rfl
      obtain ⟨_, qg, rfl⟩ := dep hD 8 rfl rfl rfl rfl
      obtain ⟨l0, l1, _⟩ := (hX.on hC).all2
      clear hF hD
      refine want_yes rfl rfl rfl qg ?_
      go_simp
      exact hK _ _ hC (Below.refl _ _) rfl
    refine RegSteps.cons ?_ ?_
    · intro _ az wz hC hF hD _ K hK
      have q4 : az.tmps[4]? = some (.pointer (some ⟨w3.heap.size, 0, none⟩)) := hF 4 rfl
      obtain ⟨_, qg, rfl⟩ := dep hD 8 rfl rfl rfl rfl
      obtain ⟨l0, l1, _⟩ := (hY.on hC).all2
      clear hF hD
      refine want_yes rfl rfl rfl qg ?_
      go_simp
      exact hK _ _ hC (Below.refl _ _) rfl
    refine RegSteps.cons ?_ ?_
    · intro _ az wz hC hF hD _ K hK
      obtain ⟨_, q41, rfl⟩ := dep hD 10 rfl rfl rfl rfl
      obtain ⟨_, q42, rfl⟩ := dep hD 11 rfl rfl rfl rfl
      obtain ⟨_, qg, rfl⟩ := dep hD 8 rfl rfl rfl rfl
      clear hF hD
      refine want_yes rfl rfl rfl qg ?_
      go_simp
      refine (rMul_any (hx.on hC) (hy.on hC) (by unfold many; omega)).mono ?_
      rintro e wy ⟨x, rfl, k, hx⟩
      exact hK _ _ (Below.call hC k) k ⟨x, rfl, hx⟩
    refine RegSteps.cons ?_ ?_
    · intro _ az wz hC hF hD _ K hK
      obtain ⟨_, q40, rfl⟩ := dep hD 9 rfl rfl rfl rfl
      obtain ⟨_, q43, x43, rfl, hx43⟩ := dep hD 12 rfl rfl rfl rfl
      obtain ⟨_, qg, rfl⟩ := dep hD 8 rfl rfl rfl rfl
      clear hF hD
      refine want_yes rfl rfl rfl qg ?_
      go_simp
      refine (equal_same (hp.on hC) hx43 (ht.on hC)).mono ?_
      rintro e wy ⟨rfl, k⟩
      exact hK _ _ (Below.call hC k) k rfl
    refine RegSteps.cons ?_ ?_
    · intro _ az wz hC hF hD _ K hK
      obtain ⟨_, q39, rfl⟩ := dep hD 8 rfl rfl rfl rfl
      obtain ⟨_, q44, rfl⟩ := dep hD 13 rfl rfl rfl rfl
      clear hF hD
      refine want_none rfl ?_
      go_simp
      exact hK _ _ hC (Below.refl _ _) rfl
    refine RegSteps.cons ?_ ?_
    · intro _ az wz hC hF hD _ K hK
      obtain ⟨_, q45, rfl⟩ := dep hD 14 rfl rfl rfl rfl
      clear hF hD
      refine want_none rfl ?_
      go_simp
      exact hK _ _ hC (Below.refl _ _) rfl
    refine RegSteps.cons ?_ ?_
    · intro _ az wz hC hF hD _ K hK
      obtain ⟨_, qg, rfl⟩ := dep hD 15 rfl rfl rfl rfl
      clear hF hD
      refine want_yes rfl rfl rfl qg ?_
      go_simp
      refine (lives3_any _ (ht.on hC)).mono ?_
      rintro e wy ⟨rfl, k⟩
      exact hK _ _ (Below.call hC k) k rfl
    refine RegSteps.cons ?_ ?_
    · intro _ az wz hC hF hD _ K hK
      obtain ⟨_, q46, rfl⟩ := dep hD 15 rfl rfl rfl rfl
      obtain ⟨_, q47, rfl⟩ := dep hD 16 rfl rfl rfl rfl
      clear hF hD
      refine want_none rfl ?_
      go_simp
      exact hK _ _ hC (Below.refl _ _) rfl
    refine RegSteps.cons ?_ ?_
    · intro _ az wz hC hF hD _ K hK
      obtain ⟨_, q48, rfl⟩ := dep hD 17 rfl rfl rfl rfl
      clear hF hD
      refine want_none rfl ?_
      go_simp
      exact hK _ _ hC (Below.refl _ _) rfl
    exact RegSteps.nil
  intro w11 hC
  rintro _ rfl _ rfl _ rfl _ rfl _ rfl _ rfl _ rfl _ rfl _ rfl _ rfl _ rfl _ rfl _ ⟨y43, rfl, _⟩ _ rfl _ rfl _ rfl _ rfl _ rfl _ rfl
  simp only [FinOK, Act.put, List.setIfInBounds_toArray, List.set_cons_zero, List.set_cons_succ]
  go_wp2
  go_returns
  exact ⟨rfl, Below.call b1 hC⟩
end Go.Proofs.YthafhbogpfggjaaGreatDoor
