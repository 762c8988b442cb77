/-
  The law WideDivisors: the walk.
-/
import Derived.Test.YthafhbogpfggjaaGreatDoorX9
import Derived.Test.YthafhbogpfggjaaGreatDoorE12
namespace Go.Proofs.YthafhbogpfggjaaGreatDoor
open Go.RowKit Mag

/-- A slot that points at a new block. -/
def sPtr (B : Nat) (t : TypeId) (cs : List Value) : Spec Bel := ⟨fun v w => ∃ g, v = .pointer (some ⟨g, 0, none⟩) ∧ B ≤ g ∧ Own w g t cs, fun ⟨x, e, h, o⟩ u => ⟨x, e, h, o.on u⟩⟩
theorem NI.len0_ {x : IV} {w : World} {z : Int} (h : NI x w z) : (x.n = 0 ↔ z = 0) := by
  have h1 := (h.nd rfl).len_pos
  simp only at h1
  omega
theorem compare_eq_ {x y : IV} {w : World} {a b : Int} (hx : x.is w a) (hy : y.is w b) (h : a = b) : Calls Tryz.prog 53 #[.agg #[.bool x.neg, .slice x.A x.n x.c], .agg #[.bool y.neg, .slice y.A y.n y.c]] w (RetInt w 0) := by
  have := compare_iv hx hy
  rwa [cmpI_eq h] at this
theorem sign_zero {x : IV} {w : World} {a : Int} (hx : x.is w a) (h : a = 0) : Calls Tryz.prog 55 #[.agg #[.bool x.neg, .slice x.A x.n x.c]] w (RetInt w 0) := by
  have := sign_iv hx
  rwa [cmpI_eq h] at this
set_option maxRecDepth 100000 in
set_option maxHeartbeats 6400000 in
theorem WideDivisors_any {w : World} {A : Option Addr} {l : List Int} {c : Nat} (h : IntsIs w A l c) (ht0 : Tab w) : Calls Tryz.prog 10 #[.slice A l.length c] w (RetBool w true) := by
  go_enter Tryz.func10, Tryz.ntmps10
  go_wp2_with fail
  refine (Number_sm h 12 (by omega) 12 rfl).mono ?_
  rintro e w1 ⟨Z, bZ, z, rfl, k1, hz⟩
  go_upto_region 2 with fail
  refine wp_new1 fun w2 hZ k2 => ?_
  have b1 := Below.call k1 k2
  replace hz := hz.on k2
  have hl := h.on b1
  have hnz := bZ.len hz
  clear k1 k2
  refine wp_region_last w2 [Spec.eq (.slice A l.length c), sNS 18, Spec.eq (.agg #[.bool z.neg, .slice z.A z.n z.c]), sNS 36, sPtr w2.heap.size 44 ([.bool false, .slice none 0 0])]
      rfl (by kernel_rfl) (by kernel_rfl) rfl (by kernel_rfl) (by kernel_rfl) (Below.drew (Below.refl _ _)) ?_ ?_
  ·
    refine RegSteps.cons ?_ ?_
    · intro _ az wz hC hF hD _ K hK
      have q0 : az.tmps[0]? = some (.slice A l.length c) := hF 0 rfl
      clear hF hD
      refine want_none rfl ?_
      go_simp
      exact hK _ _ hC (Below.refl _ _) rfl
    refine RegSteps.cons ?_ ?_
    · intro _ az wz hC hF hD _ K hK
      obtain ⟨_, q19, rfl⟩ := dep hD 0 rfl rfl rfl rfl
      clear hF hD
      refine want_none rfl ?_
      go_simp
      refine (Number_ns (k := 18) (hl.on hC) 0 (by omega) 0 rfl (by omega)).mono ?_
      rintro e wy ⟨x, rfl, k, hx⟩
      exact hK _ _ (Below.call hC k) k ⟨x, rfl, hx⟩
    refine RegSteps.cons ?_ ?_
    · intro _ az wz hC hF hD _ K hK
      have q3 : az.tmps[3]? = some (.pointer (some ⟨w1.heap.size, 0, none⟩)) := hF 3 rfl
      obtain ⟨l0, l1, _⟩ := (hZ.on hC).all2
      clear hF hD
      refine want_none rfl ?_
      go_simp
      exact hK _ _ hC (Below.refl _ _) rfl
    refine RegSteps.cons ?_ ?_
    · intro _ az wz hC hF hD _ K hK
      obtain ⟨_, q20, x20, rfl, hx20⟩ := dep hD 1 rfl rfl rfl rfl
      obtain ⟨_, q21, rfl⟩ := dep hD 2 rfl rfl rfl rfl
      obtain ⟨zz, bz, hn⟩ := hx20
      have lz := bz.len hn
      clear hF hD
      refine want_none rfl ?_
      go_simp
      refine (rMul_any hn (hz.on hC) (by unfold many; omega)).mono ?_
      rintro e wy ⟨x, rfl, k, hx⟩
      exact hK _ _ (Below.call hC k) k ⟨x, rfl, _, bz.mul bZ, hx⟩
    refine RegSteps.cons ?_ ?_
    · intro _ az wz hC hF hD _ K hK
      clear hF hD
      refine want_none rfl ?_
      go_simp
      exact hK _ _ (Below.alloc hC hC.size _) (below_new _ _) ⟨_, rfl, hC.size, Own.new wz 44 [.bool false, .slice none 0 0]⟩
    exact RegSteps.nil
  intro w3 hC3
  rintro _ rfl _ ⟨y20, rfl, _⟩ _ rfl _ ⟨y22, rfl, hy22⟩ _ ⟨y4, rfl, hy4⟩
  simp only [List.dropLast, FinOK, Act.put, List.setIfInBounds_toArray, List.set_cons_zero, List.set_cons_succ]
  intro K hK
  refine want_none rfl ?_
  obtain ⟨z0, z1, f0, f1⟩ := hy4.2.all2
  go_simp
  refine hK _ _ ?_
  clear hK K
  obtain ⟨X, bX, hu⟩ := hy22
  have hU := hy4.2.put2 (.bool y22.neg) (.slice y22.A y22.n y22.c)
  replace hu := hu.put2 hy4.2 (by simp) (by simp) (.bool y22.neg) (.slice y22.A y22.n y22.c)
  have kk := Below.put2 hC3 hy4.1 (.bool y22.neg) (.slice y22.A y22.n y22.c)
  clear hy4 hC3
  generalize (w3.setCell ⟨y4, 0, none⟩ (.bool y22.neg)).setCell ⟨y4, 1, none⟩ (.slice y22.A y22.n y22.c) = w4 at hU hu kk ⊢
  replace b1 := Below.call b1 kk
  replace hz := hz.on kk
  replace hZ := hZ.on kk
  replace hl := hl.on kk
  clear kk
  go_wp2_with fail
  refine wp_region_last w4 [Spec.eq (.slice A l.length c), sNS 18, Spec.eq (.agg #[.bool z.neg, .slice z.A z.n z.c]), sNS 36, sPtr w4.heap.size 44 ([.bool false, .slice none 0 0])]
      rfl (by kernel_rfl) (by kernel_rfl) rfl (by kernel_rfl) (by kernel_rfl) (Below.drew (Below.refl _ _)) ?_ ?_
  ·
    refine RegSteps.cons ?_ ?_
    · intro _ az wz hC hF hD _ K hK
      have q0 : az.tmps[0]? = some (.slice A l.length c) := hF 0 rfl
      clear hF hD
      refine want_none rfl ?_
      go_simp
      exact hK _ _ hC (Below.refl _ _) rfl
    refine RegSteps.cons ?_ ?_
    · intro _ az wz hC hF hD _ K hK
      obtain ⟨_, q23, rfl⟩ := dep hD 0 rfl rfl rfl rfl
      clear hF hD
      refine want_none rfl ?_
      go_simp
      refine (Number_ns (k := 18) (hl.on hC) 6 (by omega) 6 rfl (by omega)).mono ?_
      rintro e wy ⟨x, rfl, k, hx⟩
      exact hK _ _ (Below.call hC k) k ⟨x, rfl, hx⟩
    refine RegSteps.cons ?_ ?_
    · intro _ az wz hC hF hD _ K hK
      have q3 : az.tmps[3]? = some (.pointer (some ⟨w1.heap.size, 0, none⟩)) := hF 3 rfl
      obtain ⟨l0, l1, _⟩ := (hZ.on hC).all2
      clear hF hD
      refine want_none rfl ?_
      go_simp
      exact hK _ _ hC (Below.refl _ _) rfl
    refine RegSteps.cons ?_ ?_
    · intro _ az wz hC hF hD _ K hK
      obtain ⟨_, q24, x24, rfl, hx24⟩ := dep hD 1 rfl rfl rfl rfl
      obtain ⟨_, q25, rfl⟩ := dep hD 2 rfl rfl rfl rfl
      obtain ⟨zz, bz, hn⟩ := hx24
      have lz := bz.len hn
      clear hF hD
      refine want_none rfl ?_
      go_simp
      refine (rMul_any hn (hz.on hC) (by unfold many; omega)).mono ?_
      rintro e wy ⟨x, rfl, k, hx⟩
      exact hK _ _ (Below.call hC k) k ⟨x, rfl, _, bz.mul bZ, hx⟩
    refine RegSteps.cons ?_ ?_
    · intro _ az wz hC hF hD _ K hK
      clear hF hD
      refine want_none rfl ?_
      go_simp
      exact hK _ _ (Below.alloc hC hC.size _) (below_new _ _) ⟨_, rfl, hC.size, Own.new wz 44 [.bool false, .slice none 0 0]⟩
    exact RegSteps.nil
  intro w5 hC5
  rintro _ rfl _ ⟨y24, rfl, _⟩ _ rfl _ ⟨y26, rfl, hy26⟩ _ ⟨y5, rfl, hy5⟩
  simp only [List.dropLast, FinOK, Act.put, List.setIfInBounds_toArray, List.set_cons_zero, List.set_cons_succ]
  intro K hK
  refine want_none rfl ?_
  obtain ⟨z0, z1, f0, f1⟩ := hy5.2.all2
  go_simp
  refine hK _ _ ?_
  clear hK K
  obtain ⟨Y, bY, hv⟩ := hy26
  have hV := hy5.2.put2 (.bool y26.neg) (.slice y26.A y26.n y26.c)
  replace hv := hv.put2 hy5.2 (by simp) (by simp) (.bool y26.neg) (.slice y26.A y26.n y26.c)
  have kk := Below.put2 hC5 hy5.1 (.bool y26.neg) (.slice y26.A y26.n y26.c)
  clear hy5 hC5
  generalize (w5.setCell ⟨y5, 0, none⟩ (.bool y26.neg)).setCell ⟨y5, 1, none⟩ (.slice y26.A y26.n y26.c) = w6 at hV hv kk ⊢
  replace b1 := Below.call b1 kk
  replace hu := hu.on kk
  replace hU := hU.on kk
  clear kk hz hZ hl h hnz
  obtain ⟨u, eu⟩ : ∃ u, u = y22 := ⟨_, rfl⟩
  obtain ⟨v, ev⟩ : ∃ v, v = y26 := ⟨_, rfl⟩
  rw [← eu] at hu hU
  rw [← ev] at hv hV
  clear eu ev
  obtain ⟨u0, u1⟩ := hU.rules2
  have hW := Below.refl w6.heap.size w6
  go_wp2_with fail
  refine (wider_any hu (bX.top (by omega))).mono ?_
  rintro e w7 ⟨x, rfl, k_, hx⟩
  clear hW u0 u1
  go_upto_region 5 with fail
  refine wp_new1 fun w8 hX k2_ => ?_
  have kk_ := Below.call k_ k2_
  replace hU := hU.on kk_
  replace hu := hu.on kk_
  replace hV := hV.on kk_
  replace hv := hv.on kk_
  replace hx := hx.on k2_
  replace b1 := Below.call b1 kk_
  clear k_ k2_ kk_
  obtain ⟨v0, v1⟩ := hV.rules2
  have hW := Below.refl w8.heap.size w8
  go_wp2_with fail
  refine (wider_any hv (bY.top (by omega))).mono ?_
  rintro e w9 ⟨y, rfl, k_, hy⟩
  clear hW v0 v1
  go_upto_region 6 with fail
  refine wp_new1 fun w10 hY k2_ => ?_
  have kk_ := Below.call k_ k2_
  replace hU := hU.on kk_
  replace hu := hu.on kk_
  replace hV := hV.on kk_
  replace hv := hv.on kk_
  replace hX := hX.on kk_
  replace hx := hx.on kk_
  replace hy := hy.on k2_
  replace b1 := Below.call b1 kk_
  clear k_ k2_ kk_
  obtain ⟨x0, x1⟩ := hX.rules2
  obtain ⟨y0, y1⟩ := hY.rules2
  have hW := Below.refl w10.heap.size w10
  go_wp2_with fail
  refine (gcd_iv hx hy).mono ?_
  rintro e w11 ⟨g, rfl, k_, hg⟩
  clear hW x0 x1 y0 y1
  go_upto_region 7 with fail
  refine wp_new1 fun w12 hG k2_ => ?_
  have kk_ := Below.call k_ k2_
  replace hU := hU.on kk_
  replace hu := hu.on kk_
  replace hV := hV.on kk_
  replace hv := hv.on kk_
  replace hX := hX.on kk_
  replace hx := hx.on kk_
  replace hY := hY.on kk_
  replace hy := hy.on kk_
  replace hg := hg.on k2_
  replace b1 := Below.call b1 kk_
  clear k_ k2_ kk_
  have hnu := bX.len hu
  have hnv := bY.len hv
  obtain ⟨G, hGe⟩ : ∃ G : Nat, G = Int.gcd X Y := ⟨_, rfl⟩
  rw [← hGe] at hg
  have hGr : Nat.gcd X.natAbs Y.natAbs = G := hGe.symm
  have HGR := Lib.hid hGr
  have HGE := Lib.hid hGe
  clear hGr hGe
  go_wp2_with fail
  refine wp_region_specs w12 [Spec.eq (.bool true), Spec.eq (.bool false), Spec.eq (.bool false), Spec.eq (.bool true), Spec.eq (.bool false), Spec.eq (.bool false), Spec.eq (.bool false), Spec.eq (.agg #[.bool g.neg, .slice g.A g.n g.c]), Spec.eq (.agg #[.bool u.neg, .slice u.A u.n u.c]), Spec.eq (.agg #[.bool v.neg, .slice v.A v.n v.c]), sN (G : Int), Spec.eq (.bool true), Spec.eq (.bool false), Spec.eq (.bool false)]
      (by kernel_rfl) (by kernel_rfl) rfl (by kernel_rfl) (Below.drew (Below.refl _ _)) ?_ ?_
  ·
    refine RegSteps.cons ?_ ?_
    · intro _ az wz hC hF hD _ K hK
      have q7 : az.tmps[7]? = some (.bool true) := hF 7 rfl
      clear hF hD
      refine want_none rfl ?_
      go_simp
      exact hK _ _ hC (Below.refl _ _) rfl
    refine RegSteps.cons ?_ ?_
    · intro _ az wz hC hF hD _ K hK
      obtain ⟨_, q40, rfl⟩ := dep hD 0 rfl rfl rfl rfl
      clear hF hD
      refine want_none rfl ?_
      go_simp
      exact hK _ _ hC (Below.refl _ _) rfl
    refine RegSteps.cons ?_ ?_
    · intro _ az wz hC hF hD _ K hK
      obtain ⟨_, q41, rfl⟩ := dep hD 1 rfl rfl rfl rfl
      clear hF hD
      refine want_none rfl ?_
      go_simp
      exact hK _ _ hC (Below.refl _ _) rfl
    refine RegSteps.cons ?_ ?_
    · intro _ az wz hC hF hD _ K hK
      have q9 : az.tmps[9]? = some (.bool true) := hF 9 rfl
      obtain ⟨_, qg, rfl⟩ := dep hD 2 rfl rfl rfl rfl
      clear hF hD
      refine want_yes rfl rfl rfl qg ?_
      go_simp
      exact hK _ _ hC (Below.refl _ _) rfl
    refine RegSteps.cons ?_ ?_
    · intro _ az wz hC hF hD _ K hK
      obtain ⟨_, q43, rfl⟩ := dep hD 3 rfl rfl rfl rfl
      obtain ⟨_, qg, rfl⟩ := dep hD 2 rfl rfl rfl rfl
      clear hF hD
      refine want_yes rfl rfl rfl qg ?_
      go_simp
      exact hK _ _ hC (Below.refl _ _) rfl
    refine RegSteps.cons ?_ ?_
    · intro _ az wz hC hF hD _ K hK
      obtain ⟨_, q42, rfl⟩ := dep hD 2 rfl rfl rfl rfl
      obtain ⟨_, q44, rfl⟩ := dep hD 4 rfl rfl rfl rfl
      clear hF hD
      refine want_none rfl ?_
      go_simp
      exact hK _ _ hC (Below.refl _ _) rfl
    refine RegSteps.cons ?_ ?_
    · intro _ az wz hC hF hD _ K hK
      obtain ⟨_, q45, rfl⟩ := dep hD 5 rfl rfl rfl rfl
      clear hF hD
      refine want_none rfl ?_
      go_simp
      exact hK _ _ hC (Below.refl _ _) rfl
    refine RegSteps.cons ?_ ?_
    · intro _ az wz hC hF hD _ K hK
      have q10 : az.tmps[10]? = some (.pointer (some ⟨w11.heap.size, 0, none⟩)) := hF 10 rfl
      obtain ⟨_, qg, rfl⟩ := dep hD 6 rfl rfl rfl rfl
      obtain ⟨l0, l1, _⟩ := (hG.on hC).all2
      clear hF hD
      refine want_yes rfl rfl rfl qg ?_
      go_simp
      exact hK _ _ hC (Below.refl _ _) rfl
    refine RegSteps.cons ?_ ?_
    · intro _ az wz hC hF hD _ K hK
      have q4 : az.tmps[4]? = some (.pointer (some ⟨y4, 0, none⟩)) := hF 4 rfl
      obtain ⟨_, qg, rfl⟩ := dep hD 6 rfl rfl rfl rfl
      obtain ⟨l0, l1, _⟩ := (hU.on hC).all2
      clear hF hD
      refine want_yes rfl rfl rfl qg ?_
      go_simp
      exact hK _ _ hC (Below.refl _ _) rfl
    refine RegSteps.cons ?_ ?_
    · intro _ az wz hC hF hD _ K hK
      have q5 : az.tmps[5]? = some (.pointer (some ⟨y5, 0, none⟩)) := hF 5 rfl
      obtain ⟨_, qg, rfl⟩ := dep hD 6 rfl rfl rfl rfl
      obtain ⟨l0, l1, _⟩ := (hV.on hC).all2
      clear hF hD
      refine want_yes rfl rfl rfl qg ?_
      go_simp
      exact hK _ _ hC (Below.refl _ _) rfl
    refine RegSteps.cons ?_ ?_
    · intro _ az wz hC hF hD _ K hK
      obtain ⟨_, q48, rfl⟩ := dep hD 8 rfl rfl rfl rfl
      obtain ⟨_, q49, rfl⟩ := dep hD 9 rfl rfl rfl rfl
      obtain ⟨_, qg, rfl⟩ := dep hD 6 rfl rfl rfl rfl
      clear hF hD
      refine want_yes rfl rfl rfl qg ?_
      go_simp
      refine (rGcd_any (hu.on hC) (hv.on hC) (by unfold many; omega) (by unfold many; omega)).mono ?_
      rintro e wy ⟨x, rfl, k, hx⟩
      rw [HGR.out] at hx
      exact hK _ _ (Below.call hC k) k ⟨x, rfl, hx⟩
    refine RegSteps.cons ?_ ?_
    · intro _ az wz hC hF hD _ K hK
      obtain ⟨_, q47, rfl⟩ := dep hD 7 rfl rfl rfl rfl
      obtain ⟨_, q50, x50, rfl, hx50⟩ := dep hD 10 rfl rfl rfl rfl
      obtain ⟨_, qg, rfl⟩ := dep hD 6 rfl rfl rfl rfl
      clear hF hD
      refine want_yes rfl rfl rfl qg ?_
      go_simp
      refine (equal_same (hg.on hC) hx50 ((ht0.on b1).on hC)).mono ?_
      rintro e wy ⟨rfl, k⟩
      exact hK _ _ (Below.call hC k) k rfl
    refine RegSteps.cons ?_ ?_
    · intro _ az wz hC hF hD _ K hK
      obtain ⟨_, q51, rfl⟩ := dep hD 11 rfl rfl rfl rfl
      obtain ⟨_, qg, rfl⟩ := dep hD 6 rfl rfl rfl rfl
      clear hF hD
      refine want_yes rfl rfl rfl qg ?_
      go_simp
      exact hK _ _ hC (Below.refl _ _) rfl
    refine RegSteps.cons ?_ ?_
    · intro _ az wz hC hF hD _ K hK
      obtain ⟨_, q46, rfl⟩ := dep hD 6 rfl rfl rfl rfl
      obtain ⟨_, q52, rfl⟩ := dep hD 12 rfl rfl rfl rfl
      clear hF hD
      refine want_none rfl ?_
      go_simp
      exact hK _ _ hC (Below.refl _ _) rfl
    exact RegSteps.nil
  intro w13 hC13
  rintro _ rfl _ rfl _ rfl _ rfl _ rfl _ rfl _ rfl _ rfl _ rfl _ rfl _ ⟨y50, rfl, _⟩ _ rfl _ rfl _ rfl
  simp only [FinOK, Act.put, List.setIfInBounds_toArray, List.set_cons_zero, List.set_cons_succ]
  replace b1 := Below.call b1 hC13
  replace hu := hu.on hC13
  replace hU := hU.on hC13
  replace hv := hv.on hC13
  replace hV := hV.on hC13
  replace hx := hx.on hC13
  replace hX := hX.on hC13
  replace hy := hy.on hC13
  replace hY := hY.on hC13
  replace hg := hg.on hC13
  replace hG := hG.on hC13
  clear hC13
  obtain ⟨g0, g1⟩ := hG.rules2
  have hW := Below.refl w13.heap.size w13
  rcases Nat.eq_zero_or_pos G with h0 | h0
  · have hX0 : X = 0 := (Int.gcd_eq_zero_iff.1 (HGE.out.symm.trans h0)).1
    have hY0 : Y = 0 := (Int.gcd_eq_zero_iff.1 (HGE.out.symm.trans h0)).2
    have hun : u.n = 0 := hu.len0_.2 hX0
    have hvn : v.n = 0 := hv.len0_.2 hY0
    have hU' := hU.rules2
    have hV' := hV.rules2
    obtain ⟨u0, u1⟩ := hU'
    obtain ⟨v0, v1⟩ := hV'
    rw [hun] at u1
    rw [hvn] at v1
    clear hX0 hY0 hun hvn hnu hnv
    go_wp2_with fail
    refine (sign_zero hg (by omega)).mono ?_
    rintro e w14 ⟨rfl, k1⟩
    go_wp2_with fail
    refine (lives3_any _ ((ht0.on b1).on k1)).mono ?_
    rintro e w15 ⟨rfl, k2⟩
    have HB := Lib.hid (Below.call (Below.call b1 k1) k2)
    go_wp2
    go_returns
    exact ⟨rfl, HB.out⟩
  · have hg0 : (G : Int) ≠ 0 := by omega
    have hcg : cmpI (G : Int) 0 = 1 := cmpI_gt (by omega)
    have HX := Lib.hid (show X % (G : Int) = 0 by rw [HGE.out]; exact Int.emod_eq_zero_of_dvd (Int.gcd_dvd_left ..))
    have HY := Lib.hid (show Y % (G : Int) = 0 by rw [HGE.out]; exact Int.emod_eq_zero_of_dvd (Int.gcd_dvd_right ..))
    have HQ := Lib.hid (show ((Int.gcd (X / (G : Int)) (Y / (G : Int)) : Nat) : Int) = 1 by
      have hp : 0 < Int.gcd X Y := by rw [← HGE.out]; exact h0
      have := Int.gcd_ediv_gcd_ediv_gcd hp
      rw [HGE.out, this]; rfl)
    go_wp2_with fail
    refine (sign_iv hg).mono ?_
    rintro e w14 ⟨rfl, k1⟩
    rw [hcg]
    clear hcg g0 g1 hW hu hU hv hV
    replace b1 := Below.call b1 k1
    replace hx := hx.on k1
    replace hX := hX.on k1
    replace hy := hy.on k1
    replace hY := hY.on k1
    replace hg := hg.on k1
    replace hG := hG.on k1
    clear k1
    obtain ⟨x0, x1⟩ := hX.rules2
    obtain ⟨g0, g1⟩ := hG.rules2
    have hW := Below.refl w14.heap.size w14
    go_wp2_with fail
    refine (div_iv hx hg hg0).mono ?_
    rintro e w15 ⟨q, r, rfl, k_, hq, hr⟩
    clear hW x0 x1 g0 g1
    go_upto_region 12 with fail
    refine wp_new2 fun w16 hQ hR k2_ => ?_
    have kk_ := Below.call k_ k2_
    replace hY := hY.on kk_
    replace hy := hy.on kk_
    replace hG := hG.on kk_
    replace hg := hg.on kk_
    replace hq := hq.on k2_
    replace hr := hr.on k2_
    replace b1 := Below.call b1 kk_
    clear k_ k2_ kk_
    obtain ⟨y0, y1⟩ := hY.rules2
    obtain ⟨g0, g1⟩ := hG.rules2
    have hW := Below.refl w16.heap.size w16
    go_wp2_with fail
    refine (div_iv hy hg hg0).mono ?_
    rintro e w17 ⟨s, t, rfl, k_, hs, ht⟩
    clear hW y0 y1 g0 g1
    go_upto_region 13 with fail
    refine wp_new2 fun w18 hS hT k2_ => ?_
    have kk_ := Below.call k_ k2_
    replace hQ := hQ.on kk_
    replace hq := hq.on kk_
    replace hR := hR.on kk_
    replace hr := hr.on kk_
    replace hs := hs.on k2_
    replace ht := ht.on k2_
    replace b1 := Below.call b1 kk_
    clear k_ k2_ kk_
    obtain ⟨q0, q1⟩ := hQ.rules2
    obtain ⟨r0, r1⟩ := hR.rules2
    obtain ⟨s0, s1⟩ := hS.rules2
    obtain ⟨t0, t1⟩ := hT.rules2
    have hW := Below.refl w18.heap.size w18
    go_wp2_with fail
    refine (sign_zero hr HX.out).mono ?_
    rintro e w19 ⟨rfl, k1⟩
    go_wp2_with fail
    refine (sign_zero (ht.on k1) HY.out).mono ?_
    rintro e w20 ⟨rfl, k2⟩
    replace k2 := Below.call k1 k2
    go_wp2_with fail
    refine (gcd_iv (hq.on k2) (hs.on k2)).mono ?_
    rintro e w21 ⟨m, rfl, k3, hm⟩
    replace k3 := Below.call k2 k3
    go_wp2_with fail
    refine (from_iv 1 _ (by omega) (by omega)).mono ?_
    rintro e w22 ⟨o, rfl, k4, ho⟩
    have k5 := Below.call k3 k4
    go_wp2_with fail
    refine (compare_eq_ (hm.on k4) ho HQ.out).mono ?_
    rintro e w23 ⟨rfl, k6⟩
    replace k6 := Below.call k5 k6
    go_wp2_with fail
    refine (lives3_any _ ((ht0.on b1).on k6)).mono ?_
    rintro e w24 ⟨rfl, k7⟩
    have HB := Lib.hid (Below.call (Below.call b1 k6) k7)
    go_wp2
    go_returns
    exact ⟨rfl, HB.out⟩
end Go.Proofs.YthafhbogpfggjaaGreatDoor
