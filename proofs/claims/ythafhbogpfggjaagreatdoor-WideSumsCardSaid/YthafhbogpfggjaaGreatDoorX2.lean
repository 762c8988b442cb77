/-
  The law WideSums: the walk.
-/
import Derived.Test.YthafhbogpfggjaaGreatDoorX0
namespace Go.Proofs.YthafhbogpfggjaaGreatDoor
open Go.RowKit Mag

set_option maxRecDepth 100000 in
set_option maxHeartbeats 3200000 in
theorem WideSums_any {w : World} {A : Option Addr} {l : List Int} {c : Nat} (h : IntsIs w A l c) (ht : Tab w) : Calls Tryz.prog 8 #[.slice A l.length c] w (RetBool w true) := by
  go_enter Tryz.func8, Tryz.ntmps8
  go_wp2_with fail
  refine (Number_sm h 0 (by omega) 0 rfl).mono ?_
  rintro e w1 ⟨a, ba, x, rfl, k1, hx⟩
  go_upto_region 2 with fail
  refine wp_new1 fun w2 hX k2 => ?_
  have b1 := Below.call k1 k2
  have hx1 := hx.on k2
  clear k1 k2 hx
  go_wp2_with fail
  refine (Number_sm (h.on b1) 6 (by omega) 6 rfl).mono ?_
  rintro e w3 ⟨b, bb, y, rfl, k3, hy⟩
  go_upto_region 3 with fail
  refine wp_new1 fun w4 hY k4 => ?_
  have b2 := Below.call k3 k4
  have hx := hx1.on b2
  have hy1 := hy.on k4
  have hX2 := hX.on b2
  replace b1 := Below.call b1 b2
  clear hy k3 k4 hX hx1 b2 h
  obtain ⟨x0, x1⟩ := hX2.rules2
  obtain ⟨y0, y1⟩ := hY.rules2
  have hW := Below.refl w4.heap.size w4
  go_wp2_with fail
  refine (wider_any hx (ba.top (by omega))).mono ?_
  rintro e w5 ⟨p, rfl, k5, hp⟩
  go_upto_region 4 with fail
  refine wp_new1 fun w6 hP k6 => ?_
  have b5 := Below.call k5 k6
  go_wp2_with fail
  refine (wider_any (hy1.on b5) (bb.top (by omega))).mono ?_
  rintro e w7 ⟨q, rfl, k7, hq⟩
  go_upto_region 5 with fail
  refine wp_new1 fun w8 hQ k8 => ?_
  have b7 := Below.call k7 k8
  have b8 := Below.call b5 b7
  replace hX := hX2.on b8
  replace hY := hY.on b8
  replace hx := hx.on b8
  replace hy := hy1.on b8
  replace hP := hP.on b7
  replace hp := (hp.on k6).on b7
  replace hq := hq.on k8
  replace b1 := Below.call b1 b8
  clear x0 x1 y0 y1 hW k5 k6 k7 k8 b5 b7 b8 hX2 hy1
  obtain ⟨p0, p1⟩ := hP.rules2
  obtain ⟨q0, q1⟩ := hQ.rules2
  have hW := Below.refl w8.heap.size w8
  go_wp2_with fail
  refine (add_sm hp hq (ba.add bb) (by omega)).mono ?_
  rintro e w9 ⟨r, rfl, k9, hr⟩
  go_upto_region 6 with fail
  refine wp_new1 fun w10 hR k10 => ?_
  have b9 := Below.call k9 k10
  go_wp2_with fail
  refine (sub_sm (hp.on b9) (hq.on b9) (ba.sub bb) (by omega)).mono ?_
  rintro e w11 ⟨s, rfl, k11, hs⟩
  go_upto_region 7 with fail
  refine wp_new1 fun w12 hS k12 => ?_
  have b11 := Below.call k11 k12
  have b12 := Below.call b9 b11
  replace hX := hX.on b12
  replace hY := hY.on b12
  replace hx := hx.on b12
  replace hy := hy.on b12
  replace hP := hP.on b12
  replace hQ := hQ.on b12
  replace hp := hp.on b12
  replace hq := hq.on b12
  replace hR := hR.on b11
  replace hr := (hr.on k10).on b11
  replace hs := hs.on k12
  replace b1 := Below.call b1 b12
  replace ht := ht.on b1
  have hnx := ba.len hx
  have hny := bb.len hy
  clear p0 p1 q0 q1 k9 k10 k11 k12 b9 b11 b12 hW
  refine wp_region_specs w12 [Spec.eq (.bool true), Spec.eq (.bool true), Spec.eq (.bool true), Spec.eq (.bool true), Spec.eq (.bool true), Spec.eq (.int .i64 0), Spec.eq (.bool true), Spec.eq (.bool true), Spec.eq (.bool true), Spec.eq (.int .i64 0), Spec.eq (.bool true), Spec.eq (.bool true), Spec.eq (.bool true), Spec.eq (.agg #[.bool r.neg, .slice r.A r.n r.c]), Spec.eq (.agg #[.bool x.neg, .slice x.A x.n x.c]), Spec.eq (.agg #[.bool y.neg, .slice y.A y.n y.c]), sN (a + b), Spec.eq (.bool true), Spec.eq (.bool true), Spec.eq (.bool true), Spec.eq (.agg #[.bool s.neg, .slice s.A s.n s.c]), Spec.eq (.agg #[.bool x.neg, .slice x.A x.n x.c]), Spec.eq (.agg #[.bool y.neg, .slice y.A y.n y.c]), sN (a - b), Spec.eq (.bool true), Spec.eq (.bool true), Spec.eq (.bool true), Spec.eq (.agg #[.bool p.neg, .slice p.A p.n p.c]), Spec.eq (.agg #[.bool x.neg, .slice x.A x.n x.c]), Spec.eq (.bool true), Spec.eq (.bool true), Spec.eq (.bool true), Spec.eq (.agg #[.bool q.neg, .slice q.A q.n q.c]), Spec.eq (.agg #[.bool y.neg, .slice y.A y.n y.c]), Spec.eq (.bool true), Spec.eq (.bool true), Spec.eq (.bool true), Spec.eq (.bool true), Spec.eq (.bool true), Spec.eq (.bool true)]
      (by kernel_rfl) (by kernel_rfl) rfl (by kernel_rfl) (Below.drew (Below.refl _ _)) ?_ ?_
  ·
    refine RegSteps.cons ?_ ?_
    · intro _ az wz hC hF hD _ K hK
      have q6 : az.tmps[6]? = some (.bool true) := hF 6 rfl
      clear hF hD
      refine want_none rfl ?_
      go_simp
      exact hK _ _ hC (Below.refl _ _) rfl
    refine RegSteps.cons ?_ ?_
    · intro _ az wz hC hF hD _ K hK
      obtain ⟨_, q39, rfl⟩ := dep hD 0 rfl rfl rfl rfl
      clear hF hD
      refine want_none rfl ?_
      go_simp
      exact hK _ _ hC (Below.refl _ _) rfl
    refine RegSteps.cons ?_ ?_
    · intro _ az wz hC hF hD _ K hK
      have q8 : az.tmps[8]? = some (.bool true) := hF 8 rfl
      obtain ⟨_, qg, rfl⟩ := dep hD 1 rfl rfl rfl rfl
      clear hF hD
      refine want_yes rfl rfl rfl qg ?_
      go_simp
      exact hK _ _ hC (Below.refl _ _) rfl
    refine RegSteps.cons ?_ ?_
    · intro _ az wz hC hF hD _ K hK
      obtain ⟨_, q40, rfl⟩ := dep hD 1 rfl rfl rfl rfl
      obtain ⟨_, q41, rfl⟩ := dep hD 2 rfl rfl rfl rfl
      clear hF hD
      refine want_none rfl ?_
      go_simp
      exact hK _ _ hC (Below.refl _ _) rfl
    refine RegSteps.cons ?_ ?_
    · intro _ az wz hC hF hD _ K hK
      obtain ⟨_, q42, rfl⟩ := dep hD 3 rfl rfl rfl rfl
      clear hF hD
      refine want_none rfl ?_
      go_simp
      exact hK _ _ hC (Below.refl _ _) rfl
    refine RegSteps.cons ?_ ?_
    · intro _ az wz hC hF hD _ K hK
      have q10 : az.tmps[10]? = some (.int .i64 0) := hF 10 rfl
      obtain ⟨_, qg, rfl⟩ := dep hD 4 rfl rfl rfl rfl
      clear hF hD
      refine want_yes rfl rfl rfl qg ?_
      go_simp
      exact hK _ _ hC (Below.refl _ _) rfl
    refine RegSteps.cons ?_ ?_
    · intro _ az wz hC hF hD _ K hK
      obtain ⟨_, q44, rfl⟩ := dep hD 5 rfl rfl rfl rfl
      obtain ⟨_, qg, rfl⟩ := dep hD 4 rfl rfl rfl rfl
      clear hF hD
      refine want_yes rfl rfl rfl qg ?_
      go_simp
      exact hK _ _ hC (Below.refl _ _) rfl
    refine RegSteps.cons ?_ ?_
    · intro _ az wz hC hF hD _ K hK
      obtain ⟨_, q43, rfl⟩ := dep hD 4 rfl rfl rfl rfl
      obtain ⟨_, q45, rfl⟩ := dep hD 6 rfl rfl rfl rfl
      clear hF hD
      refine want_none rfl ?_
      go_simp
      exact hK _ _ hC (Below.refl _ _) rfl
    refine RegSteps.cons ?_ ?_
    · intro _ az wz hC hF hD _ K hK
      obtain ⟨_, q46, rfl⟩ := dep hD 7 rfl rfl rfl rfl
      clear hF hD
      refine want_none rfl ?_
      go_simp
      exact hK _ _ hC (Below.refl _ _) rfl
    refine RegSteps.cons ?_ ?_
    · intro _ az wz hC hF hD _ K hK
      have q12 : az.tmps[12]? = some (.int .i64 0) := hF 12 rfl
      obtain ⟨_, qg, rfl⟩ := dep hD 8 rfl rfl rfl rfl
      clear hF hD
      refine want_yes rfl rfl rfl qg ?_
      go_simp
      exact hK _ _ hC (Below.refl _ _) rfl
    refine RegSteps.cons ?_ ?_
    · intro _ az wz hC hF hD _ K hK
      obtain ⟨_, q48, rfl⟩ := dep hD 9 rfl rfl rfl rfl
      obtain ⟨_, qg, rfl⟩ := dep hD 8 rfl rfl rfl rfl
      clear hF hD
      refine want_yes rfl rfl rfl qg ?_
      go_simp
      exact hK _ _ hC (Below.refl _ _) rfl
    refine RegSteps.cons ?_ ?_
    · intro _ az wz hC hF hD _ K hK
      obtain ⟨_, q47, rfl⟩ := dep hD 8 rfl rfl rfl rfl
      obtain ⟨_, q49, rfl⟩ := dep hD 10 rfl rfl rfl rfl
      clear hF hD
      refine want_none rfl ?_
      go_simp
      exact hK _ _ hC (Below.refl _ _) rfl
    refine RegSteps.cons ?_ ?_
    · intro _ az wz hC hF hD _ K hK
      obtain ⟨_, q50, rfl⟩ := dep hD 11 rfl rfl rfl rfl
      clear hF hD
      refine want_none rfl ?_
      go_simp
      exact hK _ _ hC (Below.refl _ _) rfl
    refine RegSteps.cons ?_ ?_
    · intro _ az wz hC hF hD _ K hK
      have q9 : az.tmps[9]? = some (.pointer (some ⟨w9.heap.size, 0, none⟩)) := hF 9 rfl
      obtain ⟨_, qg, rfl⟩ := dep hD 12 rfl rfl rfl rfl
      obtain ⟨l0, l1, _⟩ := (hR.on hC).all2
      clear hF hD
      refine want_yes rfl rfl rfl qg ?_
      go_simp
      exact hK _ _ hC (Below.refl _ _) rfl
    refine RegSteps.cons ?_ ?_
    · intro _ az wz hC hF hD _ K hK
      have q3 : az.tmps[3]? = some (.pointer (some ⟨w1.heap.size, 0, none⟩)) := hF 3 rfl
      obtain ⟨_, qg, rfl⟩ := dep hD 12 rfl rfl rfl rfl
      obtain ⟨l0, l1, _⟩ := (hX.on hC).all2
      clear hF hD
      refine want_yes rfl rfl rfl qg ?_
      go_simp
      exact hK _ _ hC (Below.refl _ _) rfl
    refine RegSteps.cons ?_ ?_
    · intro _ az wz hC hF hD _ K hK
      have q4 : az.tmps[4]? = some (.pointer (some ⟨w3.heap.size, 0, none⟩)) := hF 4 rfl
      obtain ⟨_, qg, rfl⟩ := dep hD 12 rfl rfl rfl rfl
      obtain ⟨l0, l1, _⟩ := (hY.on hC).all2
      clear hF hD
      refine want_yes rfl rfl rfl qg ?_
      go_simp
      exact hK _ _ hC (Below.refl _ _) rfl
    refine RegSteps.cons ?_ ?_
    · intro _ az wz hC hF hD _ K hK
      obtain ⟨_, q53, rfl⟩ := dep hD 14 rfl rfl rfl rfl
      obtain ⟨_, q54, rfl⟩ := dep hD 15 rfl rfl rfl rfl
      obtain ⟨_, qg, rfl⟩ := dep hD 12 rfl rfl rfl rfl
      clear hF hD
      refine want_yes rfl rfl rfl qg ?_
      go_simp
      refine (rAdd_any (hx.on hC) (hy.on hC) (by unfold many; omega) (by unfold many; omega)).mono ?_
      rintro e wy ⟨x, rfl, k, hx⟩
      exact hK _ _ (Below.call hC k) k ⟨x, rfl, hx⟩
    refine RegSteps.cons ?_ ?_
    · intro _ az wz hC hF hD _ K hK
      obtain ⟨_, q52, rfl⟩ := dep hD 13 rfl rfl rfl rfl
      obtain ⟨_, q55, x55, rfl, hx55⟩ := dep hD 16 rfl rfl rfl rfl
      obtain ⟨_, qg, rfl⟩ := dep hD 12 rfl rfl rfl rfl
      clear hF hD
      refine want_yes rfl rfl rfl qg ?_
      go_simp
      refine (equal_same (hr.on hC) hx55 (ht.on hC)).mono ?_
      rintro e wy ⟨rfl, k⟩
      exact hK _ _ (Below.call hC k) k rfl
    refine RegSteps.cons ?_ ?_
    · intro _ az wz hC hF hD _ K hK
      obtain ⟨_, q51, rfl⟩ := dep hD 12 rfl rfl rfl rfl
      obtain ⟨_, q56, rfl⟩ := dep hD 17 rfl rfl rfl rfl
      clear hF hD
      refine want_none rfl ?_
      go_simp
      exact hK _ _ hC (Below.refl _ _) rfl
    refine RegSteps.cons ?_ ?_
    · intro _ az wz hC hF hD _ K hK
      obtain ⟨_, q57, rfl⟩ := dep hD 18 rfl rfl rfl rfl
      clear hF hD
      refine want_none rfl ?_
      go_simp
      exact hK _ _ hC (Below.refl _ _) rfl
    refine RegSteps.cons ?_ ?_
    · intro _ az wz hC hF hD _ K hK
      have q11 : az.tmps[11]? = some (.pointer (some ⟨w11.heap.size, 0, none⟩)) := hF 11 rfl
      obtain ⟨_, qg, rfl⟩ := dep hD 19 rfl rfl rfl rfl
      obtain ⟨l0, l1, _⟩ := (hS.on hC).all2
      clear hF hD
      refine want_yes rfl rfl rfl qg ?_
      go_simp
      exact hK _ _ hC (Below.refl _ _) rfl
    refine RegSteps.cons ?_ ?_
    · intro _ az wz hC hF hD _ K hK
      have q3 : az.tmps[3]? = some (.pointer (some ⟨w1.heap.size, 0, none⟩)) := hF 3 rfl
      obtain ⟨_, qg, rfl⟩ := dep hD 19 rfl rfl rfl rfl
      obtain ⟨l0, l1, _⟩ := (hX.on hC).all2
      clear hF hD
      refine want_yes rfl rfl rfl qg ?_
      go_simp
      exact hK _ _ hC (Below.refl _ _) rfl
    refine RegSteps.cons ?_ ?_
    · intro _ az wz hC hF hD _ K hK
      have q4 : az.tmps[4]? = some (.pointer (some ⟨w3.heap.size, 0, none⟩)) := hF 4 rfl
      obtain ⟨_, qg, rfl⟩ := dep hD 19 rfl rfl rfl rfl
      obtain ⟨l0, l1, _⟩ := (hY.on hC).all2
      clear hF hD
      refine want_yes rfl rfl rfl qg ?_
      go_simp
      exact hK _ _ hC (Below.refl _ _) rfl
    refine RegSteps.cons ?_ ?_
    · intro _ az wz hC hF hD _ K hK
      obtain ⟨_, q60, rfl⟩ := dep hD 21 rfl rfl rfl rfl
      obtain ⟨_, q61, rfl⟩ := dep hD 22 rfl rfl rfl rfl
      obtain ⟨_, qg, rfl⟩ := dep hD 19 rfl rfl rfl rfl
      clear hF hD
      refine want_yes rfl rfl rfl qg ?_
      go_simp
      refine (rSub_any (hx.on hC) (hy.on hC) (by unfold many; omega) (by unfold many; omega)).mono ?_
      rintro e wy ⟨x, rfl, k, hx⟩
      exact hK _ _ (Below.call hC k) k ⟨x, rfl, hx⟩
    refine RegSteps.cons ?_ ?_
    · intro _ az wz hC hF hD _ K hK
      obtain ⟨_, q59, rfl⟩ := dep hD 20 rfl rfl rfl rfl
      obtain ⟨_, q62, x62, rfl, hx62⟩ := dep hD 23 rfl rfl rfl rfl
      obtain ⟨_, qg, rfl⟩ := dep hD 19 rfl rfl rfl rfl
      clear hF hD
      refine want_yes rfl rfl rfl qg ?_
      go_simp
      refine (equal_same (hs.on hC) hx62 (ht.on hC)).mono ?_
      rintro e wy ⟨rfl, k⟩
      exact hK _ _ (Below.call hC k) k rfl
    refine RegSteps.cons ?_ ?_
    · intro _ az wz hC hF hD _ K hK
      obtain ⟨_, q58, rfl⟩ := dep hD 19 rfl rfl rfl rfl
      obtain ⟨_, q63, rfl⟩ := dep hD 24 rfl rfl rfl rfl
      clear hF hD
      refine want_none rfl ?_
      go_simp
      exact hK _ _ hC (Below.refl _ _) rfl
    refine RegSteps.cons ?_ ?_
    · intro _ az wz hC hF hD _ K hK
      obtain ⟨_, q64, rfl⟩ := dep hD 25 rfl rfl rfl rfl
      clear hF hD
      refine want_none rfl ?_
      go_simp
      exact hK _ _ hC (Below.refl _ _) rfl
    refine RegSteps.cons ?_ ?_
    · intro _ az wz hC hF hD _ K hK
      have q5 : az.tmps[5]? = some (.pointer (some ⟨w5.heap.size, 0, none⟩)) := hF 5 rfl
      obtain ⟨_, qg, rfl⟩ := dep hD 26 rfl rfl rfl rfl
      obtain ⟨l0, l1, _⟩ := (hP.on hC).all2
      clear hF hD
      refine want_yes rfl rfl rfl qg ?_
      go_simp
      exact hK _ _ hC (Below.refl _ _) rfl
    refine RegSteps.cons ?_ ?_
    · intro _ az wz hC hF hD _ K hK
      have q3 : az.tmps[3]? = some (.pointer (some ⟨w1.heap.size, 0, none⟩)) := hF 3 rfl
      obtain ⟨_, qg, rfl⟩ := dep hD 26 rfl rfl rfl rfl
      obtain ⟨l0, l1, _⟩ := (hX.on hC).all2
      clear hF hD
      refine want_yes rfl rfl rfl qg ?_
      go_simp
      exact hK _ _ hC (Below.refl _ _) rfl
    refine RegSteps.cons ?_ ?_
    · intro _ az wz hC hF hD _ K hK
      obtain ⟨_, q66, rfl⟩ := dep hD 27 rfl rfl rfl rfl
      obtain ⟨_, q67, rfl⟩ := dep hD 28 rfl rfl rfl rfl
      obtain ⟨_, qg, rfl⟩ := dep hD 26 rfl rfl rfl rfl
      clear hF hD
      refine want_yes rfl rfl rfl qg ?_
      go_simp
      refine (equal_same (hp.on hC) (hx.on hC) (ht.on hC)).mono ?_
      rintro e wy ⟨rfl, k⟩
      exact hK _ _ (Below.call hC k) k rfl
    refine RegSteps.cons ?_ ?_
    · intro _ az wz hC hF hD _ K hK
      obtain ⟨_, q65, rfl⟩ := dep hD 26 rfl rfl rfl rfl
      obtain ⟨_, q68, rfl⟩ := dep hD 29 rfl rfl rfl rfl
      clear hF hD
      refine want_none rfl ?_
      go_simp
      exact hK _ _ hC (Below.refl _ _) rfl
    refine RegSteps.cons ?_ ?_
    · intro _ az wz hC hF hD _ K hK
      obtain ⟨_, q69, rfl⟩ := dep hD 30 rfl rfl rfl rfl
      clear hF hD
      refine want_none rfl ?_
      go_simp
      exact hK _ _ hC (Below.refl _ _) rfl
    refine RegSteps.cons ?_ ?_
    · intro _ az wz hC hF hD _ K hK
      have q7 : az.tmps[7]? = some (.pointer (some ⟨w7.heap.size, 0, none⟩)) := hF 7 rfl
      obtain ⟨_, qg, rfl⟩ := dep hD 31 rfl rfl rfl rfl
      obtain ⟨l0, l1, _⟩ := (hQ.on hC).all2
      clear hF hD
      refine want_yes rfl rfl rfl qg ?_
      go_simp
      exact hK _ _ hC (Below.refl _ _) rfl
    refine RegSteps.cons ?_ ?_
    · intro _ az wz hC hF hD _ K hK
      have q4 : az.tmps[4]? = some (.pointer (some ⟨w3.heap.size, 0, none⟩)) := hF 4 rfl
      obtain ⟨_, qg, rfl⟩ := dep hD 31 rfl rfl rfl rfl
      obtain ⟨l0, l1, _⟩ := (hY.on hC).all2
      clear hF hD
      refine want_yes rfl rfl rfl qg ?_
      go_simp
      exact hK _ _ hC (Below.refl _ _) rfl
    refine RegSteps.cons ?_ ?_
    · intro _ az wz hC hF hD _ K hK
      obtain ⟨_, q71, rfl⟩ := dep hD 32 rfl rfl rfl rfl
      obtain ⟨_, q72, rfl⟩ := dep hD 33 rfl rfl rfl rfl
      obtain ⟨_, qg, rfl⟩ := dep hD 31 rfl rfl rfl rfl
      clear hF hD
      refine want_yes rfl rfl rfl qg ?_
      go_simp
      refine (equal_same (hq.on hC) (hy.on hC) (ht.on hC)).mono ?_
      rintro e wy ⟨rfl, k⟩
      exact hK _ _ (Below.call hC k) k rfl
    refine RegSteps.cons ?_ ?_
    · intro _ az wz hC hF hD _ K hK
      obtain ⟨_, q70, rfl⟩ := dep hD 31 rfl rfl rfl rfl
      obtain ⟨_, q73, rfl⟩ := dep hD 34 rfl rfl rfl rfl
      clear hF hD
      refine want_none rfl ?_
      go_simp
      exact hK _ _ hC (Below.refl _ _) rfl
    refine RegSteps.cons ?_ ?_
    · intro _ az wz hC hF hD _ K hK
      obtain ⟨_, q74, rfl⟩ := dep hD 35 rfl rfl rfl rfl
      clear hF hD
      refine want_none rfl ?_
      go_simp
      exact hK _ _ hC (Below.refl _ _) rfl
    refine RegSteps.cons ?_ ?_
    · intro _ az wz hC hF hD _ K hK
      obtain ⟨_, qg, rfl⟩ := dep hD 36 rfl rfl rfl rfl
      clear hF hD
      refine want_yes rfl rfl rfl qg ?_
      go_simp
      refine (lives3_any _ (ht.on hC)).mono ?_
      rintro e wy ⟨rfl, k⟩
      exact hK _ _ (Below.call hC k) k rfl
    refine RegSteps.cons ?_ ?_
    · intro _ az wz hC hF hD _ K hK
      obtain ⟨_, q75, rfl⟩ := dep hD 36 rfl rfl rfl rfl
      obtain ⟨_, q76, rfl⟩ := dep hD 37 rfl rfl rfl rfl
      clear hF hD
      refine want_none rfl ?_
      go_simp
      exact hK _ _ hC (Below.refl _ _) rfl
    refine RegSteps.cons ?_ ?_
    · intro _ az wz hC hF hD _ K hK
      obtain ⟨_, q77, rfl⟩ := dep hD 38 rfl rfl rfl rfl
      clear hF hD
      refine want_none rfl ?_
      go_simp
      exact hK _ _ hC (Below.refl _ _) rfl
    exact RegSteps.nil
  intro w13 hC
  rintro _ rfl _ rfl _ rfl _ rfl _ rfl _ rfl _ rfl _ rfl _ rfl _ rfl _ rfl _ rfl _ rfl _ rfl _ rfl _ rfl _ ⟨y55, rfl, _⟩ _ rfl _ rfl _ rfl _ rfl _ rfl _ rfl _ ⟨y62, rfl, _⟩ _ rfl _ rfl _ rfl _ rfl _ rfl _ rfl _ rfl _ rfl _ rfl _ rfl _ rfl _ rfl _ rfl _ rfl _ rfl _ rfl
  simp only [FinOK, Act.put, List.setIfInBounds_toArray, List.set_cons_zero, List.set_cons_succ]
  go_wp2
  go_returns
  exact ⟨rfl, Below.call b1 hC⟩
end Go.Proofs.YthafhbogpfggjaaGreatDoor
