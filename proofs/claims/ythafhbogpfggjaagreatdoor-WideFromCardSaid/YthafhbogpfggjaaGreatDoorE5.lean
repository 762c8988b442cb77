/-
  Chapter 03's reference: Neg, Sub, Compare.
-/
import Derived.Test.YthafhbogpfggjaaGreatDoorE4
namespace Go.Proofs.YthafhbogpfggjaaGreatDoor
open Go.RowKit
open Dig (val Ws Nz)

theorem sgn_neg {s : Bool} {a : Int} (ha : a = sgn s a.natAbs) : sgn (!s) a.natAbs = -a := by
  cases s <;> simp only [sgn] at * <;> simp at * <;> omega
theorem NI.len_eq {x y : IV} {w w' : World} {a b : Int} (hx : NI x w a) (hy : NI y w' b) (h : a.natAbs = b.natAbs) : x.n ≤ y.n := by
  obtain ⟨l, e1, e2, e3, e4, e5, e6⟩ := hx.abs
  obtain ⟨m, f1, f2, f3, f4, f5, f6⟩ := hy.abs
  rw [← e1, ← f1, Dig.norm_eq e3.ws f3.ws e4 f4 (by omega)]
  exact Nat.le_refl _
set_option maxRecDepth 100000 in
set_option maxHeartbeats 800000 in
theorem rNeg_any {x : IV} {w : World} {a : Int} (hx : NI x w a) : Calls Tryz.prog 52 #[.agg #[.bool x.neg, .slice x.A x.n x.c]] w (RetN w (-a)) := by
  go_enter Tryz.func52, Tryz.ntmps52
  go_upto_region 1 with fail
  refine wp_new2 fun W hA hO hBel => ?_
  obtain ⟨r0, r1⟩ := hA.rules2
  have hW := Below.refl W.heap.size W
  have va := hx.val
  have HZ := Lib.hid (sgn_neg va)
  replace hx := hx.on hBel
  have hd := hx.dv
  clear va
  go_wp2_with fail
  refine (nnormal (d := ⟨x.A, x.n, x.c⟩) _ hd HZ.out).mono ?_
  rintro e w5 ⟨y, rfl, k5, hy⟩
  have hO5 := hO.on k5
  obtain ⟨z0, z1, f0, f1⟩ := hO5.all2
  have HF := Lib.hid (retN_end (Below.call hBel k5) (by omega) hO5 (by simp) (by simp) hy)
  have hO6 := hO5.put2 (.bool y.neg) (.slice y.A y.n y.c)
  obtain ⟨q0, q1, _⟩ := hO6.all2
  clear hO5 hO6 hO hA r0 r1 hW hy hd hx
  go_wp2
  exact bodyPost_ret (v := .agg #[.bool y.neg, .slice y.A y.n y.c]) (by simp [results, Tryz.results52, go_sem, q0, q1]) rfl HF.out
set_option maxRecDepth 100000 in
set_option maxHeartbeats 800000 in
theorem rSub_any {x y : IV} {w : World} {a b : Int} (hx : NI x w a) (hy : NI y w b) (h1 : x.n < many) (h2 : y.n < many) :
    Calls Tryz.prog 50 #[.agg #[.bool x.neg, .slice x.A x.n x.c], .agg #[.bool y.neg, .slice y.A y.n y.c]] w (RetN w (a - b)) := by
  rw [Int.sub_eq_add_neg]
  go_enter Tryz.func50, Tryz.ntmps50
  go_upto_region 1 with fail
  refine wp_new3 fun W hA hB hO hBel => ?_
  replace hx := hx.on hBel
  replace hy := hy.on hBel
  refine wp_region_last W [Spec.eq (.agg #[.bool x.neg, .slice x.A x.n x.c]), Spec.eq (.agg #[.bool y.neg, .slice y.A y.n y.c]), sN (-b), sN (a + -b)]
      rfl (by kernel_rfl) (by kernel_rfl) rfl (by kernel_rfl) (by kernel_rfl) (Below.drew (Below.refl _ _)) ?_ ?_
  ·
    refine RegSteps.cons ?_ ?_
    · intro _ az wz hC hF hD _ K hK
      have q2 : az.tmps[2]? = some (.pointer (some ⟨w.heap.size, 0, none⟩)) := hF 2 rfl
      obtain ⟨l0, l1, _⟩ := (hA.on hC).all2
      clear hF hD
      refine want_none rfl ?_
      go_simp
      exact hK _ _ hC (Below.refl _ _) rfl
    refine RegSteps.cons ?_ ?_
    · intro _ az wz hC hF hD _ K hK
      have q3 : az.tmps[3]? = some (.pointer (some ⟨w.heap.size + 1, 0, none⟩)) := hF 3 rfl
      obtain ⟨l0, l1, _⟩ := (hB.on hC).all2
      clear hF hD
      refine want_none rfl ?_
      go_simp
      exact hK _ _ hC (Below.refl _ _) rfl
    refine RegSteps.cons ?_ ?_
    · intro _ az wz hC hF hD _ K hK
      obtain ⟨_, q6, rfl⟩ := dep hD 1 rfl rfl rfl rfl
      clear hF hD
      refine want_none rfl ?_
      go_simp
      refine (rNeg_any (hy.on hC)).mono ?_
      rintro e wy ⟨x, rfl, k, hx⟩
      exact hK _ _ (Below.call hC k) k ⟨x, rfl, hx⟩
    refine RegSteps.cons ?_ ?_
    · intro _ az wz hC hF hD _ K hK
      obtain ⟨_, q5, rfl⟩ := dep hD 0 rfl rfl rfl rfl
      obtain ⟨_, q7, x7, rfl, hx7⟩ := dep hD 2 rfl rfl rfl rfl
      clear hF hD
      refine want_none rfl ?_
      go_simp
      refine (rAdd_any (hx.on hC) hx7 h1 (Nat.lt_of_le_of_lt (NI.len_eq hx7 (hy.on hC) (by omega)) h2)).mono ?_
      rintro e wy ⟨x, rfl, k, hx⟩
      exact hK _ _ (Below.call hC k) k ⟨x, rfl, hx⟩
    exact RegSteps.nil
  intro w5 hC5
  rintro _ rfl _ rfl _ ⟨y7, rfl, _⟩ _ ⟨y8, rfl, hy8⟩
  simp only [List.dropLast, FinOK, Act.put, List.setIfInBounds_toArray, List.set_cons_zero, List.set_cons_succ]
  intro K hK
  refine want_none rfl ?_
  obtain ⟨z0, z1, f0, f1⟩ := (hO.on hC5).all2
  go_simp
  refine hK _ _ ?_
  clear hK K
  have hO5 := (hO.on hC5).put2 (.bool y8.neg) (.slice y8.A y8.n y8.c)
  obtain ⟨q0, q1, _⟩ := hO5.all2
  have HF := Lib.hid (retN_end (Below.call hBel hC5) (by omega) (hO.on hC5) (by simp) (by simp) hy8)
  clear hO5 hO hA hB
  go_wp2
  exact bodyPost_ret (v := .agg #[.bool y8.neg, .slice y8.A y8.n y8.c]) (by simp [results, Tryz.results50, go_sem, q0, q1]) rfl HF.out
theorem cmp_nat {a b : Nat} : (a < b ∧ cmpI a b = -1) ∨ (a = b ∧ cmpI a b = 0) ∨ (b < a ∧ cmpI a b = 1) := by
  rcases Nat.lt_trichotomy a b with h | h | h
  · exact .inl ⟨h, cmpI_lt (by exact_mod_cast h)⟩
  · exact .inr (.inl ⟨h, cmpI_eq (by exact_mod_cast h)⟩)
  · exact .inr (.inr ⟨h, cmpI_gt (by exact_mod_cast h)⟩)
theorem cmp_pos {a b : Int} (ha : a = sgn false a.natAbs) (hb : b = sgn false b.natAbs) : cmpI a.natAbs b.natAbs = cmpI a b := by
  have h1 : (a.natAbs : Int) = a := by simp [sgn] at ha; omega
  have h2 : (b.natAbs : Int) = b := by simp [sgn] at hb; omega
  rw [h1, h2]
theorem cmp_neg {a b : Int} (ha : a = sgn true a.natAbs) (hb : b = sgn true b.natAbs) : cmpI b.natAbs a.natAbs = cmpI a b := by
  have h1 : (a.natAbs : Int) = -a := by simp [sgn] at ha; omega
  have h2 : (b.natAbs : Int) = -b := by simp [sgn] at hb; omega
  rw [h1, h2]
  rcases Int.lt_trichotomy a b with h | h | h
  · rw [cmpI_lt h, cmpI_lt (by omega)]
  · rw [cmpI_eq h, cmpI_eq (by omega)]
  · rw [cmpI_gt h, cmpI_gt (by omega)]
set_option maxRecDepth 100000 in
set_option maxHeartbeats 800000 in
theorem rCompare_any {x y : IV} {w : World} {a b : Int} (hx : NI x w a) (hy : NI y w b) :
    Calls Tryz.prog 54 #[.agg #[.bool x.neg, .slice x.A x.n x.c], .agg #[.bool y.neg, .slice y.A y.n y.c]] w (RetInt w (cmpI a b)) := by
  have xa := hx.abs
  have ya := hy.abs
  obtain ⟨_, _, _, _, _, _, na⟩ := xa
  obtain ⟨_, _, _, _, _, _, nb⟩ := ya
  have va := hx.val
  have vb := hy.val
  obtain ⟨xn, xA, xl, xc⟩ := x
  obtain ⟨yn, yA, yl, yc⟩ := y
  cases xn <;> cases yn
  · have HC := Lib.hid (cmp_pos va vb)
    clear va vb na nb
    go_enter Tryz.func54, Tryz.ntmps54
    go_upto_region 1 with fail
    refine wp_new2 fun W hA hB hBel => ?_
    obtain ⟨r0, r1⟩ := hA.rules2
    obtain ⟨s0, s1⟩ := hB.rules2
    have hW := Below.refl W.heap.size W
    replace hx := hx.on hBel
    replace hy := hy.on hBel
    go_wp2_with fail
    refine (ncompared hx hy).mono ?_
    rintro e w4 ⟨rfl, k4⟩
    have HB := Lib.hid (Below.call hBel k4)
    go_wp2
    go_returns
    exact ⟨by rw [← HC.out]; rfl, HB.out⟩
  · have HC := Lib.hid (show cmpI a b = 1 by
      simp at na nb
      exact cmpI_gt (by omega))
    clear va vb na nb
    go_enter Tryz.func54, Tryz.ntmps54
    go_upto_region 1 with fail
    refine wp_new2 fun W hA hB hBel => ?_
    obtain ⟨r0, r1⟩ := hA.rules2
    obtain ⟨s0, s1⟩ := hB.rules2
    have hW := Below.refl W.heap.size W
    go_wp2
    go_returns
    exact ⟨by rw [HC.out]; rfl, hBel⟩
  · have HC := Lib.hid (show cmpI a b = -1 by
      simp at na nb
      exact cmpI_lt (by omega))
    clear va vb na nb
    go_enter Tryz.func54, Tryz.ntmps54
    go_upto_region 1 with fail
    refine wp_new2 fun W hA hB hBel => ?_
    obtain ⟨r0, r1⟩ := hA.rules2
    obtain ⟨s0, s1⟩ := hB.rules2
    have hW := Below.refl W.heap.size W
    go_wp2
    go_returns
    exact ⟨by rw [HC.out]; rfl, hBel⟩
  · have HC := Lib.hid (cmp_neg va vb)
    clear va vb na nb
    go_enter Tryz.func54, Tryz.ntmps54
    go_upto_region 1 with fail
    refine wp_new2 fun W hA hB hBel => ?_
    obtain ⟨r0, r1⟩ := hA.rules2
    obtain ⟨s0, s1⟩ := hB.rules2
    have hW := Below.refl W.heap.size W
    replace hx := hx.on hBel
    replace hy := hy.on hBel
    go_wp2_with fail
    refine (ncompared hy hx).mono ?_
    rintro e w4 ⟨rfl, k4⟩
    have HB := Lib.hid (Below.call hBel k4)
    go_wp2
    go_returns
    exact ⟨by rw [← HC.out]; rfl, HB.out⟩
end Go.Proofs.YthafhbogpfggjaaGreatDoor
