/-
  The law WideOrder: the walk.
-/
import Derived.Test.YthafhbogpfggjaaGreatDoorX9
namespace Go.Proofs.YthafhbogpfggjaaGreatDoor
open Go.RowKit Mag

set_option maxRecDepth 100000 in
set_option maxHeartbeats 6400000 in
theorem WideOrder_any {w : World} {A : Option Addr} {l : List Int} {c : Nat} (h : IntsIs w A l c) (n : Int) (hn : in64 n) (ht0 : Tab w) : Calls Tryz.prog 9 #[.slice A l.length c, .int .i64 n] w (RetBool w true) := by
  go_enter Tryz.func9, Tryz.ntmps9
  go_wp2_with fail
  refine (Number_sm h 0 (by omega) 0 rfl).mono ?_
  rintro e w1 ⟨a, ba, x, rfl, k1, hx⟩
  go_upto_region 2 with fail
  refine wp_new1 fun w2 hX k2 => ?_
  have b1 := Below.call k1 k2
  replace hx := hx.on k2
  clear k1 k2
  have h1 := h.on b1
  obtain ⟨d0, d1⟩ := around_bd n (m := 3) (by omega)
  have hnx := ba.len hx
  have h5 : Sm 18 (around n 3 - 1) := (Sm.small (by unfold in64; omega)).mono (by omega)
  have hb1 : Sm 40 (a + (around n 3 - 1)) := (ba.add h5).mono (by omega)
  have hb2 : Sm 40 (-a) := ba.neg.mono (by omega)
  refine wp_region_specs w2 [Spec.eq (.slice A l.length c), sNS 40, Spec.eq (.agg #[.bool x.neg, .slice x.A x.n x.c]), Spec.eq (.int .i64 n), Spec.eq (.int .i64 (around n 3 - 1)), sN (around n 3 - 1), sNS 40, Spec.eq (.agg #[.bool x.neg, .slice x.A x.n x.c]), sNS 40, sNL 3 40, sNL 3 40]
      (by kernel_rfl) (by kernel_rfl) rfl (by kernel_rfl) (Below.drew (Below.refl _ _)) ?_ ?_
  ·
    refine RegSteps.cons ?_ ?_
    · intro _ az wz hC hF hD _ K hK
      have q0 : az.tmps[0]? = some (.slice A l.length c) := hF 0 rfl
      clear hF hD
      refine want_none rfl ?_
      go_simp
      exact hK _ _ hC (Below.refl _ _) rfl
    refine RegSteps.cons ?_ ?_
    · intro _ az wz hC hF hD _ K hK
      obtain ⟨_, q14, rfl⟩ := dep hD 0 rfl rfl rfl rfl
      clear hF hD
      refine want_none rfl ?_
      go_simp
      refine (Number_ns (k := 40) (h1.on hC) 6 (by omega) 6 rfl (by omega)).mono ?_
      rintro e wy ⟨x, rfl, k, hx⟩
      exact hK _ _ (Below.call hC k) k ⟨x, rfl, hx⟩
    refine RegSteps.cons ?_ ?_
    · intro _ az wz hC hF hD _ K hK
      have q5 : az.tmps[5]? = some (.pointer (some ⟨w1.heap.size, 0, none⟩)) := hF 5 rfl
      obtain ⟨l0, l1, _⟩ := (hX.on hC).all2
      clear hF hD
      refine want_none rfl ?_
      go_simp
      exact hK _ _ hC (Below.refl _ _) rfl
    refine RegSteps.cons ?_ ?_
    · intro _ az wz hC hF hD _ K hK
      have q1 : az.tmps[1]? = some (.int .i64 n) := hF 1 rfl
      clear hF hD
      refine want_none rfl ?_
      go_simp
      exact hK _ _ hC (Below.refl _ _) rfl
    refine RegSteps.cons ?_ ?_
    · intro _ az wz hC hF hD _ K hK
      obtain ⟨_, q17, rfl⟩ := dep hD 3 rfl rfl rfl rfl
      clear hF hD
      refine want_none rfl ?_
      go_simp
      refine (Bound_any n 1 _ hn.1 hn.2 (by omega) (by omega)).mono ?_
      rintro e wy ⟨rfl, k⟩
      exact hK _ _ (Below.call hC k) k rfl
    refine RegSteps.cons ?_ ?_
    · intro _ az wz hC hF hD _ K hK
      obtain ⟨_, q18, rfl⟩ := dep hD 4 rfl rfl rfl rfl
      clear hF hD
      refine want_none rfl ?_
      go_simp
      refine (rOf_any _ _ (by omega) (by omega)).mono ?_
      rintro e wy ⟨x, rfl, k, hx⟩
      exact hK _ _ (Below.call hC k) k ⟨x, rfl, hx⟩
    refine RegSteps.cons ?_ ?_
    · intro _ az wz hC hF hD _ K hK
      obtain ⟨_, q16, rfl⟩ := dep hD 2 rfl rfl rfl rfl
      obtain ⟨_, q19, x19, rfl, hx19⟩ := dep hD 5 rfl rfl rfl rfl
      clear hF hD
      refine want_none rfl ?_
      go_simp
      refine ((rAdd_any (hx.on hC) hx19 (by unfold many; omega) (by have := NI.len hx19 (k := 1) (by omega); unfold many; omega))).mono ?_
      rintro e wy ⟨x, rfl, k, hx⟩
      exact hK _ _ (Below.call hC k) k ⟨x, rfl, _, hb1, hx⟩
    refine RegSteps.cons ?_ ?_
    · intro _ az wz hC hF hD _ K hK
      have q5 : az.tmps[5]? = some (.pointer (some ⟨w1.heap.size, 0, none⟩)) := hF 5 rfl
      obtain ⟨l0, l1, _⟩ := (hX.on hC).all2
      clear hF hD
      refine want_none rfl ?_
      go_simp
      exact hK _ _ hC (Below.refl _ _) rfl
    refine RegSteps.cons ?_ ?_
    · intro _ az wz hC hF hD _ K hK
      obtain ⟨_, q21, rfl⟩ := dep hD 7 rfl rfl rfl rfl
      clear hF hD
      refine want_none rfl ?_
      go_simp
      refine (rNeg_any (hx.on hC)).mono ?_
      rintro e wy ⟨x, rfl, k, hx⟩
      exact hK _ _ (Below.call hC k) k ⟨x, rfl, _, hb2, hx⟩
    refine RegSteps.cons ?_ ?_
    · intro _ az wz hC hF hD _ K hK
      obtain ⟨_, q15, x15, rfl, hx15⟩ := dep hD 1 rfl rfl rfl rfl
      obtain ⟨_, q20, x20, rfl, hx20⟩ := dep hD 6 rfl rfl rfl rfl
      obtain ⟨_, q22, x22, rfl, hx22⟩ := dep hD 8 rfl rfl rfl rfl
      clear hF hD
      refine want_none rfl ?_
      go_simp
      exact hK _ _ (Below.alloc hC hC.size _) (below_new _ _) ⟨_, rfl, NList.mk3 hx15 hx20 hx22⟩
    refine RegSteps.cons ?_ ?_
    · intro _ az wz hC hF hD _ K hK
      obtain ⟨_, q23, x23, rfl, hx23⟩ := dep hD 9 rfl rfl rfl rfl
      clear hF hD
      refine want_none rfl ?_
      go_simp
      exact hK _ _ hC (Below.refl _ _) ⟨x23, rfl, hx23⟩
    exact RegSteps.nil
  intro w3 hC3
  rintro _ rfl _ ⟨y15, rfl, _⟩ _ rfl _ rfl _ rfl _ ⟨y19, rfl, _⟩ _ ⟨y20, rfl, _⟩ _ rfl _ ⟨y22, rfl, _⟩ _ ⟨y23, rfl, _⟩ _ ⟨y6, rfl, hy6⟩
  simp only [FinOK, Act.put, List.setIfInBounds_toArray, List.set_cons_zero, List.set_cons_succ]
  replace hx := hx.on hC3
  replace hX := hX.on hC3
  replace b1 := Below.call b1 hC3
  clear hC3 h1 h h5 hb1 hb2
  obtain ⟨x0, x1⟩ := hX.rules2
  have hW := Below.refl w3.heap.size w3
  go_wp2_with fail
  refine (wider_any hx (ba.top (by omega))).mono ?_
  rintro e w4 ⟨p, rfl, k_, hp⟩
  clear hW x0 x1
  go_upto_region 4 with fail
  refine wp_new1 fun w5 hP k2_ => ?_
  have kk_ := Below.call k_ k2_
  replace hX := hX.on kk_
  replace hx := hx.on kk_
  replace hy6 := hy6.on kk_
  replace hp := hp.on k2_
  replace b1 := Below.call b1 kk_
  clear k_ k2_ kk_
  go_wp2_with fail
  go_loopw [9] (fun s wr => ∃ i : Nat, i ≤ 3 ∧ s = .int .i64 (i : Int) ∧ Below w5.heap.size w5 wr) (fun s _ => 3 - (intOf s).toNat)
  case atStart => exact ⟨0, by omega, rfl, Below.refl _ _⟩
  case round =>
    obtain ⟨i, hi, rfl, hbr⟩ := hrel
    replace hx := hx.on hbr
    replace hX := hX.on hbr
    replace hp := hp.on hbr
    replace hP := hP.on hbr
    replace hy6 := hy6.on hbr
    rcases Nat.lt_or_eq_of_le hi with h3 | h3
    · obtain ⟨y, z, hN⟩ := hy6 i h3
      obtain ⟨n0, n1⟩ := hN.rules
      have hW := Below.refl wr.heap.size wr
      have i0 : (0 : Int) ≤ (i : Int) := by omega
      have i3 : (i : Int) < 3 := by omega
      go_wp2_with fail
      refine (wider_any hN.ni (hN.sm.top (by omega))).mono ?_
      rintro e w7 ⟨q, rfl, k1, hq⟩
      clear n0 n1 hW
      go_upto_region 8 with fail
      refine wp_new1 fun w8 hQ k2 => ?_
      have kk := Below.call k1 k2
      replace hq := hq.on k2
      replace hx := hx.on kk
      replace hX := hX.on kk
      replace hp := hp.on kk
      replace hP := hP.on kk
      replace hN := hN.on kk
      replace hbr := Below.call hbr kk
      clear k1 k2 kk hy6
      refine wp_region_specs w8 [Spec.eq (.bool true), Spec.eq (.bool false), Spec.eq (.bool false), Spec.eq (.bool true), Spec.eq (.bool false), Spec.eq (.bool false), Spec.eq (.bool false), Spec.eq (.agg #[.bool p.neg, .slice p.A p.n p.c]), Spec.eq (.agg #[.bool q.neg, .slice q.A q.n q.c]), Spec.eq (.int .i64 (cmpI a z)), Spec.eq (.agg #[.bool x.neg, .slice x.A x.n x.c]), Spec.eq (.slice (some ⟨y6, 0, none⟩) 3 3), Spec.eq (.int .i64 (i : Int)), Spec.eq (.pointer (some ⟨y6, i * 2, none⟩)), Spec.eq (.agg #[.bool y.neg, .slice y.A y.n y.c]), Spec.eq (.int .i64 (cmpI a z)), Spec.eq (.bool false), Spec.eq (.bool false), Spec.eq (.bool false), Spec.eq (.agg #[.bool q.neg, .slice q.A q.n q.c]), Spec.eq (.agg #[.bool p.neg, .slice p.A p.n p.c]), Spec.eq (.int .i64 (cmpI z a)), Spec.eq (.slice (some ⟨y6, 0, none⟩) 3 3), Spec.eq (.int .i64 (i : Int)), Spec.eq (.pointer (some ⟨y6, i * 2, none⟩)), Spec.eq (.agg #[.bool y.neg, .slice y.A y.n y.c]), Spec.eq (.agg #[.bool x.neg, .slice x.A x.n x.c]), Spec.eq (.int .i64 (cmpI z a)), Spec.eq (.bool false), Spec.eq (.bool false)]
          (by kernel_rfl) (by kernel_rfl) rfl (by kernel_rfl) (Below.drew (Below.refl _ _)) ?_ ?_
      ·
        refine RegSteps.cons ?_ ?_
        · intro _ az wz hC hF hD _ K hK
          have q8 : az.tmps[8]? = some (.bool true) := hF 8 rfl
          clear hF hD
          refine want_none rfl ?_
          go_simp
          exact hK _ _ hC (Below.refl _ _) rfl
        refine RegSteps.cons ?_ ?_
        · intro _ az wz hC hF hD _ K hK
          obtain ⟨_, q41, rfl⟩ := dep hD 0 rfl rfl rfl rfl
          clear hF hD
          refine want_none rfl ?_
          go_simp
          exact hK _ _ hC (Below.refl _ _) rfl
        refine RegSteps.cons ?_ ?_
        · intro _ az wz hC hF hD _ K hK
          obtain ⟨_, q42, rfl⟩ := dep hD 1 rfl rfl rfl rfl
          clear hF hD
          refine want_none rfl ?_
          go_simp
          exact hK _ _ hC (Below.refl _ _) rfl
        refine RegSteps.cons ?_ ?_
        · intro _ az wz hC hF hD _ K hK
          have q11 : az.tmps[11]? = some (.bool true) := hF 11 rfl
          obtain ⟨_, qg, rfl⟩ := dep hD 2 rfl rfl rfl rfl
          clear hF hD
          refine want_yes rfl rfl rfl qg ?_
          go_simp
          exact hK _ _ hC (Below.refl _ _) rfl
        refine RegSteps.cons ?_ ?_
        · intro _ az wz hC hF hD _ K hK
          obtain ⟨_, q44, rfl⟩ := dep hD 3 rfl rfl rfl rfl
          obtain ⟨_, qg, rfl⟩ := dep hD 2 rfl rfl rfl rfl
          clear hF hD
          refine want_yes rfl rfl rfl qg ?_
          go_simp
          exact hK _ _ hC (Below.refl _ _) rfl
        refine RegSteps.cons ?_ ?_
        · intro _ az wz hC hF hD _ K hK
          obtain ⟨_, q43, rfl⟩ := dep hD 2 rfl rfl rfl rfl
          obtain ⟨_, q45, rfl⟩ := dep hD 4 rfl rfl rfl rfl
          clear hF hD
          refine want_none rfl ?_
          go_simp
          exact hK _ _ hC (Below.refl _ _) rfl
        refine RegSteps.cons ?_ ?_
        · intro _ az wz hC hF hD _ K hK
          obtain ⟨_, q46, rfl⟩ := dep hD 5 rfl rfl rfl rfl
          clear hF hD
          refine want_none rfl ?_
          go_simp
          exact hK _ _ hC (Below.refl _ _) rfl
        refine RegSteps.cons ?_ ?_
        · intro _ az wz hC hF hD _ K hK
          have q7 : az.tmps[7]? = some (.pointer (some ⟨w4.heap.size, 0, none⟩)) := hF 7 rfl
          obtain ⟨_, qg, rfl⟩ := dep hD 6 rfl rfl rfl rfl
          obtain ⟨l0, l1, _⟩ := (hP.on hC).all2
          clear hF hD
          refine want_yes rfl rfl rfl qg ?_
          go_simp
          exact hK _ _ hC (Below.refl _ _) rfl
        refine RegSteps.cons ?_ ?_
        · intro _ az wz hC hF hD _ K hK
          have q10 : az.tmps[10]? = some (.pointer (some ⟨w7.heap.size, 0, none⟩)) := hF 10 rfl
          obtain ⟨_, qg, rfl⟩ := dep hD 6 rfl rfl rfl rfl
          obtain ⟨l0, l1, _⟩ := (hQ.on hC).all2
          clear hF hD
          refine want_yes rfl rfl rfl qg ?_
          go_simp
          exact hK _ _ hC (Below.refl _ _) rfl
        refine RegSteps.cons ?_ ?_
        · intro _ az wz hC hF hD _ K hK
          obtain ⟨_, q48, rfl⟩ := dep hD 7 rfl rfl rfl rfl
          obtain ⟨_, q49, rfl⟩ := dep hD 8 rfl rfl rfl rfl
          obtain ⟨_, qg, rfl⟩ := dep hD 6 rfl rfl rfl rfl
          clear hF hD
          refine want_yes rfl rfl rfl qg ?_
          go_simp
          refine (compare_iv (hp.on hC) (hq.on hC)).mono ?_
          rintro e wy ⟨rfl, k⟩
          exact hK _ _ (Below.call hC k) k rfl
        refine RegSteps.cons ?_ ?_
        · intro _ az wz hC hF hD _ K hK
          have q5 : az.tmps[5]? = some (.pointer (some ⟨w1.heap.size, 0, none⟩)) := hF 5 rfl
          obtain ⟨_, qg, rfl⟩ := dep hD 6 rfl rfl rfl rfl
          obtain ⟨l0, l1, _⟩ := (hX.on hC).all2
          clear hF hD
          refine want_yes rfl rfl rfl qg ?_
          go_simp
          exact hK _ _ hC (Below.refl _ _) rfl
        refine RegSteps.cons ?_ ?_
        · intro _ az wz hC hF hD _ K hK
          have q6 : az.tmps[6]? = some (.slice (some ⟨y6, 0, none⟩) 3 3) := hF 6 rfl
          obtain ⟨_, qg, rfl⟩ := dep hD 6 rfl rfl rfl rfl
          clear hF hD
          refine want_yes rfl rfl rfl qg ?_
          go_simp
          exact hK _ _ hC (Below.refl _ _) rfl
        refine RegSteps.cons ?_ ?_
        · intro _ az wz hC hF hD _ K hK
          have q9 : az.tmps[9]? = some (.int .i64 (i : Int)) := hF 9 rfl
          obtain ⟨_, qg, rfl⟩ := dep hD 6 rfl rfl rfl rfl
          clear hF hD
          refine want_yes rfl rfl rfl qg ?_
          go_simp
          exact hK _ _ hC (Below.refl _ _) rfl
        refine RegSteps.cons ?_ ?_
        · intro _ az wz hC hF hD _ K hK
          obtain ⟨_, q52, rfl⟩ := dep hD 11 rfl rfl rfl rfl
          obtain ⟨_, q53, rfl⟩ := dep hD 12 rfl rfl rfl rfl
          obtain ⟨_, qg, rfl⟩ := dep hD 6 rfl rfl rfl rfl
          clear hF hD
          refine want_yes rfl rfl rfl qg ?_
          go_simp
          exact hK _ _ hC (Below.refl _ _) rfl
        refine RegSteps.cons ?_ ?_
        · intro _ az wz hC hF hD _ K hK
          obtain ⟨_, q54, rfl⟩ := dep hD 13 rfl rfl rfl rfl
          obtain ⟨_, qg, rfl⟩ := dep hD 6 rfl rfl rfl rfl
          have l0 := (hN.on hC).c0
          have l1 := (hN.on hC).c1
          clear hF hD
          refine want_yes rfl rfl rfl qg ?_
          go_simp
          exact hK _ _ hC (Below.refl _ _) rfl
        refine RegSteps.cons ?_ ?_
        · intro _ az wz hC hF hD _ K hK
          obtain ⟨_, q51, rfl⟩ := dep hD 10 rfl rfl rfl rfl
          obtain ⟨_, q55, rfl⟩ := dep hD 14 rfl rfl rfl rfl
          obtain ⟨_, qg, rfl⟩ := dep hD 6 rfl rfl rfl rfl
          clear hF hD
          refine want_yes rfl rfl rfl qg ?_
          go_simp
          refine (rCompare_any (hx.on hC) (hN.on hC).ni).mono ?_
          rintro e wy ⟨rfl, k⟩
          exact hK _ _ (Below.call hC k) k rfl
        refine RegSteps.cons ?_ ?_
        · intro _ az wz hC hF hD _ K hK
          obtain ⟨_, q50, rfl⟩ := dep hD 9 rfl rfl rfl rfl
          obtain ⟨_, q56, rfl⟩ := dep hD 15 rfl rfl rfl rfl
          obtain ⟨_, qg, rfl⟩ := dep hD 6 rfl rfl rfl rfl
          clear hF hD
          refine want_yes rfl rfl rfl qg ?_
          go_simp
          exact hK _ _ hC (Below.refl _ _) rfl
        refine RegSteps.cons ?_ ?_
        · intro _ az wz hC hF hD _ K hK
          obtain ⟨_, q47, rfl⟩ := dep hD 6 rfl rfl rfl rfl
          obtain ⟨_, q57, rfl⟩ := dep hD 16 rfl rfl rfl rfl
          clear hF hD
          refine want_none rfl ?_
          go_simp
          exact hK _ _ hC (Below.refl _ _) rfl
        refine RegSteps.cons ?_ ?_
        · intro _ az wz hC hF hD _ K hK
          obtain ⟨_, q58, rfl⟩ := dep hD 17 rfl rfl rfl rfl
          clear hF hD
          refine want_none rfl ?_
          go_simp
          exact hK _ _ hC (Below.refl _ _) rfl
        refine RegSteps.cons ?_ ?_
        · intro _ az wz hC hF hD _ K hK
          have q10 : az.tmps[10]? = some (.pointer (some ⟨w7.heap.size, 0, none⟩)) := hF 10 rfl
          obtain ⟨_, qg, rfl⟩ := dep hD 18 rfl rfl rfl rfl
          obtain ⟨l0, l1, _⟩ := (hQ.on hC).all2
          clear hF hD
          refine want_yes rfl rfl rfl qg ?_
          go_simp
          exact hK _ _ hC (Below.refl _ _) rfl
        refine RegSteps.cons ?_ ?_
        · intro _ az wz hC hF hD _ K hK
          have q7 : az.tmps[7]? = some (.pointer (some ⟨w4.heap.size, 0, none⟩)) := hF 7 rfl
          obtain ⟨_, qg, rfl⟩ := dep hD 18 rfl rfl rfl rfl
          obtain ⟨l0, l1, _⟩ := (hP.on hC).all2
          clear hF hD
          refine want_yes rfl rfl rfl qg ?_
          go_simp
          exact hK _ _ hC (Below.refl _ _) rfl
        refine RegSteps.cons ?_ ?_
        · intro _ az wz hC hF hD _ K hK
          obtain ⟨_, q60, rfl⟩ := dep hD 19 rfl rfl rfl rfl
          obtain ⟨_, q61, rfl⟩ := dep hD 20 rfl rfl rfl rfl
          obtain ⟨_, qg, rfl⟩ := dep hD 18 rfl rfl rfl rfl
          clear hF hD
          refine want_yes rfl rfl rfl qg ?_
          go_simp
          refine (compare_iv (hq.on hC) (hp.on hC)).mono ?_
          rintro e wy ⟨rfl, k⟩
          exact hK _ _ (Below.call hC k) k rfl
        refine RegSteps.cons ?_ ?_
        · intro _ az wz hC hF hD _ K hK
          have q6 : az.tmps[6]? = some (.slice (some ⟨y6, 0, none⟩) 3 3) := hF 6 rfl
          obtain ⟨_, qg, rfl⟩ := dep hD 18 rfl rfl rfl rfl
          clear hF hD
          refine want_yes rfl rfl rfl qg ?_
          go_simp
          exact hK _ _ hC (Below.refl _ _) rfl
        refine RegSteps.cons ?_ ?_
        · intro _ az wz hC hF hD _ K hK
          have q9 : az.tmps[9]? = some (.int .i64 (i : Int)) := hF 9 rfl
          obtain ⟨_, qg, rfl⟩ := dep hD 18 rfl rfl rfl rfl
          clear hF hD
          refine want_yes rfl rfl rfl qg ?_
          go_simp
          exact hK _ _ hC (Below.refl _ _) rfl
        refine RegSteps.cons ?_ ?_
        · intro _ az wz hC hF hD _ K hK
          obtain ⟨_, q63, rfl⟩ := dep hD 22 rfl rfl rfl rfl
          obtain ⟨_, q64, rfl⟩ := dep hD 23 rfl rfl rfl rfl
          obtain ⟨_, qg, rfl⟩ := dep hD 18 rfl rfl rfl rfl
          clear hF hD
          refine want_yes rfl rfl rfl qg ?_
          go_simp
          exact hK _ _ hC (Below.refl _ _) rfl
        refine RegSteps.cons ?_ ?_
        · intro _ az wz hC hF hD _ K hK
          obtain ⟨_, q65, rfl⟩ := dep hD 24 rfl rfl rfl rfl
          obtain ⟨_, qg, rfl⟩ := dep hD 18 rfl rfl rfl rfl
          have l0 := (hN.on hC).c0
          have l1 := (hN.on hC).c1
          clear hF hD
          refine want_yes rfl rfl rfl qg ?_
          go_simp
          exact hK _ _ hC (Below.refl _ _) rfl
        refine RegSteps.cons ?_ ?_
        · intro _ az wz hC hF hD _ K hK
          have q5 : az.tmps[5]? = some (.pointer (some ⟨w1.heap.size, 0, none⟩)) := hF 5 rfl
          obtain ⟨_, qg, rfl⟩ := dep hD 18 rfl rfl rfl rfl
          obtain ⟨l0, l1, _⟩ := (hX.on hC).all2
          clear hF hD
          refine want_yes rfl rfl rfl qg ?_
          go_simp
          exact hK _ _ hC (Below.refl _ _) rfl
        refine RegSteps.cons ?_ ?_
        · intro _ az wz hC hF hD _ K hK
          obtain ⟨_, q66, rfl⟩ := dep hD 25 rfl rfl rfl rfl
          obtain ⟨_, q67, rfl⟩ := dep hD 26 rfl rfl rfl rfl
          obtain ⟨_, qg, rfl⟩ := dep hD 18 rfl rfl rfl rfl
          clear hF hD
          refine want_yes rfl rfl rfl qg ?_
          go_simp
          refine (rCompare_any (hN.on hC).ni (hx.on hC)).mono ?_
          rintro e wy ⟨rfl, k⟩
          exact hK _ _ (Below.call hC k) k rfl
        refine RegSteps.cons ?_ ?_
        · intro _ az wz hC hF hD _ K hK
          obtain ⟨_, q62, rfl⟩ := dep hD 21 rfl rfl rfl rfl
          obtain ⟨_, q68, rfl⟩ := dep hD 27 rfl rfl rfl rfl
          obtain ⟨_, qg, rfl⟩ := dep hD 18 rfl rfl rfl rfl
          clear hF hD
          refine want_yes rfl rfl rfl qg ?_
          go_simp
          exact hK _ _ hC (Below.refl _ _) rfl
        refine RegSteps.cons ?_ ?_
        · intro _ az wz hC hF hD _ K hK
          obtain ⟨_, q59, rfl⟩ := dep hD 18 rfl rfl rfl rfl
          obtain ⟨_, q69, rfl⟩ := dep hD 28 rfl rfl rfl rfl
          clear hF hD
          refine want_none rfl ?_
          go_simp
          exact hK _ _ hC (Below.refl _ _) rfl
        exact RegSteps.nil
      intro w9 hC9
      rintro _ rfl _ rfl _ rfl _ rfl _ rfl _ rfl _ rfl _ rfl _ rfl _ rfl _ rfl _ rfl _ rfl _ rfl _ rfl _ rfl _ rfl _ rfl _ rfl _ rfl _ rfl _ rfl _ rfl _ rfl _ rfl _ rfl _ rfl _ rfl _ rfl _ rfl
      simp only [FinOK, Act.put, List.setIfInBounds_toArray, List.set_cons_zero, List.set_cons_succ]
      have hb9 := Below.call hbr hC9
      go_wp2_with fail
      go_roundw
      case rel => exact ⟨i + 1, by omega, by go_num, hb9⟩
      case measure => simp [intOf]; omega
    · subst h3
      have hb2 := Below.call b1 hbr
      have ht := ht0.on hb2
      go_upto_region 10 with fail
      refine wp_region_specs wr [Spec.eq (.agg #[.bool p.neg, .slice p.A p.n p.c]), Spec.eq (.int .i64 (cmpI a 0)), Spec.eq (.agg #[.bool x.neg, .slice x.A x.n x.c]), Spec.eq (.agg #[.bool nZero.neg, .slice nZero.A nZero.n nZero.c]), Spec.eq (.int .i64 (cmpI a 0)), Spec.eq (.bool true), Spec.eq (.bool true), Spec.eq (.agg #[.bool p.neg, .slice p.A p.n p.c]), sW (-a), Spec.eq (.agg #[.bool x.neg, .slice x.A x.n x.c]), sN (-a), Spec.eq (.bool true), Spec.eq (.bool true), Spec.eq (.bool true), Spec.eq (.bool true), Spec.eq (.bool true), Spec.eq (.bool true)]
          (by kernel_rfl) (by kernel_rfl) rfl (by kernel_rfl) (Below.drew (Below.refl _ _)) ?_ ?_
      ·
        refine RegSteps.cons ?_ ?_
        · intro _ az wz hC hF hD _ K hK
          have q7 : az.tmps[7]? = some (.pointer (some ⟨w4.heap.size, 0, none⟩)) := hF 7 rfl
          obtain ⟨l0, l1, _⟩ := (hP.on hC).all2
          clear hF hD
          refine want_none rfl ?_
          go_simp
          exact hK _ _ hC (Below.refl _ _) rfl
        refine RegSteps.cons ?_ ?_
        · intro _ az wz hC hF hD _ K hK
          obtain ⟨_, q71, rfl⟩ := dep hD 0 rfl rfl rfl rfl
          clear hF hD
          refine want_none rfl ?_
          go_simp
          refine (sign_iv (hp.on hC)).mono ?_
          rintro e wy ⟨rfl, k⟩
          exact hK _ _ (Below.call hC k) k rfl
        refine RegSteps.cons ?_ ?_
        · intro _ az wz hC hF hD _ K hK
          have q5 : az.tmps[5]? = some (.pointer (some ⟨w1.heap.size, 0, none⟩)) := hF 5 rfl
          obtain ⟨l0, l1, _⟩ := (hX.on hC).all2
          clear hF hD
          refine want_none rfl ?_
          go_simp
          exact hK _ _ hC (Below.refl _ _) rfl
        refine RegSteps.cons ?_ ?_
        · intro _ az wz hC hF hD _ K hK
          clear hF hD
          refine want_none rfl ?_
          go_simp
          exact hK _ _ hC (Below.refl _ _) rfl
        refine RegSteps.cons ?_ ?_
        · intro _ az wz hC hF hD _ K hK
          obtain ⟨_, q73, rfl⟩ := dep hD 2 rfl rfl rfl rfl
          obtain ⟨_, q74, rfl⟩ := dep hD 3 rfl rfl rfl rfl
          clear hF hD
          refine want_none rfl ?_
          go_simp
          refine (rCompare_any (hx.on hC) (NI.zero _)).mono ?_
          rintro e wy ⟨rfl, k⟩
          exact hK _ _ (Below.call hC k) k rfl
        refine RegSteps.cons ?_ ?_
        · intro _ az wz hC hF hD _ K hK
          obtain ⟨_, q72, rfl⟩ := dep hD 1 rfl rfl rfl rfl
          obtain ⟨_, q75, rfl⟩ := dep hD 4 rfl rfl rfl rfl
          clear hF hD
          refine want_none rfl ?_
          go_simp
          exact hK _ _ hC (Below.refl _ _) rfl
        refine RegSteps.cons ?_ ?_
        · intro _ az wz hC hF hD _ K hK
          obtain ⟨_, q76, rfl⟩ := dep hD 5 rfl rfl rfl rfl
          clear hF hD
          refine want_none rfl ?_
          go_simp
          exact hK _ _ hC (Below.refl _ _) rfl
        refine RegSteps.cons ?_ ?_
        · intro _ az wz hC hF hD _ K hK
          have q7 : az.tmps[7]? = some (.pointer (some ⟨w4.heap.size, 0, none⟩)) := hF 7 rfl
          obtain ⟨_, qg, rfl⟩ := dep hD 6 rfl rfl rfl rfl
          obtain ⟨l0, l1, _⟩ := (hP.on hC).all2
          clear hF hD
          refine want_yes rfl rfl rfl qg ?_
          go_simp
          exact hK _ _ hC (Below.refl _ _) rfl
        refine RegSteps.cons ?_ ?_
        · intro _ az wz hC hF hD _ K hK
          obtain ⟨_, q78, rfl⟩ := dep hD 7 rfl rfl rfl rfl
          obtain ⟨_, qg, rfl⟩ := dep hD 6 rfl rfl rfl rfl
          clear hF hD
          refine want_yes rfl rfl rfl qg ?_
          go_simp
          refine (neg_w (hp.on hC)).mono ?_
          rintro e wy ⟨x, rfl, k, hx⟩
          exact hK _ _ (Below.call hC k) k ⟨x, rfl, hx⟩
        refine RegSteps.cons ?_ ?_
        · intro _ az wz hC hF hD _ K hK
          have q5 : az.tmps[5]? = some (.pointer (some ⟨w1.heap.size, 0, none⟩)) := hF 5 rfl
          obtain ⟨_, qg, rfl⟩ := dep hD 6 rfl rfl rfl rfl
          obtain ⟨l0, l1, _⟩ := (hX.on hC).all2
          clear hF hD
          refine want_yes rfl rfl rfl qg ?_
          go_simp
          exact hK _ _ hC (Below.refl _ _) rfl
        refine RegSteps.cons ?_ ?_
        · intro _ az wz hC hF hD _ K hK
          obtain ⟨_, q80, rfl⟩ := dep hD 9 rfl rfl rfl rfl
          obtain ⟨_, qg, rfl⟩ := dep hD 6 rfl rfl rfl rfl
          clear hF hD
          refine want_yes rfl rfl rfl qg ?_
          go_simp
          refine (rNeg_any (hx.on hC)).mono ?_
          rintro e wy ⟨x, rfl, k, hx⟩
          exact hK _ _ (Below.call hC k) k ⟨x, rfl, hx⟩
        refine RegSteps.cons ?_ ?_
        · intro _ az wz hC hF hD _ K hK
          obtain ⟨_, q79, x79, rfl, hx79⟩ := dep hD 8 rfl rfl rfl rfl
          obtain ⟨_, q81, x81, rfl, hx81⟩ := dep hD 10 rfl rfl rfl rfl
          obtain ⟨_, qg, rfl⟩ := dep hD 6 rfl rfl rfl rfl
          clear hF hD
          refine want_yes rfl rfl rfl qg ?_
          go_simp
          refine (equal_same hx79 hx81 (ht.on hC)).mono ?_
          rintro e wy ⟨rfl, k⟩
          exact hK _ _ (Below.call hC k) k rfl
        refine RegSteps.cons ?_ ?_
        · intro _ az wz hC hF hD _ K hK
          obtain ⟨_, q77, rfl⟩ := dep hD 6 rfl rfl rfl rfl
          obtain ⟨_, q82, rfl⟩ := dep hD 11 rfl rfl rfl rfl
          clear hF hD
          refine want_none rfl ?_
          go_simp
          exact hK _ _ hC (Below.refl _ _) rfl
        refine RegSteps.cons ?_ ?_
        · intro _ az wz hC hF hD _ K hK
          obtain ⟨_, q83, rfl⟩ := dep hD 12 rfl rfl rfl rfl
          clear hF hD
          refine want_none rfl ?_
          go_simp
          exact hK _ _ hC (Below.refl _ _) rfl
        refine RegSteps.cons ?_ ?_
        · intro _ az wz hC hF hD _ K hK
          obtain ⟨_, qg, rfl⟩ := dep hD 13 rfl rfl rfl rfl
          clear hF hD
          refine want_yes rfl rfl rfl qg ?_
          go_simp
          refine (lives3_any _ (ht.on hC)).mono ?_
          rintro e wy ⟨rfl, k⟩
          exact hK _ _ (Below.call hC k) k rfl
        refine RegSteps.cons ?_ ?_
        · intro _ az wz hC hF hD _ K hK
          obtain ⟨_, q84, rfl⟩ := dep hD 13 rfl rfl rfl rfl
          obtain ⟨_, q85, rfl⟩ := dep hD 14 rfl rfl rfl rfl
          clear hF hD
          refine want_none rfl ?_
          go_simp
          exact hK _ _ hC (Below.refl _ _) rfl
        refine RegSteps.cons ?_ ?_
        · intro _ az wz hC hF hD _ K hK
          obtain ⟨_, q86, rfl⟩ := dep hD 15 rfl rfl rfl rfl
          clear hF hD
          refine want_none rfl ?_
          go_simp
          exact hK _ _ hC (Below.refl _ _) rfl
        exact RegSteps.nil
      intro w9 hC9
      rintro _ rfl _ rfl _ rfl _ rfl _ rfl _ rfl _ rfl _ rfl _ ⟨y79, rfl, _⟩ _ rfl _ ⟨y81, rfl, _⟩ _ rfl _ rfl _ rfl _ rfl _ rfl _ rfl
      simp only [FinOK, Act.put, List.setIfInBounds_toArray, List.set_cons_zero, List.set_cons_succ]
      go_wp2
      go_returns
      exact ⟨rfl, Below.call hb2 hC9⟩
end Go.Proofs.YthafhbogpfggjaaGreatDoor
