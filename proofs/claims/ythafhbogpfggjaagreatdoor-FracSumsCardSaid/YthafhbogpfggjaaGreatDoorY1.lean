/-
  The law FracSums: the walk.
-/
import Derived.Test.YthafhbogpfggjaaGreatDoorB7
import Derived.Test.YthafhbogpfggjaaGreatDoorB6
namespace Go.Proofs.YthafhbogpfggjaaGreatDoor
open Go.RowKit Mag

set_option maxRecDepth 100000 in
set_option maxHeartbeats 12800000 in
theorem FracSums_any {w : World} {A : Option Addr} {l : List Int} {c : Nat} (h : IntsIs w A l c) (hTab0 : Tab w) : Calls Tryz.prog 14 #[.slice A l.length c] w (RetBool w true) := by
  go_enter Tryz.func14, Tryz.ntmps14
  go_wp2_with fail
  refine (fFrac_any h 0 (by omega) 0 rfl).mono ?_
  rintro e w1 ⟨x, rfl, k1, hx⟩
  go_upto_region 2 with fail
  refine wp_new1 fun w2 hX k2 => ?_
  have b1 := Below.call k1 k2
  replace hx := hx.on k2
  clear k1 k2
  go_wp2_with fail
  refine (fFrac_any (h.on b1) 4 (by omega) 4 rfl).mono ?_
  rintro e w3 ⟨y, rfl, k3, hy⟩
  go_upto_region 3 with fail
  refine wp_new1 fun w4 hY k4 => ?_
  have kk := Below.call k3 k4
  replace b1 := Below.call b1 kk
  replace hx := hx.on kk
  replace hX := hX.on kk
  replace hy := hy.on k4
  clear k3 k4 kk h
  refine wp_region_specs w4 [Spec.eq (.agg #[.bool x.p.neg, .slice x.p.A x.p.n x.p.c, .bool x.l.neg, .slice x.l.A x.l.n x.l.c]), Spec.eq (.agg #[.bool y.p.neg, .slice y.p.A y.p.n y.p.c, .bool y.l.neg, .slice y.l.A y.l.n y.l.c]), Spec.eq (.agg #[.bool x.p.neg, .slice x.p.A x.p.n x.p.c, .bool x.l.neg, .slice x.l.A x.l.n x.l.c]), sRS 130, sRS 130, sFL 4 130, sFL 4 130]
      (by kernel_rfl) (by kernel_rfl) rfl (by kernel_rfl) (Below.drew (Below.refl _ _)) ?_ ?_
  ·
    refine RegSteps.cons ?_ ?_
    · intro _ az wz hC hF hD _ K hK
      have q3 : az.tmps[3]? = some (.pointer (some ⟨w1.heap.size, 0, none⟩)) := hF 3 rfl
      obtain ⟨l0, l1, l2, l3, _⟩ := (hX.on hC).all4
      clear hF hD
      refine want_none rfl ?_
      go_simp
      exact hK _ _ hC (Below.refl _ _) rfl
    refine RegSteps.cons ?_ ?_
    · intro _ az wz hC hF hD _ K hK
      have q4 : az.tmps[4]? = some (.pointer (some ⟨w3.heap.size, 0, none⟩)) := hF 4 rfl
      obtain ⟨l0, l1, l2, l3, _⟩ := (hY.on hC).all4
      clear hF hD
      refine want_none rfl ?_
      go_simp
      exact hK _ _ hC (Below.refl _ _) rfl
    refine RegSteps.cons ?_ ?_
    · intro _ az wz hC hF hD _ K hK
      have q3 : az.tmps[3]? = some (.pointer (some ⟨w1.heap.size, 0, none⟩)) := hF 3 rfl
      obtain ⟨l0, l1, l2, l3, _⟩ := (hX.on hC).all4
      clear hF hD
      refine want_none rfl ?_
      go_simp
      exact hK _ _ hC (Below.refl _ _) rfl
    refine RegSteps.cons ?_ ?_
    · intro _ az wz hC hF hD _ K hK
      obtain ⟨_, q32, rfl⟩ := dep hD 2 rfl rfl rfl rfl
      clear hF hD
      refine want_none rfl ?_
      go_simp
      refine (fNeg_rs (hx.on hC)).mono ?_
      rintro e wy ⟨x, rfl, k, hx⟩
      exact hK _ _ (Below.call hC k) k ⟨x, rfl, hx⟩
    refine RegSteps.cons ?_ ?_
    · intro _ az wz hC hF hD _ K hK
      clear hF hD
      refine want_none rfl ?_
      go_simp
      refine (fZero_rs _).mono ?_
      rintro e wy ⟨x, rfl, k, hx⟩
      exact hK _ _ (Below.call hC k) k ⟨x, rfl, hx⟩
    refine RegSteps.cons ?_ ?_
    · intro _ az wz hC hF hD _ K hK
      obtain ⟨_, q30, rfl⟩ := dep hD 0 rfl rfl rfl rfl
      obtain ⟨_, q31, rfl⟩ := dep hD 1 rfl rfl rfl rfl
      obtain ⟨_, q33, x33, rfl, hx33⟩ := dep hD 3 rfl rfl rfl rfl
      obtain ⟨_, q34, x34, rfl, hx34⟩ := dep hD 4 rfl rfl rfl rfl
      clear hF hD
      refine want_none rfl ?_
      go_simp
      exact hK _ _ (Below.alloc hC hC.size _) (below_new _ _) ⟨_, rfl, FList.mk4 (hx.on hC) (hy.on hC) hx33 hx34⟩
    refine RegSteps.cons ?_ ?_
    · intro _ az wz hC hF hD _ K hK
      obtain ⟨_, q35, x35, rfl, hx35⟩ := dep hD 5 rfl rfl rfl rfl
      clear hF hD
      refine want_none rfl ?_
      go_simp
      exact hK _ _ hC (Below.refl _ _) ⟨x35, rfl, hx35⟩
    exact RegSteps.nil
  intro w5 hC5
  rintro _ rfl _ rfl _ rfl _ ⟨y33, rfl, _⟩ _ ⟨y34, rfl, _⟩ _ ⟨y35, rfl, _⟩ _ ⟨y5, rfl, hy5⟩
  simp only [FinOK, Act.put, List.setIfInBounds_toArray, List.set_cons_zero, List.set_cons_succ]
  replace b1 := Below.call b1 hC5
  have hL := hy5
  have hTab := hTab0.on b1
  clear hX hY hx hy hC5 hy5 hTab0
  go_wp2_with fail
  go_loopw [6] (fun s wr => ∃ i : Nat, i ≤ 4 ∧ s = .int .i64 (i : Int) ∧ Below w5.heap.size w5 wr) (fun s _ => 4 - (intOf s).toNat)
  case atStart => exact ⟨0, by omega, rfl, Below.refl _ _⟩
  case round =>
    obtain ⟨i, hi, rfl, hbr⟩ := hrel
    rcases Nat.lt_or_eq_of_le hi with hlt | heq
    · have i4 : (i : Int) < 4 := by omega
      have i0 : (0 : Int) ≤ (i : Int) := by omega
      go_wp2_with fail
      go_loopw [7] (fun s wr => ∃ k : Nat, k ≤ 4 ∧ s = .int .i64 (k : Int) ∧ Below w5.heap.size w5 wr) (fun s _ => 4 - (intOf s).toNat)
      case atStart => exact ⟨0, by omega, rfl, hbr⟩
      case round =>
        obtain ⟨k, hk, rfl, hbr⟩ := hrel
        rcases Nat.lt_or_eq_of_le hk with hlt2 | heq2
        · have k4 : (k : Int) < 4 := by omega
          have k0 : (0 : Int) ≤ (k : Int) := by omega
          obtain ⟨p, a, hp0⟩ := (hL.on hbr) i hlt
          obtain ⟨q, b, hq0⟩ := (hL.on hbr) k hlt2
          have sa := hp0.sm
          have sb := hq0.sm
          have hTr := hTab.on hbr
          obtain ⟨r0, r1, r2, r3⟩ := hp0.rules
          have hW := Below.refl wr.heap.size wr
          have HbW := Lib.hid hbr
          clear hbr
          go_wp2_with fail
          refine (of_any hp0.nr (sa.fit (by omega))).mono ?_
          rintro e v1 ⟨u, rfl, k1, hu⟩
          clear hW r0 r1 r2 r3
          go_upto_region 11 with fail
          refine wp_new1 fun v2 hU k2 => ?_
          have b2 := Below.call k1 k2
          replace hu := hu.on k2
          have hq1 := hq0.on b2
          obtain ⟨r0, r1, r2, r3⟩ := hq1.rules
          have hW := Below.refl v2.heap.size v2
          clear k1 k2
          go_wp2_with fail
          refine (of_any hq1.nr (sb.fit (by omega))).mono ?_
          rintro e v3 ⟨v, rfl, k1, hv⟩
          clear hW r0 r1 r2 r3 hq1
          go_upto_region 12 with fail
          refine wp_new1 fun v4 hV k2 => ?_
          have kk := Below.call k1 k2
          replace b2 := Below.call b2 kk
          replace hu := hu.on kk
          replace hU := hU.on kk
          replace hv := hv.on k2
          clear k1 k2 kk
          have HD1 : Hid (∀ w', FR u w' a → FR v w' b → Calls Tryz.prog 74 #[.agg #[.bool u.p.neg, .slice u.p.A u.p.n u.p.c, .bool u.l.neg, .slice u.l.A u.l.n u.l.c], .agg #[.bool v.p.neg, .slice v.p.A v.p.n v.p.c, .bool v.l.neg, .slice v.l.A v.l.n v.l.c]] w' (RetFRE w' (a + b) 0)) := Lib.hid fun w' h1 h2 => addF_ok h1 h2 sa sb (by omega)
          have HD2 : Hid (∀ w', FR u w' a → FR v w' b → Calls Tryz.prog 76 #[.agg #[.bool u.p.neg, .slice u.p.A u.p.n u.p.c, .bool u.l.neg, .slice u.l.A u.l.n u.l.c], .agg #[.bool v.p.neg, .slice v.p.A v.p.n v.p.c, .bool v.l.neg, .slice v.l.A v.l.n v.l.c]] w' (RetFRE w' (a - b) 0)) := Lib.hid fun w' h1 h2 => subF_ok h1 h2 sa sb (by omega)
          have HD3 : Hid (∀ w', FR u w' a → FR v w' b → Calls Tryz.prog 78 #[.agg #[.bool u.p.neg, .slice u.p.A u.p.n u.p.c, .bool u.l.neg, .slice u.l.A u.l.n u.l.c], .agg #[.bool v.p.neg, .slice v.p.A v.p.n v.p.c, .bool v.l.neg, .slice v.l.A v.l.n v.l.c]] w' (RetFRE w' (a * b) 0)) := Lib.hid fun w' h1 h2 => mulF_ok h1 h2 sa sb (by omega)
          obtain ⟨d, hd⟩ : ∃ d, divR a b = d := ⟨_, rfl⟩
          have HD4 : Hid (∀ w', FR u w' a → FR v w' b → Calls Tryz.prog 80 #[.agg #[.bool u.p.neg, .slice u.p.A u.p.n u.p.c, .bool u.l.neg, .slice u.l.A u.l.n u.l.c], .agg #[.bool v.p.neg, .slice v.p.A v.p.n v.p.c, .bool v.l.neg, .slice v.l.A v.l.n v.l.c]] w' (RetFRE w' d.1 d.2)) := Lib.hid fun w' h1 h2 => by rw [← hd]; exact divF h1 h2
          have HDv : Hid (∀ w', NR p w' a → NR q w' b → Calls Tryz.prog 81 #[.agg #[.bool p.p.neg, .slice p.p.A p.p.n p.p.c, .bool p.l.neg, .slice p.l.A p.l.n p.l.c], .agg #[.bool q.p.neg, .slice q.p.A q.p.n q.p.c, .bool q.l.neg, .slice q.l.A q.l.n q.l.c]] w' (RetNRE w' d.1 d.2)) := Lib.hid fun w' h1 h2 => by rw [← hd]; exact fDiv_any h1 h2 (sa.mono (by omega)) (sb.mono (by omega))
          clear hd
          have hp1 := hp0.on b2
          have hq1 := hq0.on b2
          clear hp0 hq0
          obtain ⟨c0_0, c0_1, c0_2, c0_3, _⟩ := hU.all4
          obtain ⟨c1_0, c1_1, c1_2, c1_3, _⟩ := hV.all4
          go_wp2_with fail
          refine (HD1.out _ hu hv).mono ?_
          rintro e v5 ⟨z1, rfl, k1_, hz1⟩
          clear c0_0 c0_1 c0_2 c0_3 c1_0 c1_1 c1_2 c1_3
          go_upto_region 13 with fail
          refine wp_new1 fun v6 hZ1 k2_ => ?_
          have kk_ := Below.call k1_ k2_
          replace hu := hu.on kk_
          replace hU := hU.on kk_
          replace hv := hv.on kk_
          replace hV := hV.on kk_
          replace hp1 := hp1.on kk_
          replace hq1 := hq1.on kk_
          replace hz1 := hz1.on k2_
          replace b2 := Below.call b2 kk_
          clear k1_ k2_ kk_
          have hp := hp1.nr
          have hq := hq1.nr
          have rp := hp1.all
          have rq := hq1.all
          refine wp_region_boxes v6 [Spec.eq (.slice (some ⟨y5, 0, none⟩) 4 4), Spec.eq (.int .i64 (i : Int)), Spec.eq (.pointer (some ⟨y5, i * 4, none⟩)), Spec.eq (.agg #[.bool p.p.neg, .slice p.p.A p.p.n p.p.c, .bool p.l.neg, .slice p.l.A p.l.n p.l.c]), Spec.eq (.slice (some ⟨y5, 0, none⟩) 4 4), Spec.eq (.int .i64 (k : Int)), Spec.eq (.pointer (some ⟨y5, k * 4, none⟩)), Spec.eq (.agg #[.bool q.p.neg, .slice q.p.A q.p.n q.p.c, .bool q.l.neg, .slice q.l.A q.l.n q.l.c]), sNRE (a + b) 0, sNRE (a + b) 0, sNR (a + b), Spec.eq (.int .i64 0), Spec.any, Spec.any, Spec.eq (.int .i64 0)]
              [{ A := 12, j := 13, t := 12, T := 89, zs := [.bool false, .slice none 0 0, .bool false, .slice none 0 0], X := fun us w => ∃ x : FV, us = [.bool x.p.neg, .slice x.p.A x.p.n x.p.c, .bool x.l.neg, .slice x.l.A x.l.n x.l.c] ∧ NR x w (a + b), up := fun ⟨x, e, hx⟩ k => ⟨x, e, hx.keeps k⟩ }]
              (by kernel_rfl) (by kernel_rfl) rfl (by kernel_rfl) rfl (Below.drew (Below.refl _ _)) ?_ ?_ ⟨rfl, rfl, trivial⟩ ?_
          ·
            refine RegSteps.cons ?_ ?_
            · intro _ az wz hC hF hD _ K hK
              have q5 : az.tmps[5]? = some (.slice (some ⟨y5, 0, none⟩) 4 4) := hF 5 rfl
              clear hF hD
              refine want_none rfl ?_
              go_simp
              exact hK _ _ hC (Below.refl _ _) rfl
            refine RegSteps.cons ?_ ?_
            · intro _ az wz hC hF hD _ K hK
              have q6 : az.tmps[6]? = some (.int .i64 (i : Int)) := hF 6 rfl
              clear hF hD
              refine want_none rfl ?_
              go_simp
              exact hK _ _ hC (Below.refl _ _) rfl
            refine RegSteps.cons ?_ ?_
            · intro _ az wz hC hF hD _ K hK
              obtain ⟨_, q61, rfl⟩ := dep hD 0 rfl rfl rfl rfl
              obtain ⟨_, q62, rfl⟩ := dep hD 1 rfl rfl rfl rfl
              clear hF hD
              refine want_none rfl ?_
              go_simp
              exact hK _ _ hC (Below.refl _ _) rfl
            refine RegSteps.cons ?_ ?_
            · intro _ az wz hC hF hD _ K hK
              obtain ⟨_, q63, rfl⟩ := dep hD 2 rfl rfl rfl rfl
              obtain ⟨l0, l1, l2, l3⟩ := rp _ hC
              clear hF hD
              refine want_none rfl ?_
              go_simp
              exact hK _ _ hC (Below.refl _ _) rfl
            refine RegSteps.cons ?_ ?_
            · intro _ az wz hC hF hD _ K hK
              have q5 : az.tmps[5]? = some (.slice (some ⟨y5, 0, none⟩) 4 4) := hF 5 rfl
              clear hF hD
              refine want_none rfl ?_
              go_simp
              exact hK _ _ hC (Below.refl _ _) rfl
            refine RegSteps.cons ?_ ?_
            · intro _ az wz hC hF hD _ K hK
              have q7 : az.tmps[7]? = some (.int .i64 (k : Int)) := hF 7 rfl
              clear hF hD
              refine want_none rfl ?_
              go_simp
              exact hK _ _ hC (Below.refl _ _) rfl
            refine RegSteps.cons ?_ ?_
            · intro _ az wz hC hF hD _ K hK
              obtain ⟨_, q65, rfl⟩ := dep hD 4 rfl rfl rfl rfl
              obtain ⟨_, q66, rfl⟩ := dep hD 5 rfl rfl rfl rfl
              clear hF hD
              refine want_none rfl ?_
              go_simp
              exact hK _ _ hC (Below.refl _ _) rfl
            refine RegSteps.cons ?_ ?_
            · intro _ az wz hC hF hD _ K hK
              obtain ⟨_, q67, rfl⟩ := dep hD 6 rfl rfl rfl rfl
              obtain ⟨l0, l1, l2, l3⟩ := rq _ hC
              clear hF hD
              refine want_none rfl ?_
              go_simp
              exact hK _ _ hC (Below.refl _ _) rfl
            refine RegSteps.cons ?_ ?_
            · intro _ az wz hC hF hD _ K hK
              obtain ⟨_, q64, rfl⟩ := dep hD 3 rfl rfl rfl rfl
              obtain ⟨_, q68, rfl⟩ := dep hD 7 rfl rfl rfl rfl
              clear hF hD
              refine want_none rfl ?_
              go_simp
              refine (fAdd_ok (hp.on hC) (hq.on hC) sa sb (by omega)).mono ?_
              rintro e wy ⟨x, rfl, k, hx⟩
              exact hK _ _ (Below.call hC k) k ⟨x, rfl, hx⟩
            refine RegSteps.cons ?_ ?_
            · intro _ az wz hC hF hD _ K hK
              obtain ⟨_, q69, x69, rfl, hx69⟩ := dep hD 8 rfl rfl rfl rfl
              clear hF hD
              refine want_none rfl ?_
              go_simp
              exact hK _ _ hC (Below.refl _ _) ⟨x69, rfl, hx69⟩
            refine RegSteps.cons ?_ ?_
            · intro _ az wz hC hF hD _ K hK
              obtain ⟨_, q60, x60, rfl, hx60⟩ := dep hD 9 rfl rfl rfl rfl
              clear hF hD
              refine want_none rfl ?_
              go_simp
              exact hK _ _ hC (Below.refl _ _) ⟨x60, rfl, hx60⟩
            refine RegSteps.cons ?_ ?_
            · intro _ az wz hC hF hD _ K hK
              obtain ⟨_, q60, x60, rfl, hx60⟩ := dep hD 9 rfl rfl rfl rfl
              clear hF hD
              refine want_none rfl ?_
              go_simp
              exact hK _ _ hC (Below.refl _ _) rfl
            refine RegSteps.cons ?_ ?_
            · exact fun h => by cases h
            refine RegSteps.cons ?_ ?_
            · exact fun h => by cases h
            refine RegSteps.cons ?_ ?_
            · intro _ az wz hC hF hD _ K hK
              obtain ⟨_, q71, rfl⟩ := dep hD 11 rfl rfl rfl rfl
              clear hF hD
              refine want_none rfl ?_
              go_simp
              exact hK _ _ hC (Below.refl _ _) rfl
            exact RegSteps.nil
          · refine ⟨?_, trivial⟩
            · refine ⟨⟨_, rfl, rfl, rfl, fun az wz K hK => by go_simp; exact hK⟩, ⟨_, rfl, rfl, rfl, ?_⟩, by simp [Word], by simp⟩
              intro az wz gz cs hC hF hD hA K hK
              obtain ⟨p1, p2, p3, p4, p5⟩ := hA
              obtain ⟨_, q70, x, rfl, hx⟩ := dep hD 10 rfl rfl rfl rfl
              obtain ⟨c0, c1, c2, c3, rfl⟩ := list_4 (l := cs) p4
              have z0 := p3.c0
              have z1 := p3.c1
              have z2 := p3.c2
              have z3 := p3.c3
              have f0 := p3.frozen 0
              have f1 := p3.frozen 1
              have f2 := p3.frozen 2
              have f3 := p3.frozen 3
              clear hF hD p3 p5
              refine want_none rfl ?_
              go_simp
              exact hK [.bool x.p.neg, .slice x.p.A x.p.n x.p.c, .bool x.l.neg, .slice x.l.A x.l.n x.l.c] rfl (by simp [Word]) ⟨x, rfl, hx⟩
          intro v7 gs hC hgl hbf
          obtain ⟨gn1, rfl⟩ := list_1 hgl
          obtain ⟨⟨hg0, us0, hOb0, ⟨x1, rfl, hx1⟩⟩, _⟩ := hbf
          rintro _ rfl _ rfl _ rfl _ rfl _ rfl _ rfl _ rfl _ rfl _ ⟨y69, rfl, _⟩ _ ⟨y60, rfl, _⟩ _ ⟨y70, rfl, _⟩ _ rfl _ rfl _ _ _ rfl
          simp only [FinOK, Act.put, List.setIfInBounds_toArray, List.set_cons_zero, List.set_cons_succ]
          replace hu := hu.on hC
          replace hU := hU.on hC
          replace hv := hv.on hC
          replace hV := hV.on hC
          replace hp1 := hp1.on hC
          replace hq1 := hq1.on hC
          replace hz1 := hz1.on hC
          replace hZ1 := hZ1.on hC
          replace b2 := Below.call b2 hC
          have hXo1 := hOb0
          clear hOb0
          clear hC
          clear hp hq rp rq
          obtain ⟨c0_0, c0_1, c0_2, c0_3, _⟩ := hU.all4
          obtain ⟨c1_0, c1_1, c1_2, c1_3, _⟩ := hV.all4
          go_wp2_with fail
          refine (HD2.out _ hu hv).mono ?_
          rintro e v8 ⟨z2, rfl, k1_, hz2⟩
          clear c0_0 c0_1 c0_2 c0_3 c1_0 c1_1 c1_2 c1_3
          go_upto_region 15 with fail
          refine wp_new1 fun v9 hZ2 k2_ => ?_
          have kk_ := Below.call k1_ k2_
          replace hu := hu.on kk_
          replace hU := hU.on kk_
          replace hv := hv.on kk_
          replace hV := hV.on kk_
          replace hp1 := hp1.on kk_
          replace hq1 := hq1.on kk_
          replace hz1 := hz1.on kk_
          replace hZ1 := hZ1.on kk_
          replace hx1 := hx1.on kk_
          replace hXo1 := hXo1.on kk_
          replace hz2 := hz2.on k2_
          replace b2 := Below.call b2 kk_
          clear k1_ k2_ kk_
          have hp := hp1.nr
          have hq := hq1.nr
          have rp := hp1.all
          have rq := hq1.all
          refine wp_region_boxes v9 [Spec.eq (.slice (some ⟨y5, 0, none⟩) 4 4), Spec.eq (.int .i64 (i : Int)), Spec.eq (.pointer (some ⟨y5, i * 4, none⟩)), Spec.eq (.agg #[.bool p.p.neg, .slice p.p.A p.p.n p.p.c, .bool p.l.neg, .slice p.l.A p.l.n p.l.c]), Spec.eq (.slice (some ⟨y5, 0, none⟩) 4 4), Spec.eq (.int .i64 (k : Int)), Spec.eq (.pointer (some ⟨y5, k * 4, none⟩)), Spec.eq (.agg #[.bool q.p.neg, .slice q.p.A q.p.n q.p.c, .bool q.l.neg, .slice q.l.A q.l.n q.l.c]), sNRE (a - b) 0, sNRE (a - b) 0, sNR (a - b), Spec.eq (.int .i64 0), Spec.any, Spec.any, Spec.eq (.int .i64 0)]
              [{ A := 12, j := 13, t := 16, T := 89, zs := [.bool false, .slice none 0 0, .bool false, .slice none 0 0], X := fun us w => ∃ x : FV, us = [.bool x.p.neg, .slice x.p.A x.p.n x.p.c, .bool x.l.neg, .slice x.l.A x.l.n x.l.c] ∧ NR x w (a - b), up := fun ⟨x, e, hx⟩ k => ⟨x, e, hx.keeps k⟩ }]
              (by kernel_rfl) (by kernel_rfl) rfl (by kernel_rfl) rfl (Below.drew (Below.refl _ _)) ?_ ?_ ⟨rfl, rfl, trivial⟩ ?_
          ·
            refine RegSteps.cons ?_ ?_
            · intro _ az wz hC hF hD _ K hK
              have q5 : az.tmps[5]? = some (.slice (some ⟨y5, 0, none⟩) 4 4) := hF 5 rfl
              clear hF hD
              refine want_none rfl ?_
              go_simp
              exact hK _ _ hC (Below.refl _ _) rfl
            refine RegSteps.cons ?_ ?_
            · intro _ az wz hC hF hD _ K hK
              have q6 : az.tmps[6]? = some (.int .i64 (i : Int)) := hF 6 rfl
              clear hF hD
              refine want_none rfl ?_
              go_simp
              exact hK _ _ hC (Below.refl _ _) rfl
            refine RegSteps.cons ?_ ?_
            · intro _ az wz hC hF hD _ K hK
              obtain ⟨_, q79, rfl⟩ := dep hD 0 rfl rfl rfl rfl
              obtain ⟨_, q80, rfl⟩ := dep hD 1 rfl rfl rfl rfl
              clear hF hD
              refine want_none rfl ?_
              go_simp
              exact hK _ _ hC (Below.refl _ _) rfl
            refine RegSteps.cons ?_ ?_
            · intro _ az wz hC hF hD _ K hK
              obtain ⟨_, q81, rfl⟩ := dep hD 2 rfl rfl rfl rfl
              obtain ⟨l0, l1, l2, l3⟩ := rp _ hC
              clear hF hD
              refine want_none rfl ?_
              go_simp
              exact hK _ _ hC (Below.refl _ _) rfl
            refine RegSteps.cons ?_ ?_
            · intro _ az wz hC hF hD _ K hK
              have q5 : az.tmps[5]? = some (.slice (some ⟨y5, 0, none⟩) 4 4) := hF 5 rfl
              clear hF hD
              refine want_none rfl ?_
              go_simp
              exact hK _ _ hC (Below.refl _ _) rfl
            refine RegSteps.cons ?_ ?_
            · intro _ az wz hC hF hD _ K hK
              have q7 : az.tmps[7]? = some (.int .i64 (k : Int)) := hF 7 rfl
              clear hF hD
              refine want_none rfl ?_
              go_simp
              exact hK _ _ hC (Below.refl _ _) rfl
            refine RegSteps.cons ?_ ?_
            · intro _ az wz hC hF hD _ K hK
              obtain ⟨_, q83, rfl⟩ := dep hD 4 rfl rfl rfl rfl
              obtain ⟨_, q84, rfl⟩ := dep hD 5 rfl rfl rfl rfl
              clear hF hD
              refine want_none rfl ?_
              go_simp
              exact hK _ _ hC (Below.refl _ _) rfl
            refine RegSteps.cons ?_ ?_
            · intro _ az wz hC hF hD _ K hK
              obtain ⟨_, q85, rfl⟩ := dep hD 6 rfl rfl rfl rfl
              obtain ⟨l0, l1, l2, l3⟩ := rq _ hC
              clear hF hD
              refine want_none rfl ?_
              go_simp
              exact hK _ _ hC (Below.refl _ _) rfl
            refine RegSteps.cons ?_ ?_
            · intro _ az wz hC hF hD _ K hK
              obtain ⟨_, q82, rfl⟩ := dep hD 3 rfl rfl rfl rfl
              obtain ⟨_, q86, rfl⟩ := dep hD 7 rfl rfl rfl rfl
              clear hF hD
              refine want_none rfl ?_
              go_simp
              refine (fSub_ok (hp.on hC) (hq.on hC) sa sb (by omega)).mono ?_
              rintro e wy ⟨x, rfl, k, hx⟩
              exact hK _ _ (Below.call hC k) k ⟨x, rfl, hx⟩
            refine RegSteps.cons ?_ ?_
            · intro _ az wz hC hF hD _ K hK
              obtain ⟨_, q87, x87, rfl, hx87⟩ := dep hD 8 rfl rfl rfl rfl
              clear hF hD
              refine want_none rfl ?_
              go_simp
              exact hK _ _ hC (Below.refl _ _) ⟨x87, rfl, hx87⟩
            refine RegSteps.cons ?_ ?_
            · intro _ az wz hC hF hD _ K hK
              obtain ⟨_, q78, x78, rfl, hx78⟩ := dep hD 9 rfl rfl rfl rfl
              clear hF hD
              refine want_none rfl ?_
              go_simp
              exact hK _ _ hC (Below.refl _ _) ⟨x78, rfl, hx78⟩
            refine RegSteps.cons ?_ ?_
            · intro _ az wz hC hF hD _ K hK
              obtain ⟨_, q78, x78, rfl, hx78⟩ := dep hD 9 rfl rfl rfl rfl
              clear hF hD
              refine want_none rfl ?_
              go_simp
              exact hK _ _ hC (Below.refl _ _) rfl
            refine RegSteps.cons ?_ ?_
            · exact fun h => by cases h
            refine RegSteps.cons ?_ ?_
            · exact fun h => by cases h
            refine RegSteps.cons ?_ ?_
            · intro _ az wz hC hF hD _ K hK
              obtain ⟨_, q89, rfl⟩ := dep hD 11 rfl rfl rfl rfl
              clear hF hD
              refine want_none rfl ?_
              go_simp
              exact hK _ _ hC (Below.refl _ _) rfl
            exact RegSteps.nil
          · refine ⟨?_, trivial⟩
            · refine ⟨⟨_, rfl, rfl, rfl, fun az wz K hK => by go_simp; exact hK⟩, ⟨_, rfl, rfl, rfl, ?_⟩, by simp [Word], by simp⟩
              intro az wz gz cs hC hF hD hA K hK
              obtain ⟨p1, p2, p3, p4, p5⟩ := hA
              obtain ⟨_, q88, x, rfl, hx⟩ := dep hD 10 rfl rfl rfl rfl
              obtain ⟨c0, c1, c2, c3, rfl⟩ := list_4 (l := cs) p4
              have z0 := p3.c0
              have z1 := p3.c1
              have z2 := p3.c2
              have z3 := p3.c3
              have f0 := p3.frozen 0
              have f1 := p3.frozen 1
              have f2 := p3.frozen 2
              have f3 := p3.frozen 3
              clear hF hD p3 p5
              refine want_none rfl ?_
              go_simp
              exact hK [.bool x.p.neg, .slice x.p.A x.p.n x.p.c, .bool x.l.neg, .slice x.l.A x.l.n x.l.c] rfl (by simp [Word]) ⟨x, rfl, hx⟩
          intro v10 gs hC hgl hbf
          obtain ⟨gn2, rfl⟩ := list_1 hgl
          obtain ⟨⟨hg0, us0, hOb0, ⟨x2, rfl, hx2⟩⟩, _⟩ := hbf
          rintro _ rfl _ rfl _ rfl _ rfl _ rfl _ rfl _ rfl _ rfl _ ⟨y87, rfl, _⟩ _ ⟨y78, rfl, _⟩ _ ⟨y88, rfl, _⟩ _ rfl _ rfl _ _ _ rfl
          simp only [FinOK, Act.put, List.setIfInBounds_toArray, List.set_cons_zero, List.set_cons_succ]
          replace hu := hu.on hC
          replace hU := hU.on hC
          replace hv := hv.on hC
          replace hV := hV.on hC
          replace hp1 := hp1.on hC
          replace hq1 := hq1.on hC
          replace hz1 := hz1.on hC
          replace hZ1 := hZ1.on hC
          replace hx1 := hx1.on hC
          replace hXo1 := hXo1.on hC
          replace hz2 := hz2.on hC
          replace hZ2 := hZ2.on hC
          replace b2 := Below.call b2 hC
          have hXo2 := hOb0
          clear hOb0
          clear hC
          clear hp hq rp rq
          obtain ⟨c0_0, c0_1, c0_2, c0_3, _⟩ := hU.all4
          obtain ⟨c1_0, c1_1, c1_2, c1_3, _⟩ := hV.all4
          go_wp2_with fail
          refine (HD3.out _ hu hv).mono ?_
          rintro e v11 ⟨z3, rfl, k1_, hz3⟩
          clear c0_0 c0_1 c0_2 c0_3 c1_0 c1_1 c1_2 c1_3
          go_upto_region 17 with fail
          refine wp_new1 fun v12 hZ3 k2_ => ?_
          have kk_ := Below.call k1_ k2_
          replace hu := hu.on kk_
          replace hU := hU.on kk_
          replace hv := hv.on kk_
          replace hV := hV.on kk_
          replace hp1 := hp1.on kk_
          replace hq1 := hq1.on kk_
          replace hz1 := hz1.on kk_
          replace hZ1 := hZ1.on kk_
          replace hx1 := hx1.on kk_
          replace hXo1 := hXo1.on kk_
          replace hz2 := hz2.on kk_
          replace hZ2 := hZ2.on kk_
          replace hx2 := hx2.on kk_
          replace hXo2 := hXo2.on kk_
          replace hz3 := hz3.on k2_
          replace b2 := Below.call b2 kk_
          clear k1_ k2_ kk_
          have hp := hp1.nr
          have hq := hq1.nr
          have rp := hp1.all
          have rq := hq1.all
          refine wp_region_boxes v12 [Spec.eq (.slice (some ⟨y5, 0, none⟩) 4 4), Spec.eq (.int .i64 (i : Int)), Spec.eq (.pointer (some ⟨y5, i * 4, none⟩)), Spec.eq (.agg #[.bool p.p.neg, .slice p.p.A p.p.n p.p.c, .bool p.l.neg, .slice p.l.A p.l.n p.l.c]), Spec.eq (.slice (some ⟨y5, 0, none⟩) 4 4), Spec.eq (.int .i64 (k : Int)), Spec.eq (.pointer (some ⟨y5, k * 4, none⟩)), Spec.eq (.agg #[.bool q.p.neg, .slice q.p.A q.p.n q.p.c, .bool q.l.neg, .slice q.l.A q.l.n q.l.c]), sNRE (a * b) 0, sNRE (a * b) 0, sNR (a * b), Spec.eq (.int .i64 0), Spec.any, Spec.any, Spec.eq (.int .i64 0)]
              [{ A := 12, j := 13, t := 20, T := 89, zs := [.bool false, .slice none 0 0, .bool false, .slice none 0 0], X := fun us w => ∃ x : FV, us = [.bool x.p.neg, .slice x.p.A x.p.n x.p.c, .bool x.l.neg, .slice x.l.A x.l.n x.l.c] ∧ NR x w (a * b), up := fun ⟨x, e, hx⟩ k => ⟨x, e, hx.keeps k⟩ }]
              (by kernel_rfl) (by kernel_rfl) rfl (by kernel_rfl) rfl (Below.drew (Below.refl _ _)) ?_ ?_ ⟨rfl, rfl, trivial⟩ ?_
          ·
            refine RegSteps.cons ?_ ?_
            · intro _ az wz hC hF hD _ K hK
              have q5 : az.tmps[5]? = some (.slice (some ⟨y5, 0, none⟩) 4 4) := hF 5 rfl
              clear hF hD
              refine want_none rfl ?_
              go_simp
              exact hK _ _ hC (Below.refl _ _) rfl
            refine RegSteps.cons ?_ ?_
            · intro _ az wz hC hF hD _ K hK
              have q6 : az.tmps[6]? = some (.int .i64 (i : Int)) := hF 6 rfl
              clear hF hD
              refine want_none rfl ?_
              go_simp
              exact hK _ _ hC (Below.refl _ _) rfl
            refine RegSteps.cons ?_ ?_
            · intro _ az wz hC hF hD _ K hK
              obtain ⟨_, q97, rfl⟩ := dep hD 0 rfl rfl rfl rfl
              obtain ⟨_, q98, rfl⟩ := dep hD 1 rfl rfl rfl rfl
              clear hF hD
              refine want_none rfl ?_
              go_simp
              exact hK _ _ hC (Below.refl _ _) rfl
            refine RegSteps.cons ?_ ?_
            · intro _ az wz hC hF hD _ K hK
              obtain ⟨_, q99, rfl⟩ := dep hD 2 rfl rfl rfl rfl
              obtain ⟨l0, l1, l2, l3⟩ := rp _ hC
              clear hF hD
              refine want_none rfl ?_
              go_simp
              exact hK _ _ hC (Below.refl _ _) rfl
            refine RegSteps.cons ?_ ?_
            · intro _ az wz hC hF hD _ K hK
              have q5 : az.tmps[5]? = some (.slice (some ⟨y5, 0, none⟩) 4 4) := hF 5 rfl
              clear hF hD
              refine want_none rfl ?_
              go_simp
              exact hK _ _ hC (Below.refl _ _) rfl
            refine RegSteps.cons ?_ ?_
            · intro _ az wz hC hF hD _ K hK
              have q7 : az.tmps[7]? = some (.int .i64 (k : Int)) := hF 7 rfl
              clear hF hD
              refine want_none rfl ?_
              go_simp
              exact hK _ _ hC (Below.refl _ _) rfl
            refine RegSteps.cons ?_ ?_
            · intro _ az wz hC hF hD _ K hK
              obtain ⟨_, q101, rfl⟩ := dep hD 4 rfl rfl rfl rfl
              obtain ⟨_, q102, rfl⟩ := dep hD 5 rfl rfl rfl rfl
              clear hF hD
              refine want_none rfl ?_
              go_simp
              exact hK _ _ hC (Below.refl _ _) rfl
            refine RegSteps.cons ?_ ?_
            · intro _ az wz hC hF hD _ K hK
              obtain ⟨_, q103, rfl⟩ := dep hD 6 rfl rfl rfl rfl
              obtain ⟨l0, l1, l2, l3⟩ := rq _ hC
              clear hF hD
              refine want_none rfl ?_
              go_simp
              exact hK _ _ hC (Below.refl _ _) rfl
            refine RegSteps.cons ?_ ?_
            · intro _ az wz hC hF hD _ K hK
              obtain ⟨_, q100, rfl⟩ := dep hD 3 rfl rfl rfl rfl
              obtain ⟨_, q104, rfl⟩ := dep hD 7 rfl rfl rfl rfl
              clear hF hD
              refine want_none rfl ?_
              go_simp
              refine (fMul_ok (hp.on hC) (hq.on hC) sa sb (by omega)).mono ?_
              rintro e wy ⟨x, rfl, k, hx⟩
              exact hK _ _ (Below.call hC k) k ⟨x, rfl, hx⟩
            refine RegSteps.cons ?_ ?_
            · intro _ az wz hC hF hD _ K hK
              obtain ⟨_, q105, x105, rfl, hx105⟩ := dep hD 8 rfl rfl rfl rfl
              clear hF hD
              refine want_none rfl ?_
              go_simp
              exact hK _ _ hC (Below.refl _ _) ⟨x105, rfl, hx105⟩
            refine RegSteps.cons ?_ ?_
            · intro _ az wz hC hF hD _ K hK
              obtain ⟨_, q96, x96, rfl, hx96⟩ := dep hD 9 rfl rfl rfl rfl
              clear hF hD
              refine want_none rfl ?_
              go_simp
              exact hK _ _ hC (Below.refl _ _) ⟨x96, rfl, hx96⟩
            refine RegSteps.cons ?_ ?_
            · intro _ az wz hC hF hD _ K hK
              obtain ⟨_, q96, x96, rfl, hx96⟩ := dep hD 9 rfl rfl rfl rfl
              clear hF hD
              refine want_none rfl ?_
              go_simp
              exact hK _ _ hC (Below.refl _ _) rfl
            refine RegSteps.cons ?_ ?_
            · exact fun h => by cases h
            refine RegSteps.cons ?_ ?_
            · exact fun h => by cases h
            refine RegSteps.cons ?_ ?_
            · intro _ az wz hC hF hD _ K hK
              obtain ⟨_, q107, rfl⟩ := dep hD 11 rfl rfl rfl rfl
              clear hF hD
              refine want_none rfl ?_
              go_simp
              exact hK _ _ hC (Below.refl _ _) rfl
            exact RegSteps.nil
          · refine ⟨?_, trivial⟩
            · refine ⟨⟨_, rfl, rfl, rfl, fun az wz K hK => by go_simp; exact hK⟩, ⟨_, rfl, rfl, rfl, ?_⟩, by simp [Word], by simp⟩
              intro az wz gz cs hC hF hD hA K hK
              obtain ⟨p1, p2, p3, p4, p5⟩ := hA
              obtain ⟨_, q106, x, rfl, hx⟩ := dep hD 10 rfl rfl rfl rfl
              obtain ⟨c0, c1, c2, c3, rfl⟩ := list_4 (l := cs) p4
              have z0 := p3.c0
              have z1 := p3.c1
              have z2 := p3.c2
              have z3 := p3.c3
              have f0 := p3.frozen 0
              have f1 := p3.frozen 1
              have f2 := p3.frozen 2
              have f3 := p3.frozen 3
              clear hF hD p3 p5
              refine want_none rfl ?_
              go_simp
              exact hK [.bool x.p.neg, .slice x.p.A x.p.n x.p.c, .bool x.l.neg, .slice x.l.A x.l.n x.l.c] rfl (by simp [Word]) ⟨x, rfl, hx⟩
          intro v13 gs hC hgl hbf
          obtain ⟨gn3, rfl⟩ := list_1 hgl
          obtain ⟨⟨hg0, us0, hOb0, ⟨x3, rfl, hx3⟩⟩, _⟩ := hbf
          rintro _ rfl _ rfl _ rfl _ rfl _ rfl _ rfl _ rfl _ rfl _ ⟨y105, rfl, _⟩ _ ⟨y96, rfl, _⟩ _ ⟨y106, rfl, _⟩ _ rfl _ rfl _ _ _ rfl
          simp only [FinOK, Act.put, List.setIfInBounds_toArray, List.set_cons_zero, List.set_cons_succ]
          replace hu := hu.on hC
          replace hU := hU.on hC
          replace hv := hv.on hC
          replace hV := hV.on hC
          replace hp1 := hp1.on hC
          replace hq1 := hq1.on hC
          replace hz1 := hz1.on hC
          replace hZ1 := hZ1.on hC
          replace hx1 := hx1.on hC
          replace hXo1 := hXo1.on hC
          replace hz2 := hz2.on hC
          replace hZ2 := hZ2.on hC
          replace hx2 := hx2.on hC
          replace hXo2 := hXo2.on hC
          replace hz3 := hz3.on hC
          replace hZ3 := hZ3.on hC
          replace b2 := Below.call b2 hC
          have hXo3 := hOb0
          clear hOb0
          clear hC
          clear hp hq rp rq
          obtain ⟨c0_0, c0_1, c0_2, c0_3, _⟩ := hU.all4
          obtain ⟨c1_0, c1_1, c1_2, c1_3, _⟩ := hV.all4
          go_wp2_with fail
          refine (HD4.out _ hu hv).mono ?_
          rintro e v14 ⟨z4, rfl, k1_, hz4⟩
          clear c0_0 c0_1 c0_2 c0_3 c1_0 c1_1 c1_2 c1_3
          go_upto_region 19 with fail
          refine wp_new1 fun v15 hZ4 k2_ => ?_
          have kk_ := Below.call k1_ k2_
          replace hu := hu.on kk_
          replace hU := hU.on kk_
          replace hv := hv.on kk_
          replace hV := hV.on kk_
          replace hp1 := hp1.on kk_
          replace hq1 := hq1.on kk_
          replace hz1 := hz1.on kk_
          replace hZ1 := hZ1.on kk_
          replace hx1 := hx1.on kk_
          replace hXo1 := hXo1.on kk_
          replace hz2 := hz2.on kk_
          replace hZ2 := hZ2.on kk_
          replace hx2 := hx2.on kk_
          replace hXo2 := hXo2.on kk_
          replace hz3 := hz3.on kk_
          replace hZ3 := hZ3.on kk_
          replace hx3 := hx3.on kk_
          replace hXo3 := hXo3.on kk_
          replace hz4 := hz4.on k2_
          replace b2 := Below.call b2 kk_
          clear k1_ k2_ kk_
          have hp := hp1.nr
          have hq := hq1.nr
          have rp := hp1.all
          have rq := hq1.all
          refine wp_region_boxes v15 [Spec.eq (.slice (some ⟨y5, 0, none⟩) 4 4), Spec.eq (.int .i64 (i : Int)), Spec.eq (.pointer (some ⟨y5, i * 4, none⟩)), Spec.eq (.agg #[.bool p.p.neg, .slice p.p.A p.p.n p.p.c, .bool p.l.neg, .slice p.l.A p.l.n p.l.c]), Spec.eq (.slice (some ⟨y5, 0, none⟩) 4 4), Spec.eq (.int .i64 (k : Int)), Spec.eq (.pointer (some ⟨y5, k * 4, none⟩)), Spec.eq (.agg #[.bool q.p.neg, .slice q.p.A q.p.n q.p.c, .bool q.l.neg, .slice q.l.A q.l.n q.l.c]), sNRE d.1 d.2, sNRE d.1 d.2, sNR d.1, Spec.eq (.int .i64 d.2), Spec.any, Spec.any, Spec.eq (.int .i64 d.2)]
              [{ A := 12, j := 13, t := 24, T := 89, zs := [.bool false, .slice none 0 0, .bool false, .slice none 0 0], X := fun us w => ∃ x : FV, us = [.bool x.p.neg, .slice x.p.A x.p.n x.p.c, .bool x.l.neg, .slice x.l.A x.l.n x.l.c] ∧ NR x w (d.1), up := fun ⟨x, e, hx⟩ k => ⟨x, e, hx.keeps k⟩ }]
              (by kernel_rfl) (by kernel_rfl) rfl (by kernel_rfl) rfl (Below.drew (Below.refl _ _)) ?_ ?_ ⟨rfl, rfl, trivial⟩ ?_
          ·
            refine RegSteps.cons ?_ ?_
            · intro _ az wz hC hF hD _ K hK
              have q5 : az.tmps[5]? = some (.slice (some ⟨y5, 0, none⟩) 4 4) := hF 5 rfl
              clear hF hD
              refine want_none rfl ?_
              go_simp
              exact hK _ _ hC (Below.refl _ _) rfl
            refine RegSteps.cons ?_ ?_
            · intro _ az wz hC hF hD _ K hK
              have q6 : az.tmps[6]? = some (.int .i64 (i : Int)) := hF 6 rfl
              clear hF hD
              refine want_none rfl ?_
              go_simp
              exact hK _ _ hC (Below.refl _ _) rfl
            refine RegSteps.cons ?_ ?_
            · intro _ az wz hC hF hD _ K hK
              obtain ⟨_, q115, rfl⟩ := dep hD 0 rfl rfl rfl rfl
              obtain ⟨_, q116, rfl⟩ := dep hD 1 rfl rfl rfl rfl
              clear hF hD
              refine want_none rfl ?_
              go_simp
              exact hK _ _ hC (Below.refl _ _) rfl
            refine RegSteps.cons ?_ ?_
            · intro _ az wz hC hF hD _ K hK
              obtain ⟨_, q117, rfl⟩ := dep hD 2 rfl rfl rfl rfl
              obtain ⟨l0, l1, l2, l3⟩ := rp _ hC
              clear hF hD
              refine want_none rfl ?_
              go_simp
              exact hK _ _ hC (Below.refl _ _) rfl
            refine RegSteps.cons ?_ ?_
            · intro _ az wz hC hF hD _ K hK
              have q5 : az.tmps[5]? = some (.slice (some ⟨y5, 0, none⟩) 4 4) := hF 5 rfl
              clear hF hD
              refine want_none rfl ?_
              go_simp
              exact hK _ _ hC (Below.refl _ _) rfl
            refine RegSteps.cons ?_ ?_
            · intro _ az wz hC hF hD _ K hK
              have q7 : az.tmps[7]? = some (.int .i64 (k : Int)) := hF 7 rfl
              clear hF hD
              refine want_none rfl ?_
              go_simp
              exact hK _ _ hC (Below.refl _ _) rfl
            refine RegSteps.cons ?_ ?_
            · intro _ az wz hC hF hD _ K hK
              obtain ⟨_, q119, rfl⟩ := dep hD 4 rfl rfl rfl rfl
              obtain ⟨_, q120, rfl⟩ := dep hD 5 rfl rfl rfl rfl
              clear hF hD
              refine want_none rfl ?_
              go_simp
              exact hK _ _ hC (Below.refl _ _) rfl
            refine RegSteps.cons ?_ ?_
            · intro _ az wz hC hF hD _ K hK
              obtain ⟨_, q121, rfl⟩ := dep hD 6 rfl rfl rfl rfl
              obtain ⟨l0, l1, l2, l3⟩ := rq _ hC
              clear hF hD
              refine want_none rfl ?_
              go_simp
              exact hK _ _ hC (Below.refl _ _) rfl
            refine RegSteps.cons ?_ ?_
            · intro _ az wz hC hF hD _ K hK
              obtain ⟨_, q118, rfl⟩ := dep hD 3 rfl rfl rfl rfl
              obtain ⟨_, q122, rfl⟩ := dep hD 7 rfl rfl rfl rfl
              clear hF hD
              refine want_none rfl ?_
              go_simp
              refine (HDv.out _ (hp.on hC) (hq.on hC)).mono ?_
              rintro e wy ⟨x, rfl, k, hx⟩
              exact hK _ _ (Below.call hC k) k ⟨x, rfl, hx⟩
            refine RegSteps.cons ?_ ?_
            · intro _ az wz hC hF hD _ K hK
              obtain ⟨_, q123, x123, rfl, hx123⟩ := dep hD 8 rfl rfl rfl rfl
              clear hF hD
              refine want_none rfl ?_
              go_simp
              exact hK _ _ hC (Below.refl _ _) ⟨x123, rfl, hx123⟩
            refine RegSteps.cons ?_ ?_
            · intro _ az wz hC hF hD _ K hK
              obtain ⟨_, q114, x114, rfl, hx114⟩ := dep hD 9 rfl rfl rfl rfl
              clear hF hD
              refine want_none rfl ?_
              go_simp
              exact hK _ _ hC (Below.refl _ _) ⟨x114, rfl, hx114⟩
            refine RegSteps.cons ?_ ?_
            · intro _ az wz hC hF hD _ K hK
              obtain ⟨_, q114, x114, rfl, hx114⟩ := dep hD 9 rfl rfl rfl rfl
              clear hF hD
              refine want_none rfl ?_
              go_simp
              exact hK _ _ hC (Below.refl _ _) rfl
            refine RegSteps.cons ?_ ?_
            · exact fun h => by cases h
            refine RegSteps.cons ?_ ?_
            · exact fun h => by cases h
            refine RegSteps.cons ?_ ?_
            · intro _ az wz hC hF hD _ K hK
              obtain ⟨_, q125, rfl⟩ := dep hD 11 rfl rfl rfl rfl
              clear hF hD
              refine want_none rfl ?_
              go_simp
              exact hK _ _ hC (Below.refl _ _) rfl
            exact RegSteps.nil
          · refine ⟨?_, trivial⟩
            · refine ⟨⟨_, rfl, rfl, rfl, fun az wz K hK => by go_simp; exact hK⟩, ⟨_, rfl, rfl, rfl, ?_⟩, by simp [Word], by simp⟩
              intro az wz gz cs hC hF hD hA K hK
              obtain ⟨p1, p2, p3, p4, p5⟩ := hA
              obtain ⟨_, q124, x, rfl, hx⟩ := dep hD 10 rfl rfl rfl rfl
              obtain ⟨c0, c1, c2, c3, rfl⟩ := list_4 (l := cs) p4
              have z0 := p3.c0
              have z1 := p3.c1
              have z2 := p3.c2
              have z3 := p3.c3
              have f0 := p3.frozen 0
              have f1 := p3.frozen 1
              have f2 := p3.frozen 2
              have f3 := p3.frozen 3
              clear hF hD p3 p5
              refine want_none rfl ?_
              go_simp
              exact hK [.bool x.p.neg, .slice x.p.A x.p.n x.p.c, .bool x.l.neg, .slice x.l.A x.l.n x.l.c] rfl (by simp [Word]) ⟨x, rfl, hx⟩
          intro v16 gs hC hgl hbf
          obtain ⟨gn4, rfl⟩ := list_1 hgl
          obtain ⟨⟨hg0, us0, hOb0, ⟨x4, rfl, hx4⟩⟩, _⟩ := hbf
          rintro _ rfl _ rfl _ rfl _ rfl _ rfl _ rfl _ rfl _ rfl _ ⟨y123, rfl, _⟩ _ ⟨y114, rfl, _⟩ _ ⟨y124, rfl, _⟩ _ rfl _ rfl _ _ _ rfl
          simp only [FinOK, Act.put, List.setIfInBounds_toArray, List.set_cons_zero, List.set_cons_succ]
          replace hu := hu.on hC
          replace hU := hU.on hC
          replace hv := hv.on hC
          replace hV := hV.on hC
          replace hp1 := hp1.on hC
          replace hq1 := hq1.on hC
          replace hz1 := hz1.on hC
          replace hZ1 := hZ1.on hC
          replace hx1 := hx1.on hC
          replace hXo1 := hXo1.on hC
          replace hz2 := hz2.on hC
          replace hZ2 := hZ2.on hC
          replace hx2 := hx2.on hC
          replace hXo2 := hXo2.on hC
          replace hz3 := hz3.on hC
          replace hZ3 := hZ3.on hC
          replace hx3 := hx3.on hC
          replace hXo3 := hXo3.on hC
          replace hz4 := hz4.on hC
          replace hZ4 := hZ4.on hC
          replace b2 := Below.call b2 hC
          have hXo4 := hOb0
          clear hOb0
          clear hC
          clear hp hq rp rq
          replace hTr := hTr.on b2
          clear hu hU hv hV hp1 hq1
          clear HD1 HD2 HD3 HD4 HDv
          obtain ⟨c0_0, c0_1, c0_2, c0_3, _⟩ := hZ1.all4
          obtain ⟨c1_0, c1_1, c1_2, c1_3, _⟩ := hXo1.all4
          go_wp2_with fail
          refine (same_any hz1 hx1 hTr).mono ?_
          rintro e v17 ⟨rfl, k1_⟩
          clear c0_0 c0_1 c0_2 c0_3 c1_0 c1_1 c1_2 c1_3
          replace hz1 := hz1.on k1_
          replace hZ1 := hZ1.on k1_
          replace hx1 := hx1.on k1_
          replace hXo1 := hXo1.on k1_
          replace hz2 := hz2.on k1_
          replace hZ2 := hZ2.on k1_
          replace hx2 := hx2.on k1_
          replace hXo2 := hXo2.on k1_
          replace hz3 := hz3.on k1_
          replace hZ3 := hZ3.on k1_
          replace hx3 := hx3.on k1_
          replace hXo3 := hXo3.on k1_
          replace hz4 := hz4.on k1_
          replace hZ4 := hZ4.on k1_
          replace hx4 := hx4.on k1_
          replace hXo4 := hXo4.on k1_
          replace hTr := hTr.on k1_
          replace b2 := Below.call b2 k1_
          clear k1_
          obtain ⟨c0_0, c0_1, c0_2, c0_3, _⟩ := hZ2.all4
          obtain ⟨c1_0, c1_1, c1_2, c1_3, _⟩ := hXo2.all4
          go_wp2_with fail
          refine (same_any hz2 hx2 hTr).mono ?_
          rintro e v18 ⟨rfl, k1_⟩
          clear c0_0 c0_1 c0_2 c0_3 c1_0 c1_1 c1_2 c1_3
          replace hz1 := hz1.on k1_
          replace hZ1 := hZ1.on k1_
          replace hx1 := hx1.on k1_
          replace hXo1 := hXo1.on k1_
          replace hz2 := hz2.on k1_
          replace hZ2 := hZ2.on k1_
          replace hx2 := hx2.on k1_
          replace hXo2 := hXo2.on k1_
          replace hz3 := hz3.on k1_
          replace hZ3 := hZ3.on k1_
          replace hx3 := hx3.on k1_
          replace hXo3 := hXo3.on k1_
          replace hz4 := hz4.on k1_
          replace hZ4 := hZ4.on k1_
          replace hx4 := hx4.on k1_
          replace hXo4 := hXo4.on k1_
          replace hTr := hTr.on k1_
          replace b2 := Below.call b2 k1_
          clear k1_
          obtain ⟨c0_0, c0_1, c0_2, c0_3, _⟩ := hZ3.all4
          obtain ⟨c1_0, c1_1, c1_2, c1_3, _⟩ := hXo3.all4
          go_wp2_with fail
          refine (same_any hz3 hx3 hTr).mono ?_
          rintro e v19 ⟨rfl, k1_⟩
          clear c0_0 c0_1 c0_2 c0_3 c1_0 c1_1 c1_2 c1_3
          replace hz1 := hz1.on k1_
          replace hZ1 := hZ1.on k1_
          replace hx1 := hx1.on k1_
          replace hXo1 := hXo1.on k1_
          replace hz2 := hz2.on k1_
          replace hZ2 := hZ2.on k1_
          replace hx2 := hx2.on k1_
          replace hXo2 := hXo2.on k1_
          replace hz3 := hz3.on k1_
          replace hZ3 := hZ3.on k1_
          replace hx3 := hx3.on k1_
          replace hXo3 := hXo3.on k1_
          replace hz4 := hz4.on k1_
          replace hZ4 := hZ4.on k1_
          replace hx4 := hx4.on k1_
          replace hXo4 := hXo4.on k1_
          replace hTr := hTr.on k1_
          replace b2 := Below.call b2 k1_
          clear k1_
          obtain ⟨c0_0, c0_1, c0_2, c0_3, _⟩ := hZ4.all4
          obtain ⟨c1_0, c1_1, c1_2, c1_3, _⟩ := hXo4.all4
          go_wp2_with fail
          refine (same_any hz4 hx4 hTr).mono ?_
          rintro e v20 ⟨rfl, k1_⟩
          clear c0_0 c0_1 c0_2 c0_3 c1_0 c1_1 c1_2 c1_3
          replace hz1 := hz1.on k1_
          replace hZ1 := hZ1.on k1_
          replace hx1 := hx1.on k1_
          replace hXo1 := hXo1.on k1_
          replace hz2 := hz2.on k1_
          replace hZ2 := hZ2.on k1_
          replace hx2 := hx2.on k1_
          replace hXo2 := hXo2.on k1_
          replace hz3 := hz3.on k1_
          replace hZ3 := hZ3.on k1_
          replace hx3 := hx3.on k1_
          replace hXo3 := hXo3.on k1_
          replace hz4 := hz4.on k1_
          replace hZ4 := hZ4.on k1_
          replace hx4 := hx4.on k1_
          replace hXo4 := hXo4.on k1_
          replace hTr := hTr.on k1_
          replace b2 := Below.call b2 k1_
          clear k1_
          have hbr := Below.call HbW.out b2
          go_wp2_with fail
          go_roundw
          case rel => exact ⟨k + 1, by omega, by go_num, hbr⟩
          case measure => simp [intOf]; omega
        · subst heq2
          go_wp2_with fail
          go_roundw
          case rel => exact ⟨i + 1, by omega, by go_num, hbr⟩
          case measure => simp [intOf]; omega
    · subst heq
      have b2 := Below.call b1 hbr
      have ht := hTab.on hbr
      go_wp2_with fail
      refine (lives4_any _ ht).mono ?_
      rintro e w8 ⟨rfl, k1⟩
      have HB := Lib.hid (Below.call b2 k1)
      go_wp2
      go_returns
      exact ⟨rfl, HB.out⟩
end Go.Proofs.YthafhbogpfggjaaGreatDoor
