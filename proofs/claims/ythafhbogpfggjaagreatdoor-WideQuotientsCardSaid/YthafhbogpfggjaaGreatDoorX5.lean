/-
  The law WideQuotients: the walk.
-/
import Derived.Test.YthafhbogpfggjaaGreatDoorX9
namespace Go.Proofs.YthafhbogpfggjaaGreatDoor
open Go.RowKit Mag

theorem NI.len0 {x : IV} {w : World} {z : Int} (h : NI x w z) : (x.n = 0 ↔ z = 0) := by
  have h1 := (h.nd rfl).len_pos
  simp only at h1
  omega
theorem Sl.keeps64 {w w' : World} {A : Option Addr} {l : List Nat} (h : Sl w w.heap.size A (l.map d64)) (hk : Keeps w w') : Sl w' w'.heap.size A (l.map d64) := fun hn => by
  obtain ⟨g, off, e, hg, hc⟩ := h hn
  refine ⟨g, off, e, Nat.lt_of_lt_of_le hg hk.size, fun i x hx => hk.cell _ _ (hc i x hx) ?_⟩
  obtain ⟨y, _, rfl⟩ := List.mem_map.1 (List.mem_of_getElem? hx)
  exact ⟨(y : Int), .inr (.inr rfl)⟩
theorem NI.keeps {x : IV} {w w' : World} {z : Int} (h : NI x w z) (hk : Keeps w w') : NI x w' z := by
  obtain ⟨l, h1, h2, h3, h4⟩ := h
  exact ⟨l, h1, h2, ⟨h3.sl.keeps64 hk, h3.ws, h3.cap, h3.mx⟩, h4⟩
def sNK (z : Int) : Spec Keeps := ⟨fun v w => ∃ x : IV, v = .agg #[.bool x.neg, .slice x.A x.n x.c] ∧ NI x w z, fun ⟨x, e, h⟩ k => ⟨x, e, h.keeps k⟩⟩
def sNNK (a b : Int) : Spec Keeps := ⟨fun v w => ∃ x : IV × IV, v = .tuple #[.agg #[.bool x.1.neg, .slice x.1.A x.1.n x.1.c], .agg #[.bool x.2.neg, .slice x.2.A x.2.n x.2.c]] ∧ NI x.1 w a ∧ NI x.2 w b, fun ⟨x, e, h1, h2⟩ k => ⟨x, e, h1.keeps k, h2.keeps k⟩⟩
set_option maxRecDepth 100000 in
set_option maxHeartbeats 6400000 in
theorem WideQuotients_any {w : World} {A : Option Addr} {l : List Int} {c : Nat} (h : IntsIs w A l c) (n : Int) (hn : in64 n) (ht0 : Tab w) : Calls Tryz.prog 7 #[.slice A l.length c, .int .i64 n] w (RetBool w true) := by
  go_enter Tryz.func7, Tryz.ntmps7
  go_wp2_with fail
  refine (Number_sm h 0 (by omega) 0 rfl).mono ?_
  rintro e w1 ⟨a, ba, x, rfl, k1, hx⟩
  go_upto_region 2 with fail
  refine wp_new1 fun w2 hX k2 => ?_
  have b1 := Below.call k1 k2
  replace hx := hx.on k2
  clear k1 k2
  go_wp2_with fail
  refine (Number_sm (h.on b1) 6 (by omega) 6 rfl).mono ?_
  rintro e w3 ⟨b, bb, y, rfl, k3, hy⟩
  go_upto_region 3 with fail
  refine wp_new1 fun w4 hY k4 => ?_
  have b2 := Below.call k3 k4
  replace hx := hx.on b2
  replace hX := hX.on b2
  replace hy := hy.on k4
  replace b1 := Below.call b1 b2
  clear k3 k4 b2 h
  have hnx := ba.len hx
  have hny := bb.len hy
  have b25 := ba.mul bb
  have b27 := Sm.small hn
  have b28 : Sm 60 (a * b + n) := (b25.add (b27.mono (by omega))).mono (by omega)
  have b31 := bb.mul bb
  have b33 : Sm 60 (b * b * a) := (b31.mul ba).mono (by omega)
  refine wp_region_specs w4 [Spec.eq (.agg #[.bool x.neg, .slice x.A x.n x.c]), Spec.eq (.agg #[.bool x.neg, .slice x.A x.n x.c]), Spec.eq (.agg #[.bool y.neg, .slice y.A y.n y.c]), sN (a * b), Spec.eq (.int .i64 n), sN n, sNS 60, Spec.eq (.agg #[.bool y.neg, .slice y.A y.n y.c]), Spec.eq (.agg #[.bool y.neg, .slice y.A y.n y.c]), sN (b * b), Spec.eq (.agg #[.bool x.neg, .slice x.A x.n x.c]), sNS 60, sNL 3 60, sNL 3 60]
      (by kernel_rfl) (by kernel_rfl) rfl (by kernel_rfl) (Below.drew (Below.refl _ _)) ?_ ?_
  ·
    refine RegSteps.cons ?_ ?_
    · intro _ az wz hC hF hD _ K hK
      have q5 : az.tmps[5]? = some (.pointer (some ⟨w1.heap.size, 0, none⟩)) := hF 5 rfl
      obtain ⟨l0, l1, _⟩ := (hX.on hC).all2
      clear hF hD
      refine want_none rfl ?_
      go_simp
      exact hK _ _ hC (Below.refl _ _) rfl
    refine RegSteps.cons ?_ ?_
    · intro _ az wz hC hF hD _ K hK
      have q5 : az.tmps[5]? = some (.pointer (some ⟨w1.heap.size, 0, none⟩)) := hF 5 rfl
      obtain ⟨l0, l1, _⟩ := (hX.on hC).all2
      clear hF hD
      refine want_none rfl ?_
      go_simp
      exact hK _ _ hC (Below.refl _ _) rfl
    refine RegSteps.cons ?_ ?_
    · intro _ az wz hC hF hD _ K hK
      have q6 : az.tmps[6]? = some (.pointer (some ⟨w3.heap.size, 0, none⟩)) := hF 6 rfl
      obtain ⟨l0, l1, _⟩ := (hY.on hC).all2
      clear hF hD
      refine want_none rfl ?_
      go_simp
      exact hK _ _ hC (Below.refl _ _) rfl
    refine RegSteps.cons ?_ ?_
    · intro _ az wz hC hF hD _ K hK
      obtain ⟨_, q23, rfl⟩ := dep hD 1 rfl rfl rfl rfl
      obtain ⟨_, q24, rfl⟩ := dep hD 2 rfl rfl rfl rfl
      clear hF hD
      refine want_none rfl ?_
      go_simp
      refine (rMul_any (hx.on hC) (hy.on hC) (by unfold many; omega)).mono ?_
      rintro e wy ⟨x, rfl, k, hx⟩
      exact hK _ _ (Below.call hC k) k ⟨x, rfl, hx⟩
    refine RegSteps.cons ?_ ?_
    · intro _ az wz hC hF hD _ K hK
      have q1 : az.tmps[1]? = some (.int .i64 n) := hF 1 rfl
      clear hF hD
      refine want_none rfl ?_
      go_simp
      exact hK _ _ hC (Below.refl _ _) rfl
    refine RegSteps.cons ?_ ?_
    · intro _ az wz hC hF hD _ K hK
      obtain ⟨_, q26, rfl⟩ := dep hD 4 rfl rfl rfl rfl
      clear hF hD
      refine want_none rfl ?_
      go_simp
      refine (rOf_any n _ hn.1 hn.2).mono ?_
      rintro e wy ⟨x, rfl, k, hx⟩
      exact hK _ _ (Below.call hC k) k ⟨x, rfl, hx⟩
    refine RegSteps.cons ?_ ?_
    · intro _ az wz hC hF hD _ K hK
      obtain ⟨_, q25, x25, rfl, hx25⟩ := dep hD 3 rfl rfl rfl rfl
      obtain ⟨_, q27, x27, rfl, hx27⟩ := dep hD 5 rfl rfl rfl rfl
      clear hF hD
      refine want_none rfl ?_
      go_simp
      refine (rAdd_any hx25 hx27 (by have := b25.len hx25; unfold many; omega) (by have := b27.len hx27; unfold many; omega)).mono ?_
      rintro e wy ⟨x, rfl, k, hx⟩
      exact hK _ _ (Below.call hC k) k ⟨x, rfl, _, b28, hx⟩
    refine RegSteps.cons ?_ ?_
    · intro _ az wz hC hF hD _ K hK
      have q6 : az.tmps[6]? = some (.pointer (some ⟨w3.heap.size, 0, none⟩)) := hF 6 rfl
      obtain ⟨l0, l1, _⟩ := (hY.on hC).all2
      clear hF hD
      refine want_none rfl ?_
      go_simp
      exact hK _ _ hC (Below.refl _ _) rfl
    refine RegSteps.cons ?_ ?_
    · intro _ az wz hC hF hD _ K hK
      have q6 : az.tmps[6]? = some (.pointer (some ⟨w3.heap.size, 0, none⟩)) := hF 6 rfl
      obtain ⟨l0, l1, _⟩ := (hY.on hC).all2
      clear hF hD
      refine want_none rfl ?_
      go_simp
      exact hK _ _ hC (Below.refl _ _) rfl
    refine RegSteps.cons ?_ ?_
    · intro _ az wz hC hF hD _ K hK
      obtain ⟨_, q29, rfl⟩ := dep hD 7 rfl rfl rfl rfl
      obtain ⟨_, q30, rfl⟩ := dep hD 8 rfl rfl rfl rfl
      clear hF hD
      refine want_none rfl ?_
      go_simp
      refine (rMul_any (hy.on hC) (hy.on hC) (by unfold many; omega)).mono ?_
      rintro e wy ⟨x, rfl, k, hx⟩
      exact hK _ _ (Below.call hC k) k ⟨x, rfl, hx⟩
    refine RegSteps.cons ?_ ?_
    · intro _ az wz hC hF hD _ K hK
      have q5 : az.tmps[5]? = some (.pointer (some ⟨w1.heap.size, 0, none⟩)) := hF 5 rfl
      obtain ⟨l0, l1, _⟩ := (hX.on hC).all2
      clear hF hD
      refine want_none rfl ?_
      go_simp
      exact hK _ _ hC (Below.refl _ _) rfl
    refine RegSteps.cons ?_ ?_
    · intro _ az wz hC hF hD _ K hK
      obtain ⟨_, q31, x31, rfl, hx31⟩ := dep hD 9 rfl rfl rfl rfl
      obtain ⟨_, q32, rfl⟩ := dep hD 10 rfl rfl rfl rfl
      clear hF hD
      refine want_none rfl ?_
      go_simp
      refine (rMul_any hx31 (hx.on hC) (by have := b31.len hx31; unfold many; omega)).mono ?_
      rintro e wy ⟨x, rfl, k, hx⟩
      exact hK _ _ (Below.call hC k) k ⟨x, rfl, _, b33, hx⟩
    refine RegSteps.cons ?_ ?_
    · intro _ az wz hC hF hD _ K hK
      obtain ⟨_, q22, rfl⟩ := dep hD 0 rfl rfl rfl rfl
      obtain ⟨_, q28, x28, rfl, hx28⟩ := dep hD 6 rfl rfl rfl rfl
      obtain ⟨_, q33, x33, rfl, hx33⟩ := dep hD 11 rfl rfl rfl rfl
      clear hF hD
      refine want_none rfl ?_
      go_simp
      exact hK _ _ (Below.alloc hC hC.size _) (below_new _ _) ⟨_, rfl, NList.mk3 ⟨a, ba.mono (by omega), hx.on hC⟩ hx28 hx33⟩
    refine RegSteps.cons ?_ ?_
    · intro _ az wz hC hF hD _ K hK
      obtain ⟨_, q34, x34, rfl, hx34⟩ := dep hD 12 rfl rfl rfl rfl
      clear hF hD
      refine want_none rfl ?_
      go_simp
      exact hK _ _ hC (Below.refl _ _) ⟨x34, rfl, hx34⟩
    exact RegSteps.nil
  intro w5 hC5
  rintro _ rfl _ rfl _ rfl _ ⟨y25, rfl, _⟩ _ rfl _ ⟨y27, rfl, _⟩ _ ⟨y28, rfl, _⟩ _ rfl _ rfl _ ⟨y31, rfl, _⟩ _ rfl _ ⟨y33, rfl, _⟩ _ ⟨y34, rfl, _⟩ _ ⟨y7, rfl, hy7⟩
  simp only [FinOK, Act.put, List.setIfInBounds_toArray, List.set_cons_zero, List.set_cons_succ]
  replace hx := hx.on hC5
  replace hX := hX.on hC5
  replace hy := hy.on hC5
  replace hY := hY.on hC5
  replace b1 := Below.call b1 hC5
  clear hC5 b25 b27 b28 b31 b33
  obtain ⟨y0, y1⟩ := hY.rules2
  have hW := Below.refl w5.heap.size w5
  go_wp2_with fail
  refine (wider_any hy (bb.top (by omega))).mono ?_
  rintro e w6 ⟨p, rfl, k_, hp⟩
  clear hW y0 y1
  go_upto_region 5 with fail
  refine wp_new1 fun w7 hP k2_ => ?_
  have kk_ := Below.call k_ k2_
  replace hX := hX.on kk_
  replace hx := hx.on kk_
  replace hY := hY.on kk_
  replace hy := hy.on kk_
  replace hy7 := hy7.on kk_
  replace hp := hp.on k2_
  replace b1 := Below.call b1 kk_
  clear k_ k2_ kk_
  go_wp2_with fail
  go_loopw [10] (fun s wr => ∃ i : Nat, i ≤ 3 ∧ s = .int .i64 (i : Int) ∧ Below w7.heap.size w7 wr) (fun s _ => 3 - (intOf s).toNat)
  case atStart => exact ⟨0, by omega, rfl, Below.refl _ _⟩
  case round =>
    obtain ⟨i, hi, rfl, hbr⟩ := hrel
    replace hx := hx.on hbr
    replace hX := hX.on hbr
    replace hy := hy.on hbr
    replace hY := hY.on hbr
    replace hp := hp.on hbr
    replace hP := hP.on hbr
    replace hy7 := hy7.on hbr
    rcases Nat.lt_or_eq_of_le hi with h3 | h3
    · obtain ⟨v, z, hN⟩ := hy7 i h3
      obtain ⟨n0, n1⟩ := hN.rules
      have hW := Below.refl wr.heap.size wr
      have i0 : (0 : Int) ≤ (i : Int) := by omega
      have i3 : (i : Int) < 3 := by omega
      go_wp2_with fail
      refine (wider_any hN.ni (hN.sm.top (by omega))).mono ?_
      rintro e w8 ⟨q, rfl, k1, hq⟩
      clear n0 n1 hW
      go_upto_region 9 with fail
      refine wp_new1 fun w9 hQ k2 => ?_
      have kk := Below.call k1 k2
      replace hq := hq.on k2
      replace hx := hx.on kk
      replace hX := hX.on kk
      replace hy := hy.on kk
      replace hY := hY.on kk
      replace hp := hp.on kk
      replace hP := hP.on kk
      replace hN := hN.on kk
      replace hbr := Below.call hbr kk
      clear k1 k2 kk hy7
      have hl0 := hy.len0
      by_cases hb0 : b = 0
      · have hyn : y.n = 0 := hl0.2 hb0
        obtain ⟨p0, p1⟩ := hP.rules2
        obtain ⟨q0, q1⟩ := hQ.rules2
        obtain ⟨y0, y1⟩ := hY.rules2
        have hb0n := hyn
        have hW := Below.refl w9.heap.size w9
        have hp' := hp
        rw [hb0] at hp'
        have HYN := Lib.hid hyn
        clear hyn hl0 hb0n y0 y1
        go_wp2_with fail
        refine (div_zero_iv (x := q) hp').mono ?_
        rintro e w10 ⟨s, r, rfl, k1, hs, hr⟩
        clear p0 p1 q0 q1 hW
        go_upto_region 10 with fail
        refine wp_new2 fun w11 hS hR k2 => ?_
        have kk := Below.call k1 k2
        replace hs := hs.on k2
        replace hr := hr.on k2
        have ht := ht0.on (Below.call b1 (Below.call hbr kk))
        replace hbr := Below.call hbr kk
        replace hY := hY.on kk
        clear k1 k2 kk hN hx hX hy
        obtain ⟨s0, s1⟩ := hS.rules2
        obtain ⟨r0, r1⟩ := hR.rules2
        obtain ⟨y0, y1⟩ := hY.rules2
        rw [HYN.out] at y1
        have hW := Below.refl w11.heap.size w11
        go_wp2_with fail
        refine (equal_same (y := nZero) hs (NI.zero _) ht).mono ?_
        rintro e w13 ⟨rfl, k1⟩
        go_wp2_with fail
        refine (equal_same (y := nZero) (hr.on k1) (NI.zero _) (ht.on k1)).mono ?_
        rintro e w14 ⟨rfl, k2⟩
        have hb9 := Below.call (Below.call hbr k1) k2
        go_wp2_with fail
        go_roundw
        case rel => exact ⟨i + 1, by omega, by go_num, hb9⟩
        case measure => simp [intOf]; omega
      · have hyn : y.n ≠ 0 := fun e => hb0 (hl0.1 e)
        clear hl0
        obtain ⟨p0, p1⟩ := hP.rules2
        obtain ⟨q0, q1⟩ := hQ.rules2
        obtain ⟨y0, y1⟩ := hY.rules2
        have hW := Below.refl w9.heap.size w9
        have hyz : ((y.n : Int) == 0) = false := by rw [beq_eq_false_iff_ne]; omega
        go_wp2_with fail
        refine (div_iv hq hp hb0).mono ?_
        rintro e w10 ⟨s, r, rfl, k1, hs, hr⟩
        clear p0 p1 q0 q1 hW
        go_upto_region 10 with fail
        refine wp_new2 fun w11 hS hR k2 => ?_
        have kk := Below.call k1 k2
        replace hs := hs.on k2
        replace hr := hr.on k2
        replace hx := hx.on kk
        replace hX := hX.on kk
        replace hy := hy.on kk
        replace hY := hY.on kk
        replace hN := hN.on kk
        replace hbr := Below.call hbr kk
        clear k1 k2 kk y0 y1
        obtain ⟨y0, y1, _, _⟩ := hY.all2
        go_upto_region 15 with fail
        refine wp_region_boxes w11 [Spec.eq (.slice (some ⟨y7, 0, none⟩) 3 3), Spec.eq (.int .i64 (i : Int)), Spec.eq (.pointer (some ⟨y7, i * 2, none⟩)), Spec.eq (.agg #[.bool v.neg, .slice v.A v.n v.c]), Spec.eq (.agg #[.bool y.neg, .slice y.A y.n y.c]), sNNK (z / b) (z % b), sNNK (z / b) (z % b), sNK (z / b), sNK (z % b), Spec.any, Spec.any, Spec.any, Spec.any]
            [{ A := 9, j := 11, t := 16, T := 44, zs := [.bool false, .slice none 0 0], X := fun us w => ∃ x : IV, us = [.bool x.neg, .slice x.A x.n x.c] ∧ NI x w (z / b), up := fun ⟨x, e, hx⟩ k => ⟨x, e, hx.keeps k⟩ }, { A := 10, j := 12, t := 17, T := 44, zs := [.bool false, .slice none 0 0], X := fun us w => ∃ x : IV, us = [.bool x.neg, .slice x.A x.n x.c] ∧ NI x w (z % b), up := fun ⟨x, e, hx⟩ k => ⟨x, e, hx.keeps k⟩ }]
            (by kernel_rfl) (by kernel_rfl) rfl (by kernel_rfl) rfl (Below.drew (Below.refl _ _)) ?_ ?_ ⟨rfl, rfl, rfl, rfl, trivial⟩ ?_
        ·
          refine RegSteps.cons ?_ ?_
          · intro _ az wz hC hF hD _ K hK
            have q7 : az.tmps[7]? = some (.slice (some ⟨y7, 0, none⟩) 3 3) := hF 7 rfl
            clear hF hD
            refine want_none rfl ?_
            go_simp
            exact hK _ _ hC (Below.refl _ _) rfl
          refine RegSteps.cons ?_ ?_
          · intro _ az wz hC hF hD _ K hK
            have q10 : az.tmps[10]? = some (.int .i64 (i : Int)) := hF 10 rfl
            clear hF hD
            refine want_none rfl ?_
            go_simp
            exact hK _ _ hC (Below.refl _ _) rfl
          refine RegSteps.cons ?_ ?_
          · intro _ az wz hC hF hD _ K hK
            obtain ⟨_, q84, rfl⟩ := dep hD 0 rfl rfl rfl rfl
            obtain ⟨_, q85, rfl⟩ := dep hD 1 rfl rfl rfl rfl
            clear hF hD
            refine want_none rfl ?_
            go_simp
            exact hK _ _ hC (Below.refl _ _) rfl
          refine RegSteps.cons ?_ ?_
          · intro _ az wz hC hF hD _ K hK
            obtain ⟨_, q86, rfl⟩ := dep hD 2 rfl rfl rfl rfl
            have l0 := (hN.on hC).c0
            have l1 := (hN.on hC).c1
            clear hF hD
            refine want_none rfl ?_
            go_simp
            exact hK _ _ hC (Below.refl _ _) rfl
          refine RegSteps.cons ?_ ?_
          · intro _ az wz hC hF hD _ K hK
            have q6 : az.tmps[6]? = some (.pointer (some ⟨w3.heap.size, 0, none⟩)) := hF 6 rfl
            obtain ⟨l0, l1, _⟩ := (hY.on hC).all2
            clear hF hD
            refine want_none rfl ?_
            go_simp
            exact hK _ _ hC (Below.refl _ _) rfl
          refine RegSteps.cons ?_ ?_
          · intro _ az wz hC hF hD _ K hK
            obtain ⟨_, q87, rfl⟩ := dep hD 3 rfl rfl rfl rfl
            obtain ⟨_, q88, rfl⟩ := dep hD 4 rfl rfl rfl rfl
            clear hF hD
            refine want_none rfl ?_
            go_simp
            refine (rDiv_any (hN.on hC).ni (hy.on hC) hb0 (by have := (hN.on hC).sm.len (hN.on hC).ni; unfold many; omega) (by unfold many; omega)).mono ?_
            rintro e wy ⟨x1, x2, rfl, k, hx⟩
            exact hK _ _ (Below.call hC k) k ⟨(x1, x2), rfl, hx⟩
          refine RegSteps.cons ?_ ?_
          · intro _ az wz hC hF hD _ K hK
            obtain ⟨_, q89, x89, rfl, hx89⟩ := dep hD 5 rfl rfl rfl rfl
            clear hF hD
            refine want_none rfl ?_
            go_simp
            exact hK _ _ hC (Below.refl _ _) ⟨x89, rfl, hx89⟩
          refine RegSteps.cons ?_ ?_
          · intro _ az wz hC hF hD _ K hK
            obtain ⟨_, q83, x83, rfl, hx83⟩ := dep hD 6 rfl rfl rfl rfl
            clear hF hD
            refine want_none rfl ?_
            go_simp
            exact hK _ _ hC (Below.refl _ _) ⟨x83.1, rfl, hx83.1⟩
          refine RegSteps.cons ?_ ?_
          · intro _ az wz hC hF hD _ K hK
            obtain ⟨_, q83, x83, rfl, hx83⟩ := dep hD 6 rfl rfl rfl rfl
            clear hF hD
            refine want_none rfl ?_
            go_simp
            exact hK _ _ hC (Below.refl _ _) ⟨x83.2, rfl, hx83.2⟩
          refine RegSteps.cons ?_ ?_
          · exact fun h => by cases h
          refine RegSteps.cons ?_ ?_
          · exact fun h => by cases h
          refine RegSteps.cons ?_ ?_
          · exact fun h => by cases h
          refine RegSteps.cons ?_ ?_
          · exact fun h => by cases h
          exact RegSteps.nil
        · refine ⟨?_, ?_, trivial⟩
          · refine ⟨⟨_, rfl, rfl, rfl, fun az wz K hK => by go_simp; exact hK⟩, ⟨_, rfl, rfl, rfl, ?_⟩, by simp [Word], by simp⟩
            intro az wz gz cs hC hF hD hA K hK
            obtain ⟨p1, p2, p3, p4, p5⟩ := hA
            obtain ⟨_, q90, x, rfl, hx⟩ := dep hD 7 rfl rfl rfl rfl
            obtain ⟨c0, c1, rfl⟩ := list_2 (l := cs) p4
            have z0 := p3.c0
            have z1 := p3.c1
            have f0 := p3.frozen 0
            have f1 := p3.frozen 1
            clear hF hD p3 p5
            refine want_none rfl ?_
            go_simp
            exact hK [.bool x.neg, .slice x.A x.n x.c] rfl (by simp [Word]) ⟨x, rfl, hx⟩
          · refine ⟨⟨_, rfl, rfl, rfl, fun az wz K hK => by go_simp; exact hK⟩, ⟨_, rfl, rfl, rfl, ?_⟩, by simp [Word], by simp⟩
            intro az wz gz cs hC hF hD hA K hK
            obtain ⟨p1, p2, p3, p4, p5⟩ := hA
            obtain ⟨_, q91, x, rfl, hx⟩ := dep hD 8 rfl rfl rfl rfl
            obtain ⟨c0, c1, rfl⟩ := list_2 (l := cs) p4
            have z0 := p3.c0
            have z1 := p3.c1
            have f0 := p3.frozen 0
            have f1 := p3.frozen 1
            clear hF hD p3 p5
            refine want_none rfl ?_
            go_simp
            exact hK [.bool x.neg, .slice x.A x.n x.c] rfl (by simp [Word]) ⟨x, rfl, hx⟩
        intro w12 gs hC12 hgl hbf
        obtain ⟨gq, gr, rfl⟩ := list_2 hgl
        obtain ⟨⟨hg0, us0, hOb0, ⟨x0_, rfl, hx0_⟩⟩, ⟨hg1, us1, hOb1, ⟨x1_, rfl, hx1_⟩⟩, _⟩ := hbf
        rintro _ rfl _ rfl _ rfl _ rfl _ rfl _ ⟨y89, rfl, _⟩ _ ⟨y83, rfl, _⟩ _ ⟨y90, rfl, _⟩ _ ⟨y91, rfl, _⟩ _ rfl _ rfl _ _ _ _
        simp only [FinOK, Act.put, List.setIfInBounds_toArray, List.set_cons_zero, List.set_cons_succ]
        replace hs := hs.on hC12
        replace hr := hr.on hC12
        replace hS := hS.on hC12
        replace hR := hR.on hC12
        have ht := ht0.on (Below.call b1 (Below.call hbr hC12))
        replace hbr := Below.call hbr hC12
        clear y0 y1 hN hx hX hy hY hC12
        obtain ⟨s0, s1⟩ := hS.rules2
        obtain ⟨r0, r1⟩ := hR.rules2
        obtain ⟨a0, a1⟩ := hOb0.rules2
        obtain ⟨c0, c1⟩ := hOb1.rules2
        have hW := Below.refl w12.heap.size w12
        go_wp2_with fail
        refine (equal_same hs hx0_ ht).mono ?_
        rintro e w13 ⟨rfl, k1⟩
        go_wp2_with fail
        refine (equal_same (hr.on k1) (hx1_.on k1) (ht.on k1)).mono ?_
        rintro e w14 ⟨rfl, k2⟩
        have hb9 := Below.call (Below.call hbr k1) k2
        go_wp2_with fail
        go_roundw
        case rel => exact ⟨i + 1, by omega, by go_num, hb9⟩
        case measure => simp [intOf]; omega
    · subst h3
      have hb2 := Below.call b1 hbr
      have ht := ht0.on hb2
      go_wp2_with fail
      refine (lives3_any _ ht).mono ?_
      rintro e w8 ⟨rfl, k1⟩
      go_wp2
      go_returns
      exact ⟨rfl, Below.call hb2 k1⟩
end Go.Proofs.YthafhbogpfggjaaGreatDoor
