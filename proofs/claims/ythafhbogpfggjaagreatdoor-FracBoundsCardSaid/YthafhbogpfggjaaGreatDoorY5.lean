/-
  The law FracBounds: the walk.
-/
import Derived.Test.YthafhbogpfggjaaGreatDoorB7
import Derived.Test.YthafhbogpfggjaaGreatDoorB6
import Derived.Test.YthafhbogpfggjaaGreatDoorB8
import Derived.Test.YthafhbogpfggjaaGreatDoorA4
namespace Go.Proofs.YthafhbogpfggjaaGreatDoor
open Go.RowKit Mag

theorem pow_top (w : World) : Calls Tryz.prog 62 #[.int .i64 16384] w (RetN w (top : Int)) := by
  have := rPower_nat 16384 w (by omega) 16384 rfl
  rwa [← top_2k 16384 (by rw [topW_eq])] at this
theorem pow_8190 (w : World) : Calls Tryz.prog 62 #[.int .i64 8190] w (fun e w' => ∃ z : Int, Sm 640 z ∧ RetN w z e w') := by
  refine (rPower_nat 8190 w (by omega) 8190 rfl).mono fun e w' h => ⟨_, ?_, h⟩
  obtain ⟨j, hj⟩ : ∃ j, j = 639 := ⟨_, rfl⟩
  have h := two_lt (b := 8190) (j := j) (by omega)
  rw [show 640 = j + 1 by omega]
  unfold Sm
  rw [Int.natAbs_natCast]
  exact h
theorem from_w (n : Int) (w : World) (hn : in64 n) : Calls Tryz.prog 37 #[.int .i64 n] w (IntP w n) := from_iv n w hn.1 hn.2
theorem emod_neg_ {n m : Int} (hm : 0 < m) (h : n.tmod m < 0) : n % m = n.tmod m + m := by
  have h1 := Int.emod_nonneg n (show m ≠ 0 by omega)
  have h2 := Int.emod_lt_of_pos n hm
  have h3 := Int.mul_tdiv_add_tmod n m
  have h4 := Int.mul_ediv_add_emod n m
  have h5 := Int.lt_tmod_of_pos n hm
  obtain ⟨k, hk⟩ : ∃ k, k = n.tdiv m - n / m := ⟨_, rfl⟩
  have h6 : m * k = n % m - n.tmod m := by rw [hk, Int.mul_sub]; omega
  have h7 : 0 < k := by
    rcases Int.lt_or_le 0 k with h | h
    · exact h
    · have := Int.mul_nonpos_of_nonneg_of_nonpos (Int.le_of_lt hm) h; omega
  have h8 : k < 2 := by
    rcases Int.lt_or_le k 2 with h | h
    · exact h
    · have := Int.mul_le_mul_of_nonneg_left h (Int.le_of_lt hm); omega
  have h9 : k = 1 := by omega
  rw [h9] at h6
  omega
theorem emod_pos_ {n m : Int} (hm : 0 < m) (h : ¬ n.tmod m < 0) : n % m = n.tmod m := by
  have h1 := Int.emod_nonneg n (show m ≠ 0 by omega)
  have h2 := Int.emod_lt_of_pos n hm
  have h3 := Int.mul_tdiv_add_tmod n m
  have h4 := Int.mul_ediv_add_emod n m
  have h5 := Int.tmod_lt_of_pos n hm
  obtain ⟨k, hk⟩ : ∃ k, k = n.tdiv m - n / m := ⟨_, rfl⟩
  have h6 : m * k = n % m - n.tmod m := by rw [hk, Int.mul_sub]; omega
  have h7 : -1 < k := by
    rcases Int.lt_or_le (-1) k with h | h
    · exact h
    · have := Int.mul_le_mul_of_nonneg_left h (Int.le_of_lt hm); omega
  have h8 : k < 1 := by
    rcases Int.lt_or_le k 1 with h | h
    · exact h
    · have := Int.mul_le_mul_of_nonneg_left h (Int.le_of_lt hm); omega
  have h9 : k = 0 := by omega
  rw [h9] at h6
  omega
theorem around4_any (n m : Int) (w : World) (hn : in64 n) (m0 : 0 < m) (m1 : m ≤ 1000) : Calls Tryz.prog 82 #[.int .i64 n, .int .i64 m] w (RetInt w (n % m)) := by
  have hne : ¬ m = 0 := by omega
  have h2 := Int.tmod_lt_of_pos n m0
  have h3 := Int.lt_tmod_of_pos n m0
  have n0 := hn.1
  have n1 := hn.2
  by_cases h : n.tmod m < 0
  · have HE := Lib.hid (emod_neg_ m0 h)
    obtain ⟨t, ht⟩ : ∃ t, n.tmod m = t := ⟨_, rfl⟩
    have HT := Lib.hid ht
    go_enter Tryz.func82, Tryz.ntmps82
    rw [ht] at h h2 h3
    go_wp2
    go_returns
    exact ⟨by rw [HE.out, HT.out]; rfl, by go_grown⟩
  · have HE := Lib.hid (emod_pos_ m0 h)
    obtain ⟨t, ht⟩ : ∃ t, n.tmod m = t := ⟨_, rfl⟩
    have HT := Lib.hid ht
    go_enter Tryz.func82, Tryz.ntmps82
    rw [ht] at h h2 h3
    go_wp2
    go_returns
    exact ⟨by rw [HE.out, HT.out]; rfl, by go_grown⟩
theorem top_lt_pow (j k : Nat) (hj : j = 4933) (hk : k = 1240) : top < 10000 ^ k := by
  have h1 := top_ten
  rw [← hj] at h1
  refine Nat.lt_of_le_of_lt h1 ?_
  rw [show (10000 : Nat) = 10 ^ 4 from rfl, ← Nat.pow_mul]
  exact Nat.pow_lt_pow_right (by decide) (by omega)
theorem top_len {x : IV} {w : World} (h : NI x w (top : Int)) : x.n ≤ 1240 := NI.len h (by rw [Int.natAbs_natCast]; exact top_lt_pow 4933 1240 rfl rfl)
theorem small_of_top {z : Int} (k : Nat) (hk : k = 1240) (hz : z.natAbs < top) : Sm k z := Nat.lt_trans hz (top_lt_pow 4933 k rfl hk)
theorem mn_len {x : IV} {w : World} {z : Int} (h : NI x w z) (hz : z.natAbs < top) : x.n < many - 2 := many_le h (small_of_top 1240 rfl hz) (by unfold many; omega)
theorem sm_one : Sm 1 1 := by unfold Sm; decide
theorem Sm.manyL {k : Nat} {x : IV} {w : World} {z : Int} (h : Sm k z) (hx : NI x w z) (hk : k ≤ 60000) : x.n < many - 2 := many_le hx h (by unfold many; omega)
set_option maxRecDepth 100000 in
set_option maxHeartbeats 12800000 in
theorem FracBounds_any {w : World} (n m0 : Int) (neg : Bool) (hn : in64 n) (hm0 : in64 m0) (hTab0 : Tab w) : Calls Tryz.prog 15 #[.int .i64 n, .int .i64 m0, .bool neg] w (RetBool w true) := by
  have b1 := Below.refl w.heap.size w
  have hTab := hTab0
  obtain ⟨u, hu⟩ : ∃ u, n % 40 = u := ⟨_, rfl⟩
  have u0 : 0 ≤ u := by omega
  have u1 : u < 40 := by omega
  have HAr : Hid (∀ w', Calls Tryz.prog 82 #[.int .i64 n, .int .i64 40] w' (RetInt w' u)) := Lib.hid fun w' => by rw [← hu]; exact around4_any n 40 w' hn (by omega) (by omega)
  obtain ⟨k, hk⟩ : ∃ k, m0 % 80 - 40 = k := ⟨_, rfl⟩
  have k0 : -40 ≤ k := by omega
  have k1 : k < 40 := by omega
  have hk64 : in64 k := ⟨by omega, by omega⟩
  have HAr2 : Hid (∀ w', Calls Tryz.prog 82 #[.int .i64 m0, .int .i64 80] w' (RetInt w' (k + 40))) := Lib.hid fun w' => by
    rw [show k + 40 = m0 % 80 by omega]; exact around4_any m0 80 w' hm0 (by omega) (by omega)
  clear hu hk
  go_enter Tryz.func15, Tryz.ntmps15
  go_wp2_with fail
  refine (pow_top _).mono ?_
  rintro e v1 ⟨x0, rfl, k1_, hx0⟩
  replace hTab := hTab.on k1_
  replace b1 := Below.call b1 k1_
  clear k1_
  go_wp2_with fail
  refine (HAr.out _).mono ?_
  rintro e v2 ⟨rfl, k1_⟩
  replace hTab := hTab.on k1_
  replace hx0 := hx0.on k1_
  replace b1 := Below.call b1 k1_
  clear k1_
  go_wp2_with fail
  refine (rOf_any (1 + u) _ (by omega) (by omega)).mono ?_
  rintro e v3 ⟨x1, rfl, k1_, hx1⟩
  replace hTab := hTab.on k1_
  replace hx0 := hx0.on k1_
  replace b1 := Below.call b1 k1_
  clear k1_
  have l0 := top_len hx0
  have l1 := NI.len hx1 (k := 1) (by omega)
  go_wp2_with fail
  refine (rSub_any hx0 hx1 (by unfold many; omega) (by unfold many; omega)).mono ?_
  rintro e v4 ⟨x, rfl, k1_, hx⟩
  go_upto_region 2 with fail
  refine wp_new1 fun v5 hX k2_ => ?_
  obtain ⟨b7, e_⟩ : ∃ b7, b7 = v4.heap.size := ⟨_, rfl⟩
  rw [← e_] at hX ⊢
  have m7 := (Below.call b1 k1_).size
  rw [← e_] at m7
  clear e_
  have kk_ := Below.call k1_ k2_
  replace hTab := hTab.on kk_
  replace hx0 := hx0.on kk_
  replace hx1 := hx1.on kk_
  replace hx := hx.on k2_
  replace b1 := Below.call b1 kk_
  clear k1_ k2_ kk_
  clear hx0 hx1
  have hz0 : ((top : Int) - (1 + u)).natAbs < top := by have := two_64; omega
  clear l0 l1
  have m8 : b7 < v5.heap.size := hX.lt
  go_upto_if 41 with fail
  obtain ⟨B0, hB0⟩ : ∃ B0, B0 = w.heap.size := ⟨_, rfl⟩
  go_cut [41] (fun _ wx => ∃ (x : IV) (z : Int), z.natAbs < top ∧ NI x wx z ∧ Own wx b7 44 [.bool x.neg, .slice x.A x.n x.c] ∧ Below w.heap.size w wx)
  case first =>
    have HbW := Lib.hid b1
    cases neg
    · have HX := Lib.hid (And.intro hx (And.intro hX HbW.out))
      go_wp2_with fail
      go_meet
      exact ⟨x, _, hz0, HX.out⟩
    · obtain ⟨c0, c1, cf0, cf1⟩ := hX.all2
      go_wp2_with fail
      refine (rNeg_any hx).mono ?_
      rintro e u1_ ⟨y, rfl, k9, hy⟩
      have o7 := hX.on k9
      clear c0 c1 cf0 cf1
      obtain ⟨c0, c1, cf0, cf1⟩ := o7.all2
      have HX : Hid (NI y ((u1_.setCell ⟨b7, 0, none⟩ (.bool y.neg)).setCell ⟨b7, 1, none⟩ (.slice y.A y.n y.c)) (-((top : Int) - (1 + u))) ∧ Own ((u1_.setCell ⟨b7, 0, none⟩ (.bool y.neg)).setCell ⟨b7, 1, none⟩ (.slice y.A y.n y.c)) b7 44 [.bool y.neg, .slice y.A y.n y.c] ∧ Below w.heap.size w ((u1_.setCell ⟨b7, 0, none⟩ (.bool y.neg)).setCell ⟨b7, 1, none⟩ (.slice y.A y.n y.c))) := Lib.hid ⟨hy.put2 o7 (by simp) (by simp) _ _, o7.put2 _ _, Below.put2 (Below.call HbW.out k9) m7 _ _⟩
      clear hy o7
      go_wp2_with fail
      go_meet
      exact ⟨y, _, by rw [Int.natAbs_neg]; exact hz0, HX.out⟩
  case rest =>
    clear hx hX hz0 m7 m8 b1 hTab hB0
    obtain ⟨x, z, hz, hx, hX, b1⟩ := hcut
    have hTab := hTab0.on b1
    have nx := mn_len hx hz
    obtain ⟨m1, hm1⟩ : ∃ m1, makeR z 1 = m1 := ⟨_, rfl⟩
    obtain ⟨m2, hm2⟩ : ∃ m2, makeR 3 z = m2 := ⟨_, rfl⟩
    have HM1 : Hid (∀ (f g : IV) (v : World), f.is v z → g.is v 1 → Calls Tryz.prog 63 #[.agg #[.bool f.neg, .slice f.A f.n f.c], .agg #[.bool g.neg, .slice g.A g.n g.c]] v (RetFRE v m1.1 m1.2)) := Lib.hid fun f g v h1 h2 => by rw [← hm1]; exact makeF h1 h2
    have HN1 : Hid (∀ (g : IV) (v : World), NI x v z → NI g v 1 → Calls Tryz.prog 65 #[.agg #[.bool x.neg, .slice x.A x.n x.c], .agg #[.bool g.neg, .slice g.A g.n g.c]] v (RetNRE v m1.1 m1.2)) := Lib.hid fun g v h1 h2 => by rw [← hm1]; exact fMake_any h1 h2 nx (mn_len h2 one_fits)
    have HN2 : Hid (∀ (f g : IV) (v : World), f.is v 3 → g.is v z → Calls Tryz.prog 63 #[.agg #[.bool f.neg, .slice f.A f.n f.c], .agg #[.bool g.neg, .slice g.A g.n g.c]] v (RetFRE v m2.1 m2.2)) := Lib.hid fun f g v h1 h2 => by rw [← hm2]; exact makeF h1 h2
    have HN3 : Hid (∀ (g : IV) (v : World), NI g v 3 → NI x v z → Calls Tryz.prog 65 #[.agg #[.bool g.neg, .slice g.A g.n g.c], .agg #[.bool x.neg, .slice x.A x.n x.c]] v (RetNRE v m2.1 m2.2)) := Lib.hid fun g v h1 h2 => by rw [← hm2]; exact fMake_any h1 h2 (mn_len h1 (small_top (by decide))) nx
    clear hm1 hm2 nx
    obtain ⟨c0_0, c0_1, _⟩ := hX.all2
    go_wp2_with fail
    refine (number_any hx hz).mono ?_
    rintro e v6 ⟨a0, rfl, k1_, ha0⟩
    clear c0_0 c0_1
    replace hTab := hTab.on k1_
    replace hx := hx.on k1_
    replace hX := hX.on k1_
    replace b1 := Below.call b1 k1_
    clear k1_
    go_wp2_with fail
    refine (from_w 1 _ ⟨by omega, by omega⟩).mono ?_
    rintro e v7 ⟨a1, rfl, k1_, ha1⟩
    replace hTab := hTab.on k1_
    replace hx := hx.on k1_
    replace hX := hX.on k1_
    replace ha0 := ha0.on k1_
    replace b1 := Below.call b1 k1_
    clear k1_
    go_wp2_with fail
    refine (HM1.out _ _ _ ha0 ha1).mono ?_
    rintro e v8 ⟨a, rfl, k1_, ha⟩
    go_upto_region 5 with fail
    refine wp_new1 fun v9 hA k2_ => ?_
    obtain ⟨b8, e_⟩ : ∃ b8, b8 = v8.heap.size := ⟨_, rfl⟩
    rw [← e_] at hA ⊢
    clear e_
    have kk_ := Below.call k1_ k2_
    replace hTab := hTab.on kk_
    replace hx := hx.on kk_
    replace hX := hX.on kk_
    replace ha0 := ha0.on kk_
    replace ha1 := ha1.on kk_
    replace ha := ha.on k2_
    replace b1 := Below.call b1 kk_
    clear k1_ k2_ kk_
    clear ha0 ha1
    refine wp_region_boxes v9 [Spec.eq (.agg #[.bool x.neg, .slice x.A x.n x.c]), sNp 1, sNRE m1.1 m1.2, sNRE m1.1 m1.2, sNR m1.1, Spec.eq (.int .i64 m1.2), Spec.any, Spec.any, Spec.eq (.int .i64 m1.2)]
        [{ A := 6, j := 7, t := 10, T := 89, zs := [.bool false, .slice none 0 0, .bool false, .slice none 0 0], X := fun us w => ∃ x : FV, us = [.bool x.p.neg, .slice x.p.A x.p.n x.p.c, .bool x.l.neg, .slice x.l.A x.l.n x.l.c] ∧ NR x w m1.1, up := fun ⟨x, e, hx⟩ k => ⟨x, e, hx.keeps k⟩ }]
        (by kernel_rfl) (by kernel_rfl) rfl (by kernel_rfl) rfl (Below.drew (Below.refl _ _)) ?_ ?_ ⟨rfl, rfl, trivial⟩ ?_
    ·
      refine RegSteps.cons ?_ ?_
      · intro _ az wz hC hF hD _ K hK; have q7 : az.tmps[7]? = some (.pointer (some ⟨b7, 0, none⟩)) := hF 7 rfl; obtain ⟨l0, l1, _⟩ := (hX.on hC).all2; clear hF hD; refine want_none rfl ?_; go_simp; exact hK _ _ hC (Below.refl _ _) rfl
      refine RegSteps.cons ?_ ?_
      · intro _ az wz hC hF hD _ K hK; clear hF hD; refine want_none rfl ?_; go_simp; refine (rOf_any 1 _ (by omega) (by omega)).mono ?_; rintro e wy ⟨x, rfl, k, hx⟩; exact hK _ _ (Below.call hC k) k ⟨x, rfl, hx⟩
      refine RegSteps.cons ?_ ?_
      · intro _ az wz hC hF hD _ K hK; obtain ⟨_, q52, rfl⟩ := dep hD 0 rfl rfl rfl rfl; obtain ⟨_, q53, x53, rfl, hx53⟩ := dep hD 1 rfl rfl rfl rfl; clear hF hD; refine want_none rfl ?_; go_simp; refine (HN1.out _ _ (hx.on hC) hx53).mono ?_; rintro e wy ⟨x, rfl, k, hx⟩; exact hK _ _ (Below.call hC k) k ⟨x, rfl, hx⟩
      refine RegSteps.cons ?_ ?_
      · intro _ az wz hC hF hD _ K hK; obtain ⟨_, q54, x54, rfl, hx54⟩ := dep hD 2 rfl rfl rfl rfl; clear hF hD; refine want_none rfl ?_; go_simp; exact hK _ _ hC (Below.refl _ _) ⟨x54, rfl, hx54⟩
      refine RegSteps.cons ?_ ?_
      · intro _ az wz hC hF hD _ K hK; obtain ⟨_, q51, x51, rfl, hx51⟩ := dep hD 3 rfl rfl rfl rfl; clear hF hD; refine want_none rfl ?_; go_simp; exact hK _ _ hC (Below.refl _ _) ⟨x51, rfl, hx51⟩
      refine RegSteps.cons ?_ ?_
      · intro _ az wz hC hF hD _ K hK; obtain ⟨_, q51, x51, rfl, hx51⟩ := dep hD 3 rfl rfl rfl rfl; clear hF hD; refine want_none rfl ?_; go_simp; exact hK _ _ hC (Below.refl _ _) rfl
      refine RegSteps.cons ?_ ?_
      · exact fun h => by cases h
      refine RegSteps.cons ?_ ?_
      · exact fun h => by cases h
      refine RegSteps.cons ?_ ?_
      · intro _ az wz hC hF hD _ K hK; obtain ⟨_, q56, rfl⟩ := dep hD 5 rfl rfl rfl rfl; clear hF hD; refine want_none rfl ?_; go_simp; exact hK _ _ hC (Below.refl _ _) rfl
      exact RegSteps.nil
    · refine ⟨?_, trivial⟩
      · refine ⟨⟨_, rfl, rfl, rfl, fun az wz K hK => by go_simp; exact hK⟩, ⟨_, rfl, rfl, rfl, ?_⟩, by simp [Word], by simp⟩
        intro az wz gz cs hC hF hD hA K hK
        obtain ⟨p1, p2, p3, p4, p5⟩ := hA
        obtain ⟨_, q55, x, rfl, hx⟩ := dep hD 4 rfl rfl rfl rfl
        obtain ⟨c0, c1, c2, c3, rfl⟩ := list_4 (l := cs) p4
        have z0 := p3.c0
        have z1 := p3.c1
        have z2 := p3.c2
        have z3 := p3.c3
        have f0 := p3.frozen 0
        have f1 := p3.frozen 1
        have f2 := p3.frozen 2
        have f3 := p3.frozen 3
        clear hF hD p3 p5
        refine want_none rfl ?_
        go_simp
        exact hK [.bool x.p.neg, .slice x.p.A x.p.n x.p.c, .bool x.l.neg, .slice x.l.A x.l.n x.l.c] rfl (by simp [Word]) ⟨x, rfl, hx⟩
    intro v10 gs hC hgl hbf
    obtain ⟨b10, rfl⟩ := list_1 hgl
    obtain ⟨⟨hg0, us0, hOb0, ⟨bb, rfl, hbb⟩⟩, _⟩ := hbf
    rintro _ rfl _ ⟨y53, rfl, _⟩ _ ⟨y54, rfl, _⟩ _ ⟨y51, rfl, _⟩ _ ⟨y55, rfl, _⟩ _ rfl _ rfl _ _ _ rfl
    simp only [FinOK, Act.put, List.setIfInBounds_toArray, List.set_cons_zero, List.set_cons_succ]
    replace hTab := hTab.on hC
    replace hx := hx.on hC
    replace hX := hX.on hC
    replace ha := ha.on hC
    replace hA := hA.on hC
    replace b1 := Below.call b1 hC
    have hBB := hOb0
    clear hOb0
    clear hC
    go_wp2_with fail
    refine wp_region_boxes v10 [sWp 3, Spec.eq (.agg #[.bool x.neg, .slice x.A x.n x.c]), sWp z, sFRE m2.1 m2.2, sFRE m2.1 m2.2, sFR m2.1, Spec.eq (.int .i64 m2.2), Spec.any, Spec.any, Spec.eq (.int .i64 m2.2)]
        [{ A := 7, j := 8, t := 12, T := 31, zs := [.bool false, .slice none 0 0, .bool false, .slice none 0 0], X := fun us w => ∃ x : FV, us = [.bool x.p.neg, .slice x.p.A x.p.n x.p.c, .bool x.l.neg, .slice x.l.A x.l.n x.l.c] ∧ FR x w m2.1, up := fun ⟨x, e, hx⟩ k => ⟨x, e, hx.keeps k⟩ }]
        (by kernel_rfl) (by kernel_rfl) rfl (by kernel_rfl) rfl (Below.drew (Below.refl _ _)) ?_ ?_ ⟨rfl, rfl, trivial⟩ ?_
    ·
      refine RegSteps.cons ?_ ?_
      · intro _ az wz hC hF hD _ K hK; clear hF hD; refine want_none rfl ?_; go_simp; refine (from_w 3 _ ⟨by omega, by omega⟩).mono ?_; rintro e wy ⟨x, rfl, k, hx⟩; exact hK _ _ (Below.call hC k) k ⟨x, rfl, hx⟩
      refine RegSteps.cons ?_ ?_
      · intro _ az wz hC hF hD _ K hK; have q7 : az.tmps[7]? = some (.pointer (some ⟨b7, 0, none⟩)) := hF 7 rfl; obtain ⟨l0, l1, _⟩ := (hX.on hC).all2; clear hF hD; refine want_none rfl ?_; go_simp; exact hK _ _ hC (Below.refl _ _) rfl
      refine RegSteps.cons ?_ ?_
      · intro _ az wz hC hF hD _ K hK; obtain ⟨_, q59, rfl⟩ := dep hD 1 rfl rfl rfl rfl; clear hF hD; refine want_none rfl ?_; go_simp; refine (number_any (hx.on hC) hz).mono ?_; rintro e wy ⟨x, rfl, k, hx⟩; exact hK _ _ (Below.call hC k) k ⟨x, rfl, hx⟩
      refine RegSteps.cons ?_ ?_
      · intro _ az wz hC hF hD _ K hK; obtain ⟨_, q58, x58, rfl, hx58⟩ := dep hD 0 rfl rfl rfl rfl; obtain ⟨_, q60, x60, rfl, hx60⟩ := dep hD 2 rfl rfl rfl rfl; clear hF hD; refine want_none rfl ?_; go_simp; refine (HN2.out _ _ _ hx58 hx60).mono ?_; rintro e wy ⟨x, rfl, k, hx⟩; exact hK _ _ (Below.call hC k) k ⟨x, rfl, hx⟩
      refine RegSteps.cons ?_ ?_
      · intro _ az wz hC hF hD _ K hK; obtain ⟨_, q61, x61, rfl, hx61⟩ := dep hD 3 rfl rfl rfl rfl; clear hF hD; refine want_none rfl ?_; go_simp; exact hK _ _ hC (Below.refl _ _) ⟨x61, rfl, hx61⟩
      refine RegSteps.cons ?_ ?_
      · intro _ az wz hC hF hD _ K hK; obtain ⟨_, q57, x57, rfl, hx57⟩ := dep hD 4 rfl rfl rfl rfl; clear hF hD; refine want_none rfl ?_; go_simp; exact hK _ _ hC (Below.refl _ _) ⟨x57, rfl, hx57⟩
      refine RegSteps.cons ?_ ?_
      · intro _ az wz hC hF hD _ K hK; obtain ⟨_, q57, x57, rfl, hx57⟩ := dep hD 4 rfl rfl rfl rfl; clear hF hD; refine want_none rfl ?_; go_simp; exact hK _ _ hC (Below.refl _ _) rfl
      refine RegSteps.cons ?_ ?_
      · exact fun h => by cases h
      refine RegSteps.cons ?_ ?_
      · exact fun h => by cases h
      refine RegSteps.cons ?_ ?_
      · intro _ az wz hC hF hD _ K hK; obtain ⟨_, q63, rfl⟩ := dep hD 6 rfl rfl rfl rfl; clear hF hD; refine want_none rfl ?_; go_simp; exact hK _ _ hC (Below.refl _ _) rfl
      exact RegSteps.nil
    · refine ⟨?_, trivial⟩
      · refine ⟨⟨_, rfl, rfl, rfl, fun az wz K hK => by go_simp; exact hK⟩, ⟨_, rfl, rfl, rfl, ?_⟩, by simp [Word], by simp⟩
        intro az wz gz cs hC hF hD hA K hK
        obtain ⟨p1, p2, p3, p4, p5⟩ := hA
        obtain ⟨_, q62, x, rfl, hx⟩ := dep hD 5 rfl rfl rfl rfl
        obtain ⟨c0, c1, c2, c3, rfl⟩ := list_4 (l := cs) p4
        have z0 := p3.c0
        have z1 := p3.c1
        have z2 := p3.c2
        have z3 := p3.c3
        have f0 := p3.frozen 0
        have f1 := p3.frozen 1
        have f2 := p3.frozen 2
        have f3 := p3.frozen 3
        clear hF hD p3 p5
        refine want_none rfl ?_
        go_simp
        exact hK [.bool x.p.neg, .slice x.p.A x.p.n x.p.c, .bool x.l.neg, .slice x.l.A x.l.n x.l.c] rfl (by simp [Word]) ⟨x, rfl, hx⟩
    intro v11 gs hC hgl hbf
    obtain ⟨b12, rfl⟩ := list_1 hgl
    obtain ⟨⟨hg0, us0, hOb0, ⟨cc, rfl, hcc⟩⟩, _⟩ := hbf
    rintro _ ⟨y58, rfl, _⟩ _ rfl _ ⟨y60, rfl, _⟩ _ ⟨y61, rfl, _⟩ _ ⟨y57, rfl, _⟩ _ ⟨y62, rfl, _⟩ _ rfl _ rfl _ _ _ rfl
    simp only [FinOK, Act.put, List.setIfInBounds_toArray, List.set_cons_zero, List.set_cons_succ]
    replace hTab := hTab.on hC
    replace hx := hx.on hC
    replace hX := hX.on hC
    replace ha := ha.on hC
    replace hA := hA.on hC
    replace hbb := hbb.on hC
    replace hBB := hBB.on hC
    replace b1 := Below.call b1 hC
    have hCC := hOb0
    clear hOb0
    clear hC
    go_wp2_with fail
    refine wp_region_boxes v11 [sNp 3, Spec.eq (.agg #[.bool x.neg, .slice x.A x.n x.c]), sNRE m2.1 m2.2, sNRE m2.1 m2.2, sNR m2.1, Spec.eq (.int .i64 m2.2), Spec.any, Spec.any, Spec.eq (.int .i64 m2.2)]
        [{ A := 6, j := 7, t := 14, T := 89, zs := [.bool false, .slice none 0 0, .bool false, .slice none 0 0], X := fun us w => ∃ x : FV, us = [.bool x.p.neg, .slice x.p.A x.p.n x.p.c, .bool x.l.neg, .slice x.l.A x.l.n x.l.c] ∧ NR x w m2.1, up := fun ⟨x, e, hx⟩ k => ⟨x, e, hx.keeps k⟩ }]
        (by kernel_rfl) (by kernel_rfl) rfl (by kernel_rfl) rfl (Below.drew (Below.refl _ _)) ?_ ?_ ⟨rfl, rfl, trivial⟩ ?_
    ·
      refine RegSteps.cons ?_ ?_
      · intro _ az wz hC hF hD _ K hK; clear hF hD; refine want_none rfl ?_; go_simp; refine (rOf_any 3 _ (by omega) (by omega)).mono ?_; rintro e wy ⟨x, rfl, k, hx⟩; exact hK _ _ (Below.call hC k) k ⟨x, rfl, hx⟩
      refine RegSteps.cons ?_ ?_
      · intro _ az wz hC hF hD _ K hK; have q7 : az.tmps[7]? = some (.pointer (some ⟨b7, 0, none⟩)) := hF 7 rfl; obtain ⟨l0, l1, _⟩ := (hX.on hC).all2; clear hF hD; refine want_none rfl ?_; go_simp; exact hK _ _ hC (Below.refl _ _) rfl
      refine RegSteps.cons ?_ ?_
      · intro _ az wz hC hF hD _ K hK; obtain ⟨_, q65, x65, rfl, hx65⟩ := dep hD 0 rfl rfl rfl rfl; obtain ⟨_, q66, rfl⟩ := dep hD 1 rfl rfl rfl rfl; clear hF hD; refine want_none rfl ?_; go_simp; refine (HN3.out _ _ hx65 (hx.on hC)).mono ?_; rintro e wy ⟨x, rfl, k, hx⟩; exact hK _ _ (Below.call hC k) k ⟨x, rfl, hx⟩
      refine RegSteps.cons ?_ ?_
      · intro _ az wz hC hF hD _ K hK; obtain ⟨_, q67, x67, rfl, hx67⟩ := dep hD 2 rfl rfl rfl rfl; clear hF hD; refine want_none rfl ?_; go_simp; exact hK _ _ hC (Below.refl _ _) ⟨x67, rfl, hx67⟩
      refine RegSteps.cons ?_ ?_
      · intro _ az wz hC hF hD _ K hK; obtain ⟨_, q64, x64, rfl, hx64⟩ := dep hD 3 rfl rfl rfl rfl; clear hF hD; refine want_none rfl ?_; go_simp; exact hK _ _ hC (Below.refl _ _) ⟨x64, rfl, hx64⟩
      refine RegSteps.cons ?_ ?_
      · intro _ az wz hC hF hD _ K hK; obtain ⟨_, q64, x64, rfl, hx64⟩ := dep hD 3 rfl rfl rfl rfl; clear hF hD; refine want_none rfl ?_; go_simp; exact hK _ _ hC (Below.refl _ _) rfl
      refine RegSteps.cons ?_ ?_
      · exact fun h => by cases h
      refine RegSteps.cons ?_ ?_
      · exact fun h => by cases h
      refine RegSteps.cons ?_ ?_
      · intro _ az wz hC hF hD _ K hK; obtain ⟨_, q69, rfl⟩ := dep hD 5 rfl rfl rfl rfl; clear hF hD; refine want_none rfl ?_; go_simp; exact hK _ _ hC (Below.refl _ _) rfl
      exact RegSteps.nil
    · refine ⟨?_, trivial⟩
      · refine ⟨⟨_, rfl, rfl, rfl, fun az wz K hK => by go_simp; exact hK⟩, ⟨_, rfl, rfl, rfl, ?_⟩, by simp [Word], by simp⟩
        intro az wz gz cs hC hF hD hA K hK
        obtain ⟨p1, p2, p3, p4, p5⟩ := hA
        obtain ⟨_, q68, x, rfl, hx⟩ := dep hD 4 rfl rfl rfl rfl
        obtain ⟨c0, c1, c2, c3, rfl⟩ := list_4 (l := cs) p4
        have z0 := p3.c0
        have z1 := p3.c1
        have z2 := p3.c2
        have z3 := p3.c3
        have f0 := p3.frozen 0
        have f1 := p3.frozen 1
        have f2 := p3.frozen 2
        have f3 := p3.frozen 3
        clear hF hD p3 p5
        refine want_none rfl ?_
        go_simp
        exact hK [.bool x.p.neg, .slice x.p.A x.p.n x.p.c, .bool x.l.neg, .slice x.l.A x.l.n x.l.c] rfl (by simp [Word]) ⟨x, rfl, hx⟩
    intro v12 gs hC hgl hbf
    obtain ⟨b14, rfl⟩ := list_1 hgl
    obtain ⟨⟨hg0, us0, hOb0, ⟨dd, rfl, hdd⟩⟩, _⟩ := hbf
    rintro _ ⟨y65, rfl, _⟩ _ rfl _ ⟨y67, rfl, _⟩ _ ⟨y64, rfl, _⟩ _ ⟨y68, rfl, _⟩ _ rfl _ rfl _ _ _ rfl
    simp only [FinOK, Act.put, List.setIfInBounds_toArray, List.set_cons_zero, List.set_cons_succ]
    replace hTab := hTab.on hC
    replace hx := hx.on hC
    replace hX := hX.on hC
    replace ha := ha.on hC
    replace hA := hA.on hC
    replace hbb := hbb.on hC
    replace hBB := hBB.on hC
    replace hcc := hcc.on hC
    replace hCC := hCC.on hC
    replace b1 := Below.call b1 hC
    have hDD := hOb0
    clear hOb0
    clear hC
    clear hx hX
    obtain ⟨c0_0, c0_1, c0_2, c0_3, _⟩ := hA.all4
    obtain ⟨c1_0, c1_1, c1_2, c1_3, _⟩ := hBB.all4
    go_wp2_with fail
    refine (same_any ha hbb hTab).mono ?_
    rintro e v13 ⟨rfl, k1_⟩
    clear c0_0 c0_1 c0_2 c0_3 c1_0 c1_1 c1_2 c1_3
    replace hTab := hTab.on k1_
    replace ha := ha.on k1_
    replace hA := hA.on k1_
    replace hbb := hbb.on k1_
    replace hBB := hBB.on k1_
    replace hcc := hcc.on k1_
    replace hCC := hCC.on k1_
    replace hdd := hdd.on k1_
    replace hDD := hDD.on k1_
    replace b1 := Below.call b1 k1_
    clear k1_
    obtain ⟨c0_0, c0_1, c0_2, c0_3, _⟩ := hCC.all4
    obtain ⟨c1_0, c1_1, c1_2, c1_3, _⟩ := hDD.all4
    go_wp2_with fail
    refine (same_any hcc hdd hTab).mono ?_
    rintro e v14 ⟨rfl, k1_⟩
    clear c0_0 c0_1 c0_2 c0_3 c1_0 c1_1 c1_2 c1_3
    replace hTab := hTab.on k1_
    replace ha := ha.on k1_
    replace hA := hA.on k1_
    replace hbb := hbb.on k1_
    replace hBB := hBB.on k1_
    replace hcc := hcc.on k1_
    replace hCC := hCC.on k1_
    replace hdd := hdd.on k1_
    replace hDD := hDD.on k1_
    replace b1 := Below.call b1 k1_
    clear k1_
    have sm1 := ha.fit.sm
    have sm2 := hcc.fit.sm
    have sk : SmR 1240 (k : Rat) := ⟨(Sm.small hk64).mono (by omega), Sm.mono (j := 1) sm_one (by omega)⟩
    obtain ⟨ma, hma⟩ : ∃ ma, addR m1.1 (k : Rat) = ma := ⟨_, rfl⟩
    have HA : Hid (∀ (g : FV) (v : World), FR a v m1.1 → FR g v (k : Rat) → Calls Tryz.prog 74 #[.agg #[.bool a.p.neg, .slice a.p.A a.p.n a.p.c, .bool a.l.neg, .slice a.l.A a.l.n a.l.c], .agg #[.bool g.p.neg, .slice g.p.A g.p.n g.p.c, .bool g.l.neg, .slice g.l.A g.l.n g.l.c]] v (RetFRE v ma.1 ma.2)) := Lib.hid fun g v h1 h2 => by rw [← hma]; exact addF h1 h2
    have HB : Hid (∀ (g : FV) (v : World), NR bb v m1.1 → NR g v (k : Rat) → Calls Tryz.prog 75 #[.agg #[.bool bb.p.neg, .slice bb.p.A bb.p.n bb.p.c, .bool bb.l.neg, .slice bb.l.A bb.l.n bb.l.c], .agg #[.bool g.p.neg, .slice g.p.A g.p.n g.p.c, .bool g.l.neg, .slice g.l.A g.l.n g.l.c]] v (RetNRE v ma.1 ma.2)) := Lib.hid fun g v h1 h2 => by rw [← hma]; exact fAdd_any h1 h2 sm1 sk
    obtain ⟨md, hmd⟩ : ∃ md, divR m2.1 (k : Rat) = md := ⟨_, rfl⟩
    have HDu : Hid (∀ (g : FV) (v : World), FR cc v m2.1 → FR g v (k : Rat) → Calls Tryz.prog 80 #[.agg #[.bool cc.p.neg, .slice cc.p.A cc.p.n cc.p.c, .bool cc.l.neg, .slice cc.l.A cc.l.n cc.l.c], .agg #[.bool g.p.neg, .slice g.p.A g.p.n g.p.c, .bool g.l.neg, .slice g.l.A g.l.n g.l.c]] v (RetFRE v md.1 md.2)) := Lib.hid fun g v h1 h2 => by rw [← hmd]; exact divF h1 h2
    have HDv : Hid (∀ (g : FV) (v : World), NR dd v m2.1 → NR g v (k : Rat) → Calls Tryz.prog 81 #[.agg #[.bool dd.p.neg, .slice dd.p.A dd.p.n dd.p.c, .bool dd.l.neg, .slice dd.l.A dd.l.n dd.l.c], .agg #[.bool g.p.neg, .slice g.p.A g.p.n g.p.c, .bool g.l.neg, .slice g.l.A g.l.n g.l.c]] v (RetNRE v md.1 md.2)) := Lib.hid fun g v h1 h2 => by rw [← hmd]; exact fDiv_any h1 h2 sm2 sk
    clear hma hmd
    go_wp2_with fail
    refine (HAr2.out _).mono ?_
    rintro e v15 ⟨rfl, k1_⟩
    replace hTab := hTab.on k1_
    replace ha := ha.on k1_
    replace hA := hA.on k1_
    replace hbb := hbb.on k1_
    replace hBB := hBB.on k1_
    replace hcc := hcc.on k1_
    replace hCC := hCC.on k1_
    replace hdd := hdd.on k1_
    replace hDD := hDD.on k1_
    replace b1 := Below.call b1 k1_
    clear k1_
    go_wp2_with fail
    refine wp_region_boxes v15 [Spec.eq (.agg #[.bool a.p.neg, .slice a.p.A a.p.n a.p.c, .bool a.l.neg, .slice a.l.A a.l.n a.l.c]), Spec.eq (.int .i64 k), sFR (k : Rat), sFRE ma.1 ma.2, sFRE ma.1 ma.2, sFR ma.1, Spec.eq (.int .i64 ma.2), Spec.any, Spec.any, Spec.eq (.int .i64 ma.2)]
        [{ A := 7, j := 8, t := 17, T := 31, zs := [.bool false, .slice none 0 0, .bool false, .slice none 0 0], X := fun us w => ∃ x : FV, us = [.bool x.p.neg, .slice x.p.A x.p.n x.p.c, .bool x.l.neg, .slice x.l.A x.l.n x.l.c] ∧ FR x w ma.1, up := fun ⟨x, e, hx⟩ k => ⟨x, e, hx.keeps k⟩ }]
        (by kernel_rfl) (by kernel_rfl) rfl (by kernel_rfl) rfl (Below.drew (Below.refl _ _)) ?_ ?_ ⟨rfl, rfl, trivial⟩ ?_
    ·
      refine RegSteps.cons ?_ ?_
      · intro _ az wz hC hF hD _ K hK; have q8 : az.tmps[8]? = some (.pointer (some ⟨b8, 0, none⟩)) := hF 8 rfl; obtain ⟨l0, l1, l2, l3, _⟩ := (hA.on hC).all4; clear hF hD; refine want_none rfl ?_; go_simp; exact hK _ _ hC (Below.refl _ _) rfl
      refine RegSteps.cons ?_ ?_
      · intro _ az wz hC hF hD _ K hK; have q16 : az.tmps[16]? = some (.int .i64 k) := hF 16 rfl; clear hF hD; refine want_none rfl ?_; go_simp; exact hK _ _ hC (Below.refl _ _) rfl
      refine RegSteps.cons ?_ ?_
      · intro _ az wz hC hF hD _ K hK; obtain ⟨_, q95, rfl⟩ := dep hD 1 rfl rfl rfl rfl; clear hF hD; refine want_none rfl ?_; go_simp; refine (whole_any k _ hk64).mono ?_; rintro e wy ⟨x, rfl, k, hx⟩; exact hK _ _ (Below.call hC k) k ⟨x, rfl, hx⟩
      refine RegSteps.cons ?_ ?_
      · intro _ az wz hC hF hD _ K hK; obtain ⟨_, q94, rfl⟩ := dep hD 0 rfl rfl rfl rfl; obtain ⟨_, q96, x96, rfl, hx96⟩ := dep hD 2 rfl rfl rfl rfl; clear hF hD; refine want_none rfl ?_; go_simp; refine (HA.out _ _ (ha.on hC) hx96).mono ?_; rintro e wy ⟨x, rfl, k, hx⟩; exact hK _ _ (Below.call hC k) k ⟨x, rfl, hx⟩
      refine RegSteps.cons ?_ ?_
      · intro _ az wz hC hF hD _ K hK; obtain ⟨_, q97, x97, rfl, hx97⟩ := dep hD 3 rfl rfl rfl rfl; clear hF hD; refine want_none rfl ?_; go_simp; exact hK _ _ hC (Below.refl _ _) ⟨x97, rfl, hx97⟩
      refine RegSteps.cons ?_ ?_
      · intro _ az wz hC hF hD _ K hK; obtain ⟨_, q93, x93, rfl, hx93⟩ := dep hD 4 rfl rfl rfl rfl; clear hF hD; refine want_none rfl ?_; go_simp; exact hK _ _ hC (Below.refl _ _) ⟨x93, rfl, hx93⟩
      refine RegSteps.cons ?_ ?_
      · intro _ az wz hC hF hD _ K hK; obtain ⟨_, q93, x93, rfl, hx93⟩ := dep hD 4 rfl rfl rfl rfl; clear hF hD; refine want_none rfl ?_; go_simp; exact hK _ _ hC (Below.refl _ _) rfl
      refine RegSteps.cons ?_ ?_
      · exact fun h => by cases h
      refine RegSteps.cons ?_ ?_
      · exact fun h => by cases h
      refine RegSteps.cons ?_ ?_
      · intro _ az wz hC hF hD _ K hK; obtain ⟨_, q99, rfl⟩ := dep hD 6 rfl rfl rfl rfl; clear hF hD; refine want_none rfl ?_; go_simp; exact hK _ _ hC (Below.refl _ _) rfl
      exact RegSteps.nil
    · refine ⟨?_, trivial⟩
      · refine ⟨⟨_, rfl, rfl, rfl, fun az wz K hK => by go_simp; exact hK⟩, ⟨_, rfl, rfl, rfl, ?_⟩, by simp [Word], by simp⟩
        intro az wz gz cs hC hF hD hA K hK
        obtain ⟨p1, p2, p3, p4, p5⟩ := hA
        obtain ⟨_, q98, x, rfl, hx⟩ := dep hD 5 rfl rfl rfl rfl
        obtain ⟨c0, c1, c2, c3, rfl⟩ := list_4 (l := cs) p4
        have z0 := p3.c0
        have z1 := p3.c1
        have z2 := p3.c2
        have z3 := p3.c3
        have f0 := p3.frozen 0
        have f1 := p3.frozen 1
        have f2 := p3.frozen 2
        have f3 := p3.frozen 3
        clear hF hD p3 p5
        refine want_none rfl ?_
        go_simp
        exact hK [.bool x.p.neg, .slice x.p.A x.p.n x.p.c, .bool x.l.neg, .slice x.l.A x.l.n x.l.c] rfl (by simp [Word]) ⟨x, rfl, hx⟩
    intro v16 gs hC hgl hbf
    obtain ⟨b17, rfl⟩ := list_1 hgl
    obtain ⟨⟨hg0, us0, hOb0, ⟨p, rfl, hp⟩⟩, _⟩ := hbf
    rintro _ rfl _ rfl _ ⟨y96, rfl, _⟩ _ ⟨y97, rfl, _⟩ _ ⟨y93, rfl, _⟩ _ ⟨y98, rfl, _⟩ _ rfl _ rfl _ _ _ rfl
    simp only [FinOK, Act.put, List.setIfInBounds_toArray, List.set_cons_zero, List.set_cons_succ]
    replace hTab := hTab.on hC
    replace ha := ha.on hC
    replace hA := hA.on hC
    replace hbb := hbb.on hC
    replace hBB := hBB.on hC
    replace hcc := hcc.on hC
    replace hCC := hCC.on hC
    replace hdd := hdd.on hC
    replace hDD := hDD.on hC
    replace b1 := Below.call b1 hC
    have hP := hOb0
    clear hOb0
    clear hC
    go_wp2_with fail
    refine wp_region_boxes v16 [Spec.eq (.agg #[.bool bb.p.neg, .slice bb.p.A bb.p.n bb.p.c, .bool bb.l.neg, .slice bb.l.A bb.l.n bb.l.c]), Spec.eq (.int .i64 k), sNR (k : Rat), sNRE ma.1 ma.2, sNRE ma.1 ma.2, sNR ma.1, Spec.eq (.int .i64 ma.2), Spec.any, Spec.any, Spec.eq (.int .i64 ma.2)]
        [{ A := 7, j := 8, t := 19, T := 89, zs := [.bool false, .slice none 0 0, .bool false, .slice none 0 0], X := fun us w => ∃ x : FV, us = [.bool x.p.neg, .slice x.p.A x.p.n x.p.c, .bool x.l.neg, .slice x.l.A x.l.n x.l.c] ∧ NR x w ma.1, up := fun ⟨x, e, hx⟩ k => ⟨x, e, hx.keeps k⟩ }]
        (by kernel_rfl) (by kernel_rfl) rfl (by kernel_rfl) rfl (Below.drew (Below.refl _ _)) ?_ ?_ ⟨rfl, rfl, trivial⟩ ?_
    ·
      refine RegSteps.cons ?_ ?_
      · intro _ az wz hC hF hD _ K hK; have q10 : az.tmps[10]? = some (.pointer (some ⟨b10, 0, none⟩)) := hF 10 rfl; obtain ⟨l0, l1, l2, l3, _⟩ := (hBB.on hC).all4; clear hF hD; refine want_none rfl ?_; go_simp; exact hK _ _ hC (Below.refl _ _) rfl
      refine RegSteps.cons ?_ ?_
      · intro _ az wz hC hF hD _ K hK; have q16 : az.tmps[16]? = some (.int .i64 k) := hF 16 rfl; clear hF hD; refine want_none rfl ?_; go_simp; exact hK _ _ hC (Below.refl _ _) rfl
      refine RegSteps.cons ?_ ?_
      · intro _ az wz hC hF hD _ K hK; obtain ⟨_, q102, rfl⟩ := dep hD 1 rfl rfl rfl rfl; clear hF hD; refine want_none rfl ?_; go_simp; refine (fOf_any k _ hk64).mono ?_; rintro e wy ⟨x, rfl, k, hx⟩; exact hK _ _ (Below.call hC k) k ⟨x, rfl, hx⟩
      refine RegSteps.cons ?_ ?_
      · intro _ az wz hC hF hD _ K hK; obtain ⟨_, q101, rfl⟩ := dep hD 0 rfl rfl rfl rfl; obtain ⟨_, q103, x103, rfl, hx103⟩ := dep hD 2 rfl rfl rfl rfl; clear hF hD; refine want_none rfl ?_; go_simp; refine (HB.out _ _ (hbb.on hC) hx103).mono ?_; rintro e wy ⟨x, rfl, k, hx⟩; exact hK _ _ (Below.call hC k) k ⟨x, rfl, hx⟩
      refine RegSteps.cons ?_ ?_
      · intro _ az wz hC hF hD _ K hK; obtain ⟨_, q104, x104, rfl, hx104⟩ := dep hD 3 rfl rfl rfl rfl; clear hF hD; refine want_none rfl ?_; go_simp; exact hK _ _ hC (Below.refl _ _) ⟨x104, rfl, hx104⟩
      refine RegSteps.cons ?_ ?_
      · intro _ az wz hC hF hD _ K hK; obtain ⟨_, q100, x100, rfl, hx100⟩ := dep hD 4 rfl rfl rfl rfl; clear hF hD; refine want_none rfl ?_; go_simp; exact hK _ _ hC (Below.refl _ _) ⟨x100, rfl, hx100⟩
      refine RegSteps.cons ?_ ?_
      · intro _ az wz hC hF hD _ K hK; obtain ⟨_, q100, x100, rfl, hx100⟩ := dep hD 4 rfl rfl rfl rfl; clear hF hD; refine want_none rfl ?_; go_simp; exact hK _ _ hC (Below.refl _ _) rfl
      refine RegSteps.cons ?_ ?_
      · exact fun h => by cases h
      refine RegSteps.cons ?_ ?_
      · exact fun h => by cases h
      refine RegSteps.cons ?_ ?_
      · intro _ az wz hC hF hD _ K hK; obtain ⟨_, q106, rfl⟩ := dep hD 6 rfl rfl rfl rfl; clear hF hD; refine want_none rfl ?_; go_simp; exact hK _ _ hC (Below.refl _ _) rfl
      exact RegSteps.nil
    · refine ⟨?_, trivial⟩
      · refine ⟨⟨_, rfl, rfl, rfl, fun az wz K hK => by go_simp; exact hK⟩, ⟨_, rfl, rfl, rfl, ?_⟩, by simp [Word], by simp⟩
        intro az wz gz cs hC hF hD hA K hK
        obtain ⟨p1, p2, p3, p4, p5⟩ := hA
        obtain ⟨_, q105, x, rfl, hx⟩ := dep hD 5 rfl rfl rfl rfl
        obtain ⟨c0, c1, c2, c3, rfl⟩ := list_4 (l := cs) p4
        have z0 := p3.c0
        have z1 := p3.c1
        have z2 := p3.c2
        have z3 := p3.c3
        have f0 := p3.frozen 0
        have f1 := p3.frozen 1
        have f2 := p3.frozen 2
        have f3 := p3.frozen 3
        clear hF hD p3 p5
        refine want_none rfl ?_
        go_simp
        exact hK [.bool x.p.neg, .slice x.p.A x.p.n x.p.c, .bool x.l.neg, .slice x.l.A x.l.n x.l.c] rfl (by simp [Word]) ⟨x, rfl, hx⟩
    intro v17 gs hC hgl hbf
    obtain ⟨b19, rfl⟩ := list_1 hgl
    obtain ⟨⟨hg0, us0, hOb0, ⟨q, rfl, hq⟩⟩, _⟩ := hbf
    rintro _ rfl _ rfl _ ⟨y103, rfl, _⟩ _ ⟨y104, rfl, _⟩ _ ⟨y100, rfl, _⟩ _ ⟨y105, rfl, _⟩ _ rfl _ rfl _ _ _ rfl
    simp only [FinOK, Act.put, List.setIfInBounds_toArray, List.set_cons_zero, List.set_cons_succ]
    replace hTab := hTab.on hC
    replace ha := ha.on hC
    replace hA := hA.on hC
    replace hbb := hbb.on hC
    replace hBB := hBB.on hC
    replace hcc := hcc.on hC
    replace hCC := hCC.on hC
    replace hdd := hdd.on hC
    replace hDD := hDD.on hC
    replace hp := hp.on hC
    replace hP := hP.on hC
    replace b1 := Below.call b1 hC
    have hQ := hOb0
    clear hOb0
    clear hC
    go_wp2_with fail
    refine (pow_8190 _).mono ?_
    rintro e v18 ⟨z8, hz8, e0, rfl, k1_, he0⟩
    replace hTab := hTab.on k1_
    replace ha := ha.on k1_
    replace hA := hA.on k1_
    replace hbb := hbb.on k1_
    replace hBB := hBB.on k1_
    replace hcc := hcc.on k1_
    replace hCC := hCC.on k1_
    replace hdd := hdd.on k1_
    replace hDD := hDD.on k1_
    replace hp := hp.on k1_
    replace hP := hP.on k1_
    replace hq := hq.on k1_
    replace hQ := hQ.on k1_
    replace b1 := Below.call b1 k1_
    clear k1_
    go_wp2_with fail
    refine (rOf_any 3 _ (by omega) (by omega)).mono ?_
    rintro e v19 ⟨e1, rfl, k1_, he1⟩
    replace hTab := hTab.on k1_
    replace ha := ha.on k1_
    replace hA := hA.on k1_
    replace hbb := hbb.on k1_
    replace hBB := hBB.on k1_
    replace hcc := hcc.on k1_
    replace hCC := hCC.on k1_
    replace hdd := hdd.on k1_
    replace hDD := hDD.on k1_
    replace hp := hp.on k1_
    replace hP := hP.on k1_
    replace hq := hq.on k1_
    replace hQ := hQ.on k1_
    replace he0 := he0.on k1_
    replace b1 := Below.call b1 k1_
    clear k1_
    obtain ⟨hf_, hhf⟩ : ∃ hf_, Rat.divInt z8 3 = hf_ := ⟨_, rfl⟩
    have sh : SmR 640 hf_ := by rw [← hhf]; exact SmR.divInt hz8 (Sm.mono (j := 1) (by unfold Sm; decide) (by omega)) (by decide)
    have fh := sh.fit (by omega)
    have he1_ : makeR z8 3 = (hf_, 0) := by rw [← hhf]; exact if_neg (by decide)
    have HN4 : Hid (∀ (v : World), NI e0 v z8 → NI e1 v 3 → Calls Tryz.prog 65 #[.agg #[.bool e0.neg, .slice e0.A e0.n e0.c], .agg #[.bool e1.neg, .slice e1.A e1.n e1.c]] v (RetNRE v hf_ 0)) := Lib.hid fun v h1 h2 => by
      have := fMake_any h1 h2 (hz8.manyL h1 (by omega)) (mn_len h2 (small_top (by decide)))
      rwa [he1_] at this
    obtain ⟨mm, hmm⟩ : ∃ mm, mulR hf_ hf_ = mm := ⟨_, rfl⟩
    have HMm : Hid (∀ (f g : FV) (v : World), FR f v hf_ → FR g v hf_ → Calls Tryz.prog 78 #[.agg #[.bool f.p.neg, .slice f.p.A f.p.n f.p.c, .bool f.l.neg, .slice f.l.A f.l.n f.l.c], .agg #[.bool g.p.neg, .slice g.p.A g.p.n g.p.c, .bool g.l.neg, .slice g.l.A g.l.n g.l.c]] v (RetFRE v mm.1 mm.2)) := Lib.hid fun f g v h1 h2 => by rw [← hmm]; exact mulF h1 h2
    have HMw : Hid (∀ (f : FV) (v : World), NR f v hf_ → Calls Tryz.prog 79 #[.agg #[.bool f.p.neg, .slice f.p.A f.p.n f.p.c, .bool f.l.neg, .slice f.l.A f.l.n f.l.c], .agg #[.bool f.p.neg, .slice f.p.A f.p.n f.p.c, .bool f.l.neg, .slice f.l.A f.l.n f.l.c]] v (RetNRE v mm.1 mm.2)) := Lib.hid fun f v h1 => by rw [← hmm]; exact fMul_any h1 h1 (sh.mono (by omega)) (sh.mono (by omega))
    clear hhf he1_ hmm hz8
    go_wp2_with fail
    refine (HN4.out _ he0 he1).mono ?_
    rintro e v20 ⟨e, rfl, k1_, he⟩
    go_upto_region 14 with fail
    refine wp_new1 fun v21 hE k2_ => ?_
    obtain ⟨b21, e_⟩ : ∃ b21, b21 = v20.heap.size := ⟨_, rfl⟩
    rw [← e_] at hE ⊢
    clear e_
    have kk_ := Below.call k1_ k2_
    replace hTab := hTab.on kk_
    replace ha := ha.on kk_
    replace hA := hA.on kk_
    replace hbb := hbb.on kk_
    replace hBB := hBB.on kk_
    replace hcc := hcc.on kk_
    replace hCC := hCC.on kk_
    replace hdd := hdd.on kk_
    replace hDD := hDD.on kk_
    replace hp := hp.on kk_
    replace hP := hP.on kk_
    replace hq := hq.on kk_
    replace hQ := hQ.on kk_
    replace he0 := he0.on kk_
    replace he1 := he1.on kk_
    replace he := he.on k2_
    replace b1 := Below.call b1 kk_
    clear k1_ k2_ kk_
    clear he0 he1
    refine wp_region_boxes v21 [Spec.eq (.agg #[.bool e.p.neg, .slice e.p.A e.p.n e.p.c, .bool e.l.neg, .slice e.l.A e.l.n e.l.c]), sFR hf_, Spec.eq (.agg #[.bool e.p.neg, .slice e.p.A e.p.n e.p.c, .bool e.l.neg, .slice e.l.A e.l.n e.l.c]), sFR hf_, sFRE mm.1 mm.2, sFRE mm.1 mm.2, sFR mm.1, Spec.eq (.int .i64 mm.2), Spec.any, Spec.any, Spec.eq (.int .i64 mm.2)]
        [{ A := 8, j := 9, t := 23, T := 31, zs := [.bool false, .slice none 0 0, .bool false, .slice none 0 0], X := fun us w => ∃ x : FV, us = [.bool x.p.neg, .slice x.p.A x.p.n x.p.c, .bool x.l.neg, .slice x.l.A x.l.n x.l.c] ∧ FR x w mm.1, up := fun ⟨x, e, hx⟩ k => ⟨x, e, hx.keeps k⟩ }]
        (by kernel_rfl) (by kernel_rfl) rfl (by kernel_rfl) rfl (Below.drew (Below.refl _ _)) ?_ ?_ ⟨rfl, rfl, trivial⟩ ?_
    ·
      refine RegSteps.cons ?_ ?_
      · intro _ az wz hC hF hD _ K hK; have q21 : az.tmps[21]? = some (.pointer (some ⟨b21, 0, none⟩)) := hF 21 rfl; obtain ⟨l0, l1, l2, l3, _⟩ := (hE.on hC).all4; clear hF hD; refine want_none rfl ?_; go_simp; exact hK _ _ hC (Below.refl _ _) rfl
      refine RegSteps.cons ?_ ?_
      · intro _ az wz hC hF hD _ K hK; obtain ⟨_, q114, rfl⟩ := dep hD 0 rfl rfl rfl rfl; clear hF hD; refine want_none rfl ?_; go_simp; refine (of_any (he.on hC) fh).mono ?_; rintro e wy ⟨x, rfl, k, hx⟩; exact hK _ _ (Below.call hC k) k ⟨x, rfl, hx⟩
      refine RegSteps.cons ?_ ?_
      · intro _ az wz hC hF hD _ K hK; have q21 : az.tmps[21]? = some (.pointer (some ⟨b21, 0, none⟩)) := hF 21 rfl; obtain ⟨l0, l1, l2, l3, _⟩ := (hE.on hC).all4; clear hF hD; refine want_none rfl ?_; go_simp; exact hK _ _ hC (Below.refl _ _) rfl
      refine RegSteps.cons ?_ ?_
      · intro _ az wz hC hF hD _ K hK; obtain ⟨_, q116, rfl⟩ := dep hD 2 rfl rfl rfl rfl; clear hF hD; refine want_none rfl ?_; go_simp; refine (of_any (he.on hC) fh).mono ?_; rintro e wy ⟨x, rfl, k, hx⟩; exact hK _ _ (Below.call hC k) k ⟨x, rfl, hx⟩
      refine RegSteps.cons ?_ ?_
      · intro _ az wz hC hF hD _ K hK; obtain ⟨_, q115, x115, rfl, hx115⟩ := dep hD 1 rfl rfl rfl rfl; obtain ⟨_, q117, x117, rfl, hx117⟩ := dep hD 3 rfl rfl rfl rfl; clear hF hD; refine want_none rfl ?_; go_simp; refine (HMm.out _ _ _ hx115 hx117).mono ?_; rintro e wy ⟨x, rfl, k, hx⟩; exact hK _ _ (Below.call hC k) k ⟨x, rfl, hx⟩
      refine RegSteps.cons ?_ ?_
      · intro _ az wz hC hF hD _ K hK; obtain ⟨_, q118, x118, rfl, hx118⟩ := dep hD 4 rfl rfl rfl rfl; clear hF hD; refine want_none rfl ?_; go_simp; exact hK _ _ hC (Below.refl _ _) ⟨x118, rfl, hx118⟩
      refine RegSteps.cons ?_ ?_
      · intro _ az wz hC hF hD _ K hK; obtain ⟨_, q113, x113, rfl, hx113⟩ := dep hD 5 rfl rfl rfl rfl; clear hF hD; refine want_none rfl ?_; go_simp; exact hK _ _ hC (Below.refl _ _) ⟨x113, rfl, hx113⟩
      refine RegSteps.cons ?_ ?_
      · intro _ az wz hC hF hD _ K hK; obtain ⟨_, q113, x113, rfl, hx113⟩ := dep hD 5 rfl rfl rfl rfl; clear hF hD; refine want_none rfl ?_; go_simp; exact hK _ _ hC (Below.refl _ _) rfl
      refine RegSteps.cons ?_ ?_
      · exact fun h => by cases h
      refine RegSteps.cons ?_ ?_
      · exact fun h => by cases h
      refine RegSteps.cons ?_ ?_
      · intro _ az wz hC hF hD _ K hK; obtain ⟨_, q120, rfl⟩ := dep hD 7 rfl rfl rfl rfl; clear hF hD; refine want_none rfl ?_; go_simp; exact hK _ _ hC (Below.refl _ _) rfl
      exact RegSteps.nil
    · refine ⟨?_, trivial⟩
      · refine ⟨⟨_, rfl, rfl, rfl, fun az wz K hK => by go_simp; exact hK⟩, ⟨_, rfl, rfl, rfl, ?_⟩, by simp [Word], by simp⟩
        intro az wz gz cs hC hF hD hA K hK
        obtain ⟨p1, p2, p3, p4, p5⟩ := hA
        obtain ⟨_, q119, x, rfl, hx⟩ := dep hD 6 rfl rfl rfl rfl
        obtain ⟨c0, c1, c2, c3, rfl⟩ := list_4 (l := cs) p4
        have z0 := p3.c0
        have z1 := p3.c1
        have z2 := p3.c2
        have z3 := p3.c3
        have f0 := p3.frozen 0
        have f1 := p3.frozen 1
        have f2 := p3.frozen 2
        have f3 := p3.frozen 3
        clear hF hD p3 p5
        refine want_none rfl ?_
        go_simp
        exact hK [.bool x.p.neg, .slice x.p.A x.p.n x.p.c, .bool x.l.neg, .slice x.l.A x.l.n x.l.c] rfl (by simp [Word]) ⟨x, rfl, hx⟩
    intro v22 gs hC hgl hbf
    obtain ⟨b23, rfl⟩ := list_1 hgl
    obtain ⟨⟨hg0, us0, hOb0, ⟨r, rfl, hr⟩⟩, _⟩ := hbf
    rintro _ rfl _ ⟨y115, rfl, _⟩ _ rfl _ ⟨y117, rfl, _⟩ _ ⟨y118, rfl, _⟩ _ ⟨y113, rfl, _⟩ _ ⟨y119, rfl, _⟩ _ rfl _ rfl _ _ _ rfl
    simp only [FinOK, Act.put, List.setIfInBounds_toArray, List.set_cons_zero, List.set_cons_succ]
    replace hTab := hTab.on hC
    replace ha := ha.on hC
    replace hA := hA.on hC
    replace hbb := hbb.on hC
    replace hBB := hBB.on hC
    replace hcc := hcc.on hC
    replace hCC := hCC.on hC
    replace hdd := hdd.on hC
    replace hDD := hDD.on hC
    replace hp := hp.on hC
    replace hP := hP.on hC
    replace hq := hq.on hC
    replace hQ := hQ.on hC
    replace he := he.on hC
    replace hE := hE.on hC
    replace b1 := Below.call b1 hC
    have hR := hOb0
    clear hOb0
    clear hC
    obtain ⟨c0_0, c0_1, c0_2, c0_3, _⟩ := hE.all4
    go_wp2_with fail
    refine (HMw.out _ _ he).mono ?_
    rintro e v23 ⟨s, rfl, k1_, hs⟩
    clear c0_0 c0_1 c0_2 c0_3
    go_upto_region 16 with fail
    refine wp_new1 fun v24 hS k2_ => ?_
    obtain ⟨b25, e_⟩ : ∃ b25, b25 = v23.heap.size := ⟨_, rfl⟩
    rw [← e_] at hS ⊢
    clear e_
    have kk_ := Below.call k1_ k2_
    replace hTab := hTab.on kk_
    replace ha := ha.on kk_
    replace hA := hA.on kk_
    replace hbb := hbb.on kk_
    replace hBB := hBB.on kk_
    replace hcc := hcc.on kk_
    replace hCC := hCC.on kk_
    replace hdd := hdd.on kk_
    replace hDD := hDD.on kk_
    replace hp := hp.on kk_
    replace hP := hP.on kk_
    replace hq := hq.on kk_
    replace hQ := hQ.on kk_
    replace he := he.on kk_
    replace hE := hE.on kk_
    replace hr := hr.on kk_
    replace hR := hR.on kk_
    replace hs := hs.on k2_
    replace b1 := Below.call b1 kk_
    clear k1_ k2_ kk_
    clear he hE
    have smm := hr.fit.sm
    obtain ⟨mt, hmt⟩ : ∃ mt, mulR mm.1 (k : Rat) = mt := ⟨_, rfl⟩
    have HMu : Hid (∀ (g : FV) (v : World), FR r v mm.1 → FR g v (k : Rat) → Calls Tryz.prog 78 #[.agg #[.bool r.p.neg, .slice r.p.A r.p.n r.p.c, .bool r.l.neg, .slice r.l.A r.l.n r.l.c], .agg #[.bool g.p.neg, .slice g.p.A g.p.n g.p.c, .bool g.l.neg, .slice g.l.A g.l.n g.l.c]] v (RetFRE v mt.1 mt.2)) := Lib.hid fun g v h1 h2 => by rw [← hmt]; exact mulF h1 h2
    have HMv : Hid (∀ (g : FV) (v : World), NR s v mm.1 → NR g v (k : Rat) → Calls Tryz.prog 79 #[.agg #[.bool s.p.neg, .slice s.p.A s.p.n s.p.c, .bool s.l.neg, .slice s.l.A s.l.n s.l.c], .agg #[.bool g.p.neg, .slice g.p.A g.p.n g.p.c, .bool g.l.neg, .slice g.l.A g.l.n g.l.c]] v (RetNRE v mt.1 mt.2)) := Lib.hid fun g v h1 h2 => by rw [← hmt]; exact fMul_any h1 h2 smm sk
    clear hmt
    refine wp_region_boxes v24 [Spec.eq (.agg #[.bool r.p.neg, .slice r.p.A r.p.n r.p.c, .bool r.l.neg, .slice r.l.A r.l.n r.l.c]), Spec.eq (.int .i64 k), sFR (k : Rat), sFRE mt.1 mt.2, sFRE mt.1 mt.2, sFR mt.1, Spec.eq (.int .i64 mt.2), Spec.any, Spec.any, Spec.eq (.int .i64 mt.2)]
        [{ A := 7, j := 8, t := 27, T := 31, zs := [.bool false, .slice none 0 0, .bool false, .slice none 0 0], X := fun us w => ∃ x : FV, us = [.bool x.p.neg, .slice x.p.A x.p.n x.p.c, .bool x.l.neg, .slice x.l.A x.l.n x.l.c] ∧ FR x w mt.1, up := fun ⟨x, e, hx⟩ k => ⟨x, e, hx.keeps k⟩ }]
        (by kernel_rfl) (by kernel_rfl) rfl (by kernel_rfl) rfl (Below.drew (Below.refl _ _)) ?_ ?_ ⟨rfl, rfl, trivial⟩ ?_
    ·
      refine RegSteps.cons ?_ ?_
      · intro _ az wz hC hF hD _ K hK; have q23 : az.tmps[23]? = some (.pointer (some ⟨b23, 0, none⟩)) := hF 23 rfl; obtain ⟨l0, l1, l2, l3, _⟩ := (hR.on hC).all4; clear hF hD; refine want_none rfl ?_; go_simp; exact hK _ _ hC (Below.refl _ _) rfl
      refine RegSteps.cons ?_ ?_
      · intro _ az wz hC hF hD _ K hK; have q16 : az.tmps[16]? = some (.int .i64 k) := hF 16 rfl; clear hF hD; refine want_none rfl ?_; go_simp; exact hK _ _ hC (Below.refl _ _) rfl
      refine RegSteps.cons ?_ ?_
      · intro _ az wz hC hF hD _ K hK; obtain ⟨_, q129, rfl⟩ := dep hD 1 rfl rfl rfl rfl; clear hF hD; refine want_none rfl ?_; go_simp; refine (whole_any k _ hk64).mono ?_; rintro e wy ⟨x, rfl, k, hx⟩; exact hK _ _ (Below.call hC k) k ⟨x, rfl, hx⟩
      refine RegSteps.cons ?_ ?_
      · intro _ az wz hC hF hD _ K hK; obtain ⟨_, q128, rfl⟩ := dep hD 0 rfl rfl rfl rfl; obtain ⟨_, q130, x130, rfl, hx130⟩ := dep hD 2 rfl rfl rfl rfl; clear hF hD; refine want_none rfl ?_; go_simp; refine (HMu.out _ _ (hr.on hC) hx130).mono ?_; rintro e wy ⟨x, rfl, k, hx⟩; exact hK _ _ (Below.call hC k) k ⟨x, rfl, hx⟩
      refine RegSteps.cons ?_ ?_
      · intro _ az wz hC hF hD _ K hK; obtain ⟨_, q131, x131, rfl, hx131⟩ := dep hD 3 rfl rfl rfl rfl; clear hF hD; refine want_none rfl ?_; go_simp; exact hK _ _ hC (Below.refl _ _) ⟨x131, rfl, hx131⟩
      refine RegSteps.cons ?_ ?_
      · intro _ az wz hC hF hD _ K hK; obtain ⟨_, q127, x127, rfl, hx127⟩ := dep hD 4 rfl rfl rfl rfl; clear hF hD; refine want_none rfl ?_; go_simp; exact hK _ _ hC (Below.refl _ _) ⟨x127, rfl, hx127⟩
      refine RegSteps.cons ?_ ?_
      · intro _ az wz hC hF hD _ K hK; obtain ⟨_, q127, x127, rfl, hx127⟩ := dep hD 4 rfl rfl rfl rfl; clear hF hD; refine want_none rfl ?_; go_simp; exact hK _ _ hC (Below.refl _ _) rfl
      refine RegSteps.cons ?_ ?_
      · exact fun h => by cases h
      refine RegSteps.cons ?_ ?_
      · exact fun h => by cases h
      refine RegSteps.cons ?_ ?_
      · intro _ az wz hC hF hD _ K hK; obtain ⟨_, q133, rfl⟩ := dep hD 6 rfl rfl rfl rfl; clear hF hD; refine want_none rfl ?_; go_simp; exact hK _ _ hC (Below.refl _ _) rfl
      exact RegSteps.nil
    · refine ⟨?_, trivial⟩
      · refine ⟨⟨_, rfl, rfl, rfl, fun az wz K hK => by go_simp; exact hK⟩, ⟨_, rfl, rfl, rfl, ?_⟩, by simp [Word], by simp⟩
        intro az wz gz cs hC hF hD hA K hK
        obtain ⟨p1, p2, p3, p4, p5⟩ := hA
        obtain ⟨_, q132, x, rfl, hx⟩ := dep hD 5 rfl rfl rfl rfl
        obtain ⟨c0, c1, c2, c3, rfl⟩ := list_4 (l := cs) p4
        have z0 := p3.c0
        have z1 := p3.c1
        have z2 := p3.c2
        have z3 := p3.c3
        have f0 := p3.frozen 0
        have f1 := p3.frozen 1
        have f2 := p3.frozen 2
        have f3 := p3.frozen 3
        clear hF hD p3 p5
        refine want_none rfl ?_
        go_simp
        exact hK [.bool x.p.neg, .slice x.p.A x.p.n x.p.c, .bool x.l.neg, .slice x.l.A x.l.n x.l.c] rfl (by simp [Word]) ⟨x, rfl, hx⟩
    intro v25 gs hC hgl hbf
    obtain ⟨b27, rfl⟩ := list_1 hgl
    obtain ⟨⟨hg0, us0, hOb0, ⟨t, rfl, ht⟩⟩, _⟩ := hbf
    rintro _ rfl _ rfl _ ⟨y130, rfl, _⟩ _ ⟨y131, rfl, _⟩ _ ⟨y127, rfl, _⟩ _ ⟨y132, rfl, _⟩ _ rfl _ rfl _ _ _ rfl
    simp only [FinOK, Act.put, List.setIfInBounds_toArray, List.set_cons_zero, List.set_cons_succ]
    replace hTab := hTab.on hC
    replace ha := ha.on hC
    replace hA := hA.on hC
    replace hbb := hbb.on hC
    replace hBB := hBB.on hC
    replace hcc := hcc.on hC
    replace hCC := hCC.on hC
    replace hdd := hdd.on hC
    replace hDD := hDD.on hC
    replace hp := hp.on hC
    replace hP := hP.on hC
    replace hq := hq.on hC
    replace hQ := hQ.on hC
    replace hr := hr.on hC
    replace hR := hR.on hC
    replace hs := hs.on hC
    replace hS := hS.on hC
    replace b1 := Below.call b1 hC
    have hT := hOb0
    clear hOb0
    clear hC
    go_wp2_with fail
    refine wp_region_boxes v25 [Spec.eq (.agg #[.bool s.p.neg, .slice s.p.A s.p.n s.p.c, .bool s.l.neg, .slice s.l.A s.l.n s.l.c]), Spec.eq (.int .i64 k), sNR (k : Rat), sNRE mt.1 mt.2, sNRE mt.1 mt.2, sNR mt.1, Spec.eq (.int .i64 mt.2), Spec.any, Spec.any, Spec.eq (.int .i64 mt.2)]
        [{ A := 7, j := 8, t := 29, T := 89, zs := [.bool false, .slice none 0 0, .bool false, .slice none 0 0], X := fun us w => ∃ x : FV, us = [.bool x.p.neg, .slice x.p.A x.p.n x.p.c, .bool x.l.neg, .slice x.l.A x.l.n x.l.c] ∧ NR x w mt.1, up := fun ⟨x, e, hx⟩ k => ⟨x, e, hx.keeps k⟩ }]
        (by kernel_rfl) (by kernel_rfl) rfl (by kernel_rfl) rfl (Below.drew (Below.refl _ _)) ?_ ?_ ⟨rfl, rfl, trivial⟩ ?_
    ·
      refine RegSteps.cons ?_ ?_
      · intro _ az wz hC hF hD _ K hK; have q25 : az.tmps[25]? = some (.pointer (some ⟨b25, 0, none⟩)) := hF 25 rfl; obtain ⟨l0, l1, l2, l3, _⟩ := (hS.on hC).all4; clear hF hD; refine want_none rfl ?_; go_simp; exact hK _ _ hC (Below.refl _ _) rfl
      refine RegSteps.cons ?_ ?_
      · intro _ az wz hC hF hD _ K hK; have q16 : az.tmps[16]? = some (.int .i64 k) := hF 16 rfl; clear hF hD; refine want_none rfl ?_; go_simp; exact hK _ _ hC (Below.refl _ _) rfl
      refine RegSteps.cons ?_ ?_
      · intro _ az wz hC hF hD _ K hK; obtain ⟨_, q136, rfl⟩ := dep hD 1 rfl rfl rfl rfl; clear hF hD; refine want_none rfl ?_; go_simp; refine (fOf_any k _ hk64).mono ?_; rintro e wy ⟨x, rfl, k, hx⟩; exact hK _ _ (Below.call hC k) k ⟨x, rfl, hx⟩
      refine RegSteps.cons ?_ ?_
      · intro _ az wz hC hF hD _ K hK; obtain ⟨_, q135, rfl⟩ := dep hD 0 rfl rfl rfl rfl; obtain ⟨_, q137, x137, rfl, hx137⟩ := dep hD 2 rfl rfl rfl rfl; clear hF hD; refine want_none rfl ?_; go_simp; refine (HMv.out _ _ (hs.on hC) hx137).mono ?_; rintro e wy ⟨x, rfl, k, hx⟩; exact hK _ _ (Below.call hC k) k ⟨x, rfl, hx⟩
      refine RegSteps.cons ?_ ?_
      · intro _ az wz hC hF hD _ K hK; obtain ⟨_, q138, x138, rfl, hx138⟩ := dep hD 3 rfl rfl rfl rfl; clear hF hD; refine want_none rfl ?_; go_simp; exact hK _ _ hC (Below.refl _ _) ⟨x138, rfl, hx138⟩
      refine RegSteps.cons ?_ ?_
      · intro _ az wz hC hF hD _ K hK; obtain ⟨_, q134, x134, rfl, hx134⟩ := dep hD 4 rfl rfl rfl rfl; clear hF hD; refine want_none rfl ?_; go_simp; exact hK _ _ hC (Below.refl _ _) ⟨x134, rfl, hx134⟩
      refine RegSteps.cons ?_ ?_
      · intro _ az wz hC hF hD _ K hK; obtain ⟨_, q134, x134, rfl, hx134⟩ := dep hD 4 rfl rfl rfl rfl; clear hF hD; refine want_none rfl ?_; go_simp; exact hK _ _ hC (Below.refl _ _) rfl
      refine RegSteps.cons ?_ ?_
      · exact fun h => by cases h
      refine RegSteps.cons ?_ ?_
      · exact fun h => by cases h
      refine RegSteps.cons ?_ ?_
      · intro _ az wz hC hF hD _ K hK; obtain ⟨_, q140, rfl⟩ := dep hD 6 rfl rfl rfl rfl; clear hF hD; refine want_none rfl ?_; go_simp; exact hK _ _ hC (Below.refl _ _) rfl
      exact RegSteps.nil
    · refine ⟨?_, trivial⟩
      · refine ⟨⟨_, rfl, rfl, rfl, fun az wz K hK => by go_simp; exact hK⟩, ⟨_, rfl, rfl, rfl, ?_⟩, by simp [Word], by simp⟩
        intro az wz gz cs hC hF hD hA K hK
        obtain ⟨p1, p2, p3, p4, p5⟩ := hA
        obtain ⟨_, q139, x, rfl, hx⟩ := dep hD 5 rfl rfl rfl rfl
        obtain ⟨c0, c1, c2, c3, rfl⟩ := list_4 (l := cs) p4
        have z0 := p3.c0
        have z1 := p3.c1
        have z2 := p3.c2
        have z3 := p3.c3
        have f0 := p3.frozen 0
        have f1 := p3.frozen 1
        have f2 := p3.frozen 2
        have f3 := p3.frozen 3
        clear hF hD p3 p5
        refine want_none rfl ?_
        go_simp
        exact hK [.bool x.p.neg, .slice x.p.A x.p.n x.p.c, .bool x.l.neg, .slice x.l.A x.l.n x.l.c] rfl (by simp [Word]) ⟨x, rfl, hx⟩
    intro v26 gs hC hgl hbf
    obtain ⟨b29, rfl⟩ := list_1 hgl
    obtain ⟨⟨hg0, us0, hOb0, ⟨y, rfl, hy⟩⟩, _⟩ := hbf
    rintro _ rfl _ rfl _ ⟨y137, rfl, _⟩ _ ⟨y138, rfl, _⟩ _ ⟨y134, rfl, _⟩ _ ⟨y139, rfl, _⟩ _ rfl _ rfl _ _ _ rfl
    simp only [FinOK, Act.put, List.setIfInBounds_toArray, List.set_cons_zero, List.set_cons_succ]
    replace hTab := hTab.on hC
    replace ha := ha.on hC
    replace hA := hA.on hC
    replace hbb := hbb.on hC
    replace hBB := hBB.on hC
    replace hcc := hcc.on hC
    replace hCC := hCC.on hC
    replace hdd := hdd.on hC
    replace hDD := hDD.on hC
    replace hp := hp.on hC
    replace hP := hP.on hC
    replace hq := hq.on hC
    replace hQ := hQ.on hC
    replace hr := hr.on hC
    replace hR := hR.on hC
    replace hs := hs.on hC
    replace hS := hS.on hC
    replace ht := ht.on hC
    replace hT := hT.on hC
    replace b1 := Below.call b1 hC
    have hY := hOb0
    clear hOb0
    clear hC
    go_wp2_with fail
    refine wp_region_boxes v26 [Spec.eq (.agg #[.bool cc.p.neg, .slice cc.p.A cc.p.n cc.p.c, .bool cc.l.neg, .slice cc.l.A cc.l.n cc.l.c]), Spec.eq (.int .i64 k), sFR (k : Rat), sFRE md.1 md.2, sFRE md.1 md.2, sFR md.1, Spec.eq (.int .i64 md.2), Spec.any, Spec.any, Spec.eq (.int .i64 md.2)]
        [{ A := 7, j := 8, t := 31, T := 31, zs := [.bool false, .slice none 0 0, .bool false, .slice none 0 0], X := fun us w => ∃ x : FV, us = [.bool x.p.neg, .slice x.p.A x.p.n x.p.c, .bool x.l.neg, .slice x.l.A x.l.n x.l.c] ∧ FR x w md.1, up := fun ⟨x, e, hx⟩ k => ⟨x, e, hx.keeps k⟩ }]
        (by kernel_rfl) (by kernel_rfl) rfl (by kernel_rfl) rfl (Below.drew (Below.refl _ _)) ?_ ?_ ⟨rfl, rfl, trivial⟩ ?_
    ·
      refine RegSteps.cons ?_ ?_
      · intro _ az wz hC hF hD _ K hK; have q12 : az.tmps[12]? = some (.pointer (some ⟨b12, 0, none⟩)) := hF 12 rfl; obtain ⟨l0, l1, l2, l3, _⟩ := (hCC.on hC).all4; clear hF hD; refine want_none rfl ?_; go_simp; exact hK _ _ hC (Below.refl _ _) rfl
      refine RegSteps.cons ?_ ?_
      · intro _ az wz hC hF hD _ K hK; have q16 : az.tmps[16]? = some (.int .i64 k) := hF 16 rfl; clear hF hD; refine want_none rfl ?_; go_simp; exact hK _ _ hC (Below.refl _ _) rfl
      refine RegSteps.cons ?_ ?_
      · intro _ az wz hC hF hD _ K hK; obtain ⟨_, q143, rfl⟩ := dep hD 1 rfl rfl rfl rfl; clear hF hD; refine want_none rfl ?_; go_simp; refine (whole_any k _ hk64).mono ?_; rintro e wy ⟨x, rfl, k, hx⟩; exact hK _ _ (Below.call hC k) k ⟨x, rfl, hx⟩
      refine RegSteps.cons ?_ ?_
      · intro _ az wz hC hF hD _ K hK; obtain ⟨_, q142, rfl⟩ := dep hD 0 rfl rfl rfl rfl; obtain ⟨_, q144, x144, rfl, hx144⟩ := dep hD 2 rfl rfl rfl rfl; clear hF hD; refine want_none rfl ?_; go_simp; refine (HDu.out _ _ (hcc.on hC) hx144).mono ?_; rintro e wy ⟨x, rfl, k, hx⟩; exact hK _ _ (Below.call hC k) k ⟨x, rfl, hx⟩
      refine RegSteps.cons ?_ ?_
      · intro _ az wz hC hF hD _ K hK; obtain ⟨_, q145, x145, rfl, hx145⟩ := dep hD 3 rfl rfl rfl rfl; clear hF hD; refine want_none rfl ?_; go_simp; exact hK _ _ hC (Below.refl _ _) ⟨x145, rfl, hx145⟩
      refine RegSteps.cons ?_ ?_
      · intro _ az wz hC hF hD _ K hK; obtain ⟨_, q141, x141, rfl, hx141⟩ := dep hD 4 rfl rfl rfl rfl; clear hF hD; refine want_none rfl ?_; go_simp; exact hK _ _ hC (Below.refl _ _) ⟨x141, rfl, hx141⟩
      refine RegSteps.cons ?_ ?_
      · intro _ az wz hC hF hD _ K hK; obtain ⟨_, q141, x141, rfl, hx141⟩ := dep hD 4 rfl rfl rfl rfl; clear hF hD; refine want_none rfl ?_; go_simp; exact hK _ _ hC (Below.refl _ _) rfl
      refine RegSteps.cons ?_ ?_
      · exact fun h => by cases h
      refine RegSteps.cons ?_ ?_
      · exact fun h => by cases h
      refine RegSteps.cons ?_ ?_
      · intro _ az wz hC hF hD _ K hK; obtain ⟨_, q147, rfl⟩ := dep hD 6 rfl rfl rfl rfl; clear hF hD; refine want_none rfl ?_; go_simp; exact hK _ _ hC (Below.refl _ _) rfl
      exact RegSteps.nil
    · refine ⟨?_, trivial⟩
      · refine ⟨⟨_, rfl, rfl, rfl, fun az wz K hK => by go_simp; exact hK⟩, ⟨_, rfl, rfl, rfl, ?_⟩, by simp [Word], by simp⟩
        intro az wz gz cs hC hF hD hA K hK
        obtain ⟨p1, p2, p3, p4, p5⟩ := hA
        obtain ⟨_, q146, x, rfl, hx⟩ := dep hD 5 rfl rfl rfl rfl
        obtain ⟨c0, c1, c2, c3, rfl⟩ := list_4 (l := cs) p4
        have z0 := p3.c0
        have z1 := p3.c1
        have z2 := p3.c2
        have z3 := p3.c3
        have f0 := p3.frozen 0
        have f1 := p3.frozen 1
        have f2 := p3.frozen 2
        have f3 := p3.frozen 3
        clear hF hD p3 p5
        refine want_none rfl ?_
        go_simp
        exact hK [.bool x.p.neg, .slice x.p.A x.p.n x.p.c, .bool x.l.neg, .slice x.l.A x.l.n x.l.c] rfl (by simp [Word]) ⟨x, rfl, hx⟩
    intro v27 gs hC hgl hbf
    obtain ⟨b31, rfl⟩ := list_1 hgl
    obtain ⟨⟨hg0, us0, hOb0, ⟨v, rfl, hv⟩⟩, _⟩ := hbf
    rintro _ rfl _ rfl _ ⟨y144, rfl, _⟩ _ ⟨y145, rfl, _⟩ _ ⟨y141, rfl, _⟩ _ ⟨y146, rfl, _⟩ _ rfl _ rfl _ _ _ rfl
    simp only [FinOK, Act.put, List.setIfInBounds_toArray, List.set_cons_zero, List.set_cons_succ]
    replace hTab := hTab.on hC
    replace ha := ha.on hC
    replace hA := hA.on hC
    replace hbb := hbb.on hC
    replace hBB := hBB.on hC
    replace hcc := hcc.on hC
    replace hCC := hCC.on hC
    replace hdd := hdd.on hC
    replace hDD := hDD.on hC
    replace hp := hp.on hC
    replace hP := hP.on hC
    replace hq := hq.on hC
    replace hQ := hQ.on hC
    replace hr := hr.on hC
    replace hR := hR.on hC
    replace hs := hs.on hC
    replace hS := hS.on hC
    replace ht := ht.on hC
    replace hT := hT.on hC
    replace hy := hy.on hC
    replace hY := hY.on hC
    replace b1 := Below.call b1 hC
    have hV := hOb0
    clear hOb0
    clear hC
    go_wp2_with fail
    refine wp_region_boxes v27 [Spec.eq (.agg #[.bool dd.p.neg, .slice dd.p.A dd.p.n dd.p.c, .bool dd.l.neg, .slice dd.l.A dd.l.n dd.l.c]), Spec.eq (.int .i64 k), sNR (k : Rat), sNRE md.1 md.2, sNRE md.1 md.2, sNR md.1, Spec.eq (.int .i64 md.2), Spec.any, Spec.any, Spec.eq (.int .i64 md.2)]
        [{ A := 7, j := 8, t := 33, T := 89, zs := [.bool false, .slice none 0 0, .bool false, .slice none 0 0], X := fun us w => ∃ x : FV, us = [.bool x.p.neg, .slice x.p.A x.p.n x.p.c, .bool x.l.neg, .slice x.l.A x.l.n x.l.c] ∧ NR x w md.1, up := fun ⟨x, e, hx⟩ k => ⟨x, e, hx.keeps k⟩ }]
        (by kernel_rfl) (by kernel_rfl) rfl (by kernel_rfl) rfl (Below.drew (Below.refl _ _)) ?_ ?_ ⟨rfl, rfl, trivial⟩ ?_
    ·
      refine RegSteps.cons ?_ ?_
      · intro _ az wz hC hF hD _ K hK; have q14 : az.tmps[14]? = some (.pointer (some ⟨b14, 0, none⟩)) := hF 14 rfl; obtain ⟨l0, l1, l2, l3, _⟩ := (hDD.on hC).all4; clear hF hD; refine want_none rfl ?_; go_simp; exact hK _ _ hC (Below.refl _ _) rfl
      refine RegSteps.cons ?_ ?_
      · intro _ az wz hC hF hD _ K hK; have q16 : az.tmps[16]? = some (.int .i64 k) := hF 16 rfl; clear hF hD; refine want_none rfl ?_; go_simp; exact hK _ _ hC (Below.refl _ _) rfl
      refine RegSteps.cons ?_ ?_
      · intro _ az wz hC hF hD _ K hK; obtain ⟨_, q150, rfl⟩ := dep hD 1 rfl rfl rfl rfl; clear hF hD; refine want_none rfl ?_; go_simp; refine (fOf_any k _ hk64).mono ?_; rintro e wy ⟨x, rfl, k, hx⟩; exact hK _ _ (Below.call hC k) k ⟨x, rfl, hx⟩
      refine RegSteps.cons ?_ ?_
      · intro _ az wz hC hF hD _ K hK; obtain ⟨_, q149, rfl⟩ := dep hD 0 rfl rfl rfl rfl; obtain ⟨_, q151, x151, rfl, hx151⟩ := dep hD 2 rfl rfl rfl rfl; clear hF hD; refine want_none rfl ?_; go_simp; refine (HDv.out _ _ (hdd.on hC) hx151).mono ?_; rintro e wy ⟨x, rfl, k, hx⟩; exact hK _ _ (Below.call hC k) k ⟨x, rfl, hx⟩
      refine RegSteps.cons ?_ ?_
      · intro _ az wz hC hF hD _ K hK; obtain ⟨_, q152, x152, rfl, hx152⟩ := dep hD 3 rfl rfl rfl rfl; clear hF hD; refine want_none rfl ?_; go_simp; exact hK _ _ hC (Below.refl _ _) ⟨x152, rfl, hx152⟩
      refine RegSteps.cons ?_ ?_
      · intro _ az wz hC hF hD _ K hK; obtain ⟨_, q148, x148, rfl, hx148⟩ := dep hD 4 rfl rfl rfl rfl; clear hF hD; refine want_none rfl ?_; go_simp; exact hK _ _ hC (Below.refl _ _) ⟨x148, rfl, hx148⟩
      refine RegSteps.cons ?_ ?_
      · intro _ az wz hC hF hD _ K hK; obtain ⟨_, q148, x148, rfl, hx148⟩ := dep hD 4 rfl rfl rfl rfl; clear hF hD; refine want_none rfl ?_; go_simp; exact hK _ _ hC (Below.refl _ _) rfl
      refine RegSteps.cons ?_ ?_
      · exact fun h => by cases h
      refine RegSteps.cons ?_ ?_
      · exact fun h => by cases h
      refine RegSteps.cons ?_ ?_
      · intro _ az wz hC hF hD _ K hK; obtain ⟨_, q154, rfl⟩ := dep hD 6 rfl rfl rfl rfl; clear hF hD; refine want_none rfl ?_; go_simp; exact hK _ _ hC (Below.refl _ _) rfl
      exact RegSteps.nil
    · refine ⟨?_, trivial⟩
      · refine ⟨⟨_, rfl, rfl, rfl, fun az wz K hK => by go_simp; exact hK⟩, ⟨_, rfl, rfl, rfl, ?_⟩, by simp [Word], by simp⟩
        intro az wz gz cs hC hF hD hA K hK
        obtain ⟨p1, p2, p3, p4, p5⟩ := hA
        obtain ⟨_, q153, x, rfl, hx⟩ := dep hD 5 rfl rfl rfl rfl
        obtain ⟨c0, c1, c2, c3, rfl⟩ := list_4 (l := cs) p4
        have z0 := p3.c0
        have z1 := p3.c1
        have z2 := p3.c2
        have z3 := p3.c3
        have f0 := p3.frozen 0
        have f1 := p3.frozen 1
        have f2 := p3.frozen 2
        have f3 := p3.frozen 3
        clear hF hD p3 p5
        refine want_none rfl ?_
        go_simp
        exact hK [.bool x.p.neg, .slice x.p.A x.p.n x.p.c, .bool x.l.neg, .slice x.l.A x.l.n x.l.c] rfl (by simp [Word]) ⟨x, rfl, hx⟩
    intro v28 gs hC hgl hbf
    obtain ⟨b33, rfl⟩ := list_1 hgl
    obtain ⟨⟨hg0, us0, hOb0, ⟨l, rfl, hl⟩⟩, _⟩ := hbf
    rintro _ rfl _ rfl _ ⟨y151, rfl, _⟩ _ ⟨y152, rfl, _⟩ _ ⟨y148, rfl, _⟩ _ ⟨y153, rfl, _⟩ _ rfl _ rfl _ _ _ rfl
    simp only [FinOK, Act.put, List.setIfInBounds_toArray, List.set_cons_zero, List.set_cons_succ]
    replace hTab := hTab.on hC
    replace ha := ha.on hC
    replace hA := hA.on hC
    replace hbb := hbb.on hC
    replace hBB := hBB.on hC
    replace hcc := hcc.on hC
    replace hCC := hCC.on hC
    replace hdd := hdd.on hC
    replace hDD := hDD.on hC
    replace hp := hp.on hC
    replace hP := hP.on hC
    replace hq := hq.on hC
    replace hQ := hQ.on hC
    replace hr := hr.on hC
    replace hR := hR.on hC
    replace hs := hs.on hC
    replace hS := hS.on hC
    replace ht := ht.on hC
    replace hT := hT.on hC
    replace hy := hy.on hC
    replace hY := hY.on hC
    replace hv := hv.on hC
    replace hV := hV.on hC
    replace b1 := Below.call b1 hC
    have hL := hOb0
    clear hOb0
    clear hC
    clear ha hA hbb hBB hcc hCC hdd hDD
    obtain ⟨c0_0, c0_1, c0_2, c0_3, _⟩ := hP.all4
    obtain ⟨c1_0, c1_1, c1_2, c1_3, _⟩ := hQ.all4
    go_wp2_with fail
    refine (same_any hp hq hTab).mono ?_
    rintro e v29 ⟨rfl, k1_⟩
    clear c0_0 c0_1 c0_2 c0_3 c1_0 c1_1 c1_2 c1_3
    replace hTab := hTab.on k1_
    replace hp := hp.on k1_
    replace hP := hP.on k1_
    replace hq := hq.on k1_
    replace hQ := hQ.on k1_
    replace hr := hr.on k1_
    replace hR := hR.on k1_
    replace hs := hs.on k1_
    replace hS := hS.on k1_
    replace ht := ht.on k1_
    replace hT := hT.on k1_
    replace hy := hy.on k1_
    replace hY := hY.on k1_
    replace hv := hv.on k1_
    replace hV := hV.on k1_
    replace hl := hl.on k1_
    replace hL := hL.on k1_
    replace b1 := Below.call b1 k1_
    clear k1_
    obtain ⟨c0_0, c0_1, c0_2, c0_3, _⟩ := hR.all4
    obtain ⟨c1_0, c1_1, c1_2, c1_3, _⟩ := hS.all4
    go_wp2_with fail
    refine (same_any hr hs hTab).mono ?_
    rintro e v30 ⟨rfl, k1_⟩
    clear c0_0 c0_1 c0_2 c0_3 c1_0 c1_1 c1_2 c1_3
    replace hTab := hTab.on k1_
    replace hp := hp.on k1_
    replace hP := hP.on k1_
    replace hq := hq.on k1_
    replace hQ := hQ.on k1_
    replace hr := hr.on k1_
    replace hR := hR.on k1_
    replace hs := hs.on k1_
    replace hS := hS.on k1_
    replace ht := ht.on k1_
    replace hT := hT.on k1_
    replace hy := hy.on k1_
    replace hY := hY.on k1_
    replace hv := hv.on k1_
    replace hV := hV.on k1_
    replace hl := hl.on k1_
    replace hL := hL.on k1_
    replace b1 := Below.call b1 k1_
    clear k1_
    obtain ⟨c0_0, c0_1, c0_2, c0_3, _⟩ := hT.all4
    obtain ⟨c1_0, c1_1, c1_2, c1_3, _⟩ := hY.all4
    go_wp2_with fail
    refine (same_any ht hy hTab).mono ?_
    rintro e v31 ⟨rfl, k1_⟩
    clear c0_0 c0_1 c0_2 c0_3 c1_0 c1_1 c1_2 c1_3
    replace hTab := hTab.on k1_
    replace hp := hp.on k1_
    replace hP := hP.on k1_
    replace hq := hq.on k1_
    replace hQ := hQ.on k1_
    replace hr := hr.on k1_
    replace hR := hR.on k1_
    replace hs := hs.on k1_
    replace hS := hS.on k1_
    replace ht := ht.on k1_
    replace hT := hT.on k1_
    replace hy := hy.on k1_
    replace hY := hY.on k1_
    replace hv := hv.on k1_
    replace hV := hV.on k1_
    replace hl := hl.on k1_
    replace hL := hL.on k1_
    replace b1 := Below.call b1 k1_
    clear k1_
    obtain ⟨c0_0, c0_1, c0_2, c0_3, _⟩ := hV.all4
    obtain ⟨c1_0, c1_1, c1_2, c1_3, _⟩ := hL.all4
    go_wp2_with fail
    refine (same_any hv hl hTab).mono ?_
    rintro e v32 ⟨rfl, k1_⟩
    clear c0_0 c0_1 c0_2 c0_3 c1_0 c1_1 c1_2 c1_3
    replace hTab := hTab.on k1_
    replace hp := hp.on k1_
    replace hP := hP.on k1_
    replace hq := hq.on k1_
    replace hQ := hQ.on k1_
    replace hr := hr.on k1_
    replace hR := hR.on k1_
    replace hs := hs.on k1_
    replace hS := hS.on k1_
    replace ht := ht.on k1_
    replace hT := hT.on k1_
    replace hy := hy.on k1_
    replace hY := hY.on k1_
    replace hv := hv.on k1_
    replace hV := hV.on k1_
    replace hl := hl.on k1_
    replace hL := hL.on k1_
    replace b1 := Below.call b1 k1_
    clear k1_
    go_wp2_with fail
    refine (lives4_any _ hTab).mono ?_
    rintro e v33 ⟨rfl, k1_⟩
    replace hTab := hTab.on k1_
    replace hp := hp.on k1_
    replace hP := hP.on k1_
    replace hq := hq.on k1_
    replace hQ := hQ.on k1_
    replace hr := hr.on k1_
    replace hR := hR.on k1_
    replace hs := hs.on k1_
    replace hS := hS.on k1_
    replace ht := ht.on k1_
    replace hT := hT.on k1_
    replace hy := hy.on k1_
    replace hY := hY.on k1_
    replace hv := hv.on k1_
    replace hV := hV.on k1_
    replace hl := hl.on k1_
    replace hL := hL.on k1_
    replace b1 := Below.call b1 k1_
    clear k1_
    have HB9 := Lib.hid b1
    go_wp2
    go_returns
    exact ⟨rfl, HB9.out⟩
end Go.Proofs.YthafhbogpfggjaaGreatDoor
