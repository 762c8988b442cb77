/-
  The law FracField: the walk.
-/
import Derived.Test.YthafhbogpfggjaaGreatDoorB7
import Derived.Test.YthafhbogpfggjaaGreatDoorB6
namespace Go.Proofs.YthafhbogpfggjaaGreatDoor
open Go.RowKit Mag

theorem equal_eq {f g : FV} {a b : Rat} {w : World} (hf : FR f w a) (hg : FR g w b) (h : a = b) (ht : Tab w) : Calls Tryz.prog 83 #[.agg #[.bool f.p.neg, .slice f.p.A f.p.n f.p.c, .bool f.l.neg, .slice f.l.A f.l.n f.l.c], .agg #[.bool g.p.neg, .slice g.p.A g.p.n g.p.c, .bool g.l.neg, .slice g.l.A g.l.n g.l.c]] w (RetBool w true) := by
  have := equalF_any hf hg ht
  rwa [decide_eq_true h] at this
theorem sgn_zero {b : Rat} : (sgnR b != 0) = decide (b ≠ 0) := by
  rcases sgnR_tri b with ⟨h, e⟩ | ⟨h, e⟩ | ⟨h, e⟩
  · rw [e]
    have : b ≠ 0 := fun k => by rw [k] at h; exact Rat.lt_irrefl h
    simp [this]
  · rw [e]; simp [h]
  · rw [e]
    have : b ≠ 0 := fun k => by rw [k] at h; exact Rat.lt_irrefl h
    simp [this]
/-- A fraction is put into a block that is there. -/
theorem swap_fr {w : World} {g : Nat} {t : TypeId} {x : FV} (f : FV) (hP : Own w g t [.bool x.p.neg, .slice x.p.A x.p.n x.p.c, .bool x.l.neg, .slice x.l.A x.l.n x.l.c]) :
    ∃ V, ((((w.setCell ⟨g, 0, none⟩ (.bool f.p.neg)).setCell ⟨g, 1, none⟩ (.slice f.p.A f.p.n f.p.c)).setCell ⟨g, 2, none⟩ (.bool f.l.neg)).setCell ⟨g, 3, none⟩ (.slice f.l.A f.l.n f.l.c)) = V ∧
      (∀ y r, FR y w r → FR y V r) ∧ (∀ g' t' xs, Own w g' t' xs → g' ≠ g → Own V g' t' xs) ∧ Own V g t [.bool f.p.neg, .slice f.p.A f.p.n f.p.c, .bool f.l.neg, .slice f.l.A f.l.n f.l.c] ∧ (∀ B a, Below B a w → B ≤ g → Below B a V) :=
  ⟨_, rfl, fun _ _ h => h.put4 hP (by simp) (by simp) (by simp) (by simp) _ _ _ _, fun _ _ _ h hne => h.put4far hne _ _ _ _, hP.put4 _ _ _ _, fun _ _ h hg => Below.put4 h hg _ _ _ _⟩
set_option maxRecDepth 100000 in
set_option maxHeartbeats 12800000 in
theorem FracField_any {w : World} {A : Option Addr} {l : List Int} {c0 : Nat} (h : IntsIs w A l c0) (hTab0 : Tab w) : Calls Tryz.prog 16 #[.slice A l.length c0] w (RetBool w true) := by
  have b1 := Below.refl w.heap.size w
  have hTab := hTab0
  go_enter Tryz.func16, Tryz.ntmps16
  go_wp2_with fail
  refine (fFrac_any h 0 (by omega) 0 rfl).mono ?_
  rintro e v1 ⟨f, rfl, k1_, hf⟩
  replace h := h.on k1_
  replace hTab := hTab.on k1_
  replace b1 := Below.call b1 k1_
  clear k1_
  obtain ⟨a, sa, hf⟩ := hf
  go_wp2_with fail
  refine (of_any hf (sa.fit (by omega))).mono ?_
  rintro e v2 ⟨x, rfl, k1_, hx⟩
  go_upto_region 2 with fail
  refine wp_new1 fun v3 hX k2_ => ?_
  have kk_ := Below.call k1_ k2_
  replace h := h.on kk_
  replace hTab := hTab.on kk_
  replace hf := hf.on kk_
  replace hx := hx.on k2_
  replace b1 := Below.call b1 kk_
  clear k1_ k2_ kk_
  clear hf
  go_wp2_with fail
  refine (fFrac_any h 4 (by omega) 4 rfl).mono ?_
  rintro e v4 ⟨f, rfl, k1_, hf⟩
  replace h := h.on k1_
  replace hTab := hTab.on k1_
  replace hx := hx.on k1_
  replace hX := hX.on k1_
  replace b1 := Below.call b1 k1_
  clear k1_
  obtain ⟨b, sb, hf⟩ := hf
  go_wp2_with fail
  refine (of_any hf (sb.fit (by omega))).mono ?_
  rintro e v5 ⟨y, rfl, k1_, hy⟩
  go_upto_region 3 with fail
  refine wp_new1 fun v6 hY k2_ => ?_
  have kk_ := Below.call k1_ k2_
  replace h := h.on kk_
  replace hTab := hTab.on kk_
  replace hx := hx.on kk_
  replace hX := hX.on kk_
  replace hf := hf.on kk_
  replace hy := hy.on k2_
  replace b1 := Below.call b1 kk_
  clear k1_ k2_ kk_
  clear hf
  go_wp2_with fail
  refine (fFrac_any h 8 (by omega) 8 rfl).mono ?_
  rintro e v7 ⟨f, rfl, k1_, hf⟩
  replace h := h.on k1_
  replace hTab := hTab.on k1_
  replace hx := hx.on k1_
  replace hX := hX.on k1_
  replace hy := hy.on k1_
  replace hY := hY.on k1_
  replace b1 := Below.call b1 k1_
  clear k1_
  obtain ⟨c, sc, hf⟩ := hf
  go_wp2_with fail
  refine (of_any hf (sc.fit (by omega))).mono ?_
  rintro e v8 ⟨z, rfl, k1_, hz⟩
  go_upto_region 4 with fail
  refine wp_new1 fun v9 hZ k2_ => ?_
  have kk_ := Below.call k1_ k2_
  replace h := h.on kk_
  replace hTab := hTab.on kk_
  replace hx := hx.on kk_
  replace hX := hX.on kk_
  replace hy := hy.on kk_
  replace hY := hY.on kk_
  replace hf := hf.on kk_
  replace hz := hz.on k2_
  replace b1 := Below.call b1 kk_
  clear k1_ k2_ kk_
  clear hf
  clear h
  obtain ⟨c0_0, c0_1, c0_2, c0_3, _⟩ := hX.all4
  obtain ⟨c1_0, c1_1, c1_2, c1_3, _⟩ := hY.all4
  go_wp2_with fail
  refine (addF_ok hx hy sa sb (by omega)).mono ?_
  rintro e v10 ⟨p1, rfl, k1_, hp1⟩
  clear c0_0 c0_1 c0_2 c0_3 c1_0 c1_1 c1_2 c1_3
  go_upto_region 5 with fail
  refine wp_new1 fun v11 hP1 k2_ => ?_
  have kk_ := Below.call k1_ k2_
  replace hTab := hTab.on kk_
  replace hx := hx.on kk_
  replace hX := hX.on kk_
  replace hy := hy.on kk_
  replace hY := hY.on kk_
  replace hz := hz.on kk_
  replace hZ := hZ.on kk_
  replace hp1 := hp1.on k2_
  replace b1 := Below.call b1 kk_
  clear k1_ k2_ kk_
  obtain ⟨c0_0, c0_1, c0_2, c0_3, _⟩ := hY.all4
  obtain ⟨c1_0, c1_1, c1_2, c1_3, _⟩ := hX.all4
  go_wp2_with fail
  refine (addF_ok hy hx sb sa (by omega)).mono ?_
  rintro e v12 ⟨p2, rfl, k1_, hp2⟩
  clear c0_0 c0_1 c0_2 c0_3 c1_0 c1_1 c1_2 c1_3
  go_upto_region 6 with fail
  refine wp_new1 fun v13 hP2 k2_ => ?_
  have kk_ := Below.call k1_ k2_
  replace hTab := hTab.on kk_
  replace hx := hx.on kk_
  replace hX := hX.on kk_
  replace hy := hy.on kk_
  replace hY := hY.on kk_
  replace hz := hz.on kk_
  replace hZ := hZ.on kk_
  replace hp1 := hp1.on kk_
  replace hP1 := hP1.on kk_
  replace hp2 := hp2.on k2_
  replace b1 := Below.call b1 kk_
  clear k1_ k2_ kk_
  obtain ⟨c0_0, c0_1, c0_2, c0_3, _⟩ := hX.all4
  obtain ⟨c1_0, c1_1, c1_2, c1_3, _⟩ := hY.all4
  go_wp2_with fail
  refine (mulF_ok hx hy sa sb (by omega)).mono ?_
  rintro e v14 ⟨p3, rfl, k1_, hp3⟩
  clear c0_0 c0_1 c0_2 c0_3 c1_0 c1_1 c1_2 c1_3
  go_upto_region 7 with fail
  refine wp_new1 fun v15 hP3 k2_ => ?_
  have kk_ := Below.call k1_ k2_
  replace hTab := hTab.on kk_
  replace hx := hx.on kk_
  replace hX := hX.on kk_
  replace hy := hy.on kk_
  replace hY := hY.on kk_
  replace hz := hz.on kk_
  replace hZ := hZ.on kk_
  replace hp1 := hp1.on kk_
  replace hP1 := hP1.on kk_
  replace hp2 := hp2.on kk_
  replace hP2 := hP2.on kk_
  replace hp3 := hp3.on k2_
  replace b1 := Below.call b1 kk_
  clear k1_ k2_ kk_
  obtain ⟨c0_0, c0_1, c0_2, c0_3, _⟩ := hY.all4
  obtain ⟨c1_0, c1_1, c1_2, c1_3, _⟩ := hX.all4
  go_wp2_with fail
  refine (mulF_ok hy hx sb sa (by omega)).mono ?_
  rintro e v16 ⟨p4, rfl, k1_, hp4⟩
  clear c0_0 c0_1 c0_2 c0_3 c1_0 c1_1 c1_2 c1_3
  go_upto_region 8 with fail
  refine wp_new1 fun v17 hP4 k2_ => ?_
  have kk_ := Below.call k1_ k2_
  replace hTab := hTab.on kk_
  replace hx := hx.on kk_
  replace hX := hX.on kk_
  replace hy := hy.on kk_
  replace hY := hY.on kk_
  replace hz := hz.on kk_
  replace hZ := hZ.on kk_
  replace hp1 := hp1.on kk_
  replace hP1 := hP1.on kk_
  replace hp2 := hp2.on kk_
  replace hP2 := hP2.on kk_
  replace hp3 := hp3.on kk_
  replace hP3 := hP3.on kk_
  replace hp4 := hp4.on k2_
  replace b1 := Below.call b1 kk_
  clear k1_ k2_ kk_
  have s1 := sa.add sb
  have s3 := sa.mul sb
  obtain ⟨c0_0, c0_1, c0_2, c0_3, _⟩ := hP1.all4
  obtain ⟨c1_0, c1_1, c1_2, c1_3, _⟩ := hP2.all4
  go_wp2_with fail
  refine (equal_eq hp1 hp2 (Rat.add_comm a b) hTab).mono ?_
  rintro e v18 ⟨rfl, k1_⟩
  clear c0_0 c0_1 c0_2 c0_3 c1_0 c1_1 c1_2 c1_3
  replace hTab := hTab.on k1_
  replace hx := hx.on k1_
  replace hX := hX.on k1_
  replace hy := hy.on k1_
  replace hY := hY.on k1_
  replace hz := hz.on k1_
  replace hZ := hZ.on k1_
  replace hp1 := hp1.on k1_
  replace hP1 := hP1.on k1_
  replace hp2 := hp2.on k1_
  replace hP2 := hP2.on k1_
  replace hp3 := hp3.on k1_
  replace hP3 := hP3.on k1_
  replace hp4 := hp4.on k1_
  replace hP4 := hP4.on k1_
  replace b1 := Below.call b1 k1_
  clear k1_
  obtain ⟨c0_0, c0_1, c0_2, c0_3, _⟩ := hP3.all4
  obtain ⟨c1_0, c1_1, c1_2, c1_3, _⟩ := hP4.all4
  go_wp2_with fail
  refine (equal_eq hp3 hp4 (Rat.mul_comm a b) hTab).mono ?_
  rintro e v19 ⟨rfl, k1_⟩
  clear c0_0 c0_1 c0_2 c0_3 c1_0 c1_1 c1_2 c1_3
  replace hTab := hTab.on k1_
  replace hx := hx.on k1_
  replace hX := hX.on k1_
  replace hy := hy.on k1_
  replace hY := hY.on k1_
  replace hz := hz.on k1_
  replace hZ := hZ.on k1_
  replace hp1 := hp1.on k1_
  replace hP1 := hP1.on k1_
  replace hp2 := hp2.on k1_
  replace hP2 := hP2.on k1_
  replace hp3 := hp3.on k1_
  replace hP3 := hP3.on k1_
  replace hp4 := hp4.on k1_
  replace hP4 := hP4.on k1_
  replace b1 := Below.call b1 k1_
  clear k1_
  clear hp2 hP2 hp4 hP4
  obtain ⟨c0_0, c0_1, c0_2, c0_3, _⟩ := hP1.all4
  obtain ⟨c1_0, c1_1, c1_2, c1_3, _⟩ := hY.all4
  go_wp2_with fail
  refine (subF_ok hp1 hy s1 sb (by omega)).mono ?_
  rintro e v20 ⟨p5, rfl, k1_, hp5⟩
  clear c0_0 c0_1 c0_2 c0_3 c1_0 c1_1 c1_2 c1_3
  go_upto_region 13 with fail
  refine wp_new1 fun v21 hP5 k2_ => ?_
  have kk_ := Below.call k1_ k2_
  replace hTab := hTab.on kk_
  replace hx := hx.on kk_
  replace hX := hX.on kk_
  replace hy := hy.on kk_
  replace hY := hY.on kk_
  replace hz := hz.on kk_
  replace hZ := hZ.on kk_
  replace hp1 := hp1.on kk_
  replace hP1 := hP1.on kk_
  replace hp3 := hp3.on kk_
  replace hP3 := hP3.on kk_
  replace hp5 := hp5.on k2_
  replace b1 := Below.call b1 kk_
  clear k1_ k2_ kk_
  obtain ⟨c0_0, c0_1, c0_2, c0_3, _⟩ := hP5.all4
  obtain ⟨c1_0, c1_1, c1_2, c1_3, _⟩ := hX.all4
  go_wp2_with fail
  refine (equal_eq hp5 hx Rat.add_sub_cancel hTab).mono ?_
  rintro e v22 ⟨rfl, k1_⟩
  clear c0_0 c0_1 c0_2 c0_3 c1_0 c1_1 c1_2 c1_3
  replace hTab := hTab.on k1_
  replace hx := hx.on k1_
  replace hX := hX.on k1_
  replace hy := hy.on k1_
  replace hY := hY.on k1_
  replace hz := hz.on k1_
  replace hZ := hZ.on k1_
  replace hp1 := hp1.on k1_
  replace hP1 := hP1.on k1_
  replace hp3 := hp3.on k1_
  replace hP3 := hP3.on k1_
  replace hp5 := hp5.on k1_
  replace hP5 := hP5.on k1_
  replace b1 := Below.call b1 k1_
  clear k1_
  clear hp5 hP5
  obtain ⟨c0_0, c0_1, c0_2, c0_3, _⟩ := hY.all4
  go_wp2_with fail
  refine (signF hy).mono ?_
  rintro e v23 ⟨rfl, k1_⟩
  clear c0_0 c0_1 c0_2 c0_3
  replace hTab := hTab.on k1_
  replace hx := hx.on k1_
  replace hX := hX.on k1_
  replace hy := hy.on k1_
  replace hY := hY.on k1_
  replace hz := hz.on k1_
  replace hZ := hZ.on k1_
  replace hp1 := hp1.on k1_
  replace hP1 := hP1.on k1_
  replace hp3 := hp3.on k1_
  replace hP3 := hP3.on k1_
  replace b1 := Below.call b1 k1_
  clear k1_
  go_upto_if 110 with fail
  have hsg := sgn_zero (b := b)
  have HbW := Lib.hid (Below.refl v23.heap.size v23)
  go_cut [110] (fun _ wx => Below v23.heap.size v23 wx)
  case first =>
    by_cases hb0 : b = 0
    · rw [decide_eq_false (not_not_intro hb0)] at hsg
      rw [hsg]
      clear hb0
      go_wp2_with fail
      go_meet
      exact HbW.out
    · rw [decide_eq_true hb0] at hsg
      rw [hsg]
      have b9 := HbW.out
      obtain ⟨c0_0, c0_1, c0_2, c0_3, _⟩ := hP3.all4
      obtain ⟨c1_0, c1_1, c1_2, c1_3, _⟩ := hY.all4
      go_wp2_with fail
      refine (divF_ok hp3 hy s3 sb (by omega) hb0).mono ?_
      rintro e u1 ⟨z0, rfl, k1_, hz0⟩
      clear c0_0 c0_1 c0_2 c0_3 c1_0 c1_1 c1_2 c1_3
      go_upto_region 17 with fail
      refine wp_new1 fun u2 hZ0 k2_ => ?_
      have kk_ := Below.call k1_ k2_
      replace hx := hx.on kk_
      replace hX := hX.on kk_
      replace hy := hy.on kk_
      replace hY := hY.on kk_
      replace hp3 := hp3.on kk_
      replace hP3 := hP3.on kk_
      replace hTab := hTab.on kk_
      replace hz0 := hz0.on k2_
      replace b9 := Below.call b9 kk_
      clear k1_ k2_ kk_
      obtain ⟨c0_0, c0_1, c0_2, c0_3, _⟩ := hZ0.all4
      obtain ⟨c1_0, c1_1, c1_2, c1_3, _⟩ := hX.all4
      go_wp2_with fail
      refine (equal_eq hz0 hx (Rat.mul_div_cancel hb0) hTab).mono ?_
      rintro e u3 ⟨rfl, k1_⟩
      clear c0_0 c0_1 c0_2 c0_3 c1_0 c1_1 c1_2 c1_3
      replace hx := hx.on k1_
      replace hX := hX.on k1_
      replace hy := hy.on k1_
      replace hY := hY.on k1_
      replace hp3 := hp3.on k1_
      replace hP3 := hP3.on k1_
      replace hTab := hTab.on k1_
      replace hz0 := hz0.on k1_
      replace hZ0 := hZ0.on k1_
      replace b9 := Below.call b9 k1_
      clear k1_
      have HB9 := Lib.hid b9
      clear b9 hb0
      go_wp2_with fail
      go_meet
      exact HB9.out
  case rest =>
    replace hTab := hTab.on hcut
    replace hx := hx.on hcut
    replace hX := hX.on hcut
    replace hy := hy.on hcut
    replace hY := hY.on hcut
    replace hz := hz.on hcut
    replace hZ := hZ.on hcut
    replace hp1 := hp1.on hcut
    replace hP1 := hP1.on hcut
    replace hp3 := hp3.on hcut
    replace hP3 := hP3.on hcut
    replace b1 := Below.call b1 hcut
    clear hcut hsg HbW
    obtain ⟨c0_0, c0_1, c0_2, c0_3, _⟩ := hP1.all4
    obtain ⟨c1_0, c1_1, c1_2, c1_3, _⟩ := hZ.all4
    go_wp2_with fail
    refine (addF_ok hp1 hz s1 sc (by omega)).mono ?_
    rintro e v24 ⟨p6, rfl, k1_, hp6⟩
    clear c0_0 c0_1 c0_2 c0_3 c1_0 c1_1 c1_2 c1_3
    go_upto_region 20 with fail
    refine wp_new1 fun v25 hP6 k2_ => ?_
    have m6 := (Below.call b1 k1_).size
    have kk_ := Below.call k1_ k2_
    replace hTab := hTab.on kk_
    replace hx := hx.on kk_
    replace hX := hX.on kk_
    replace hy := hy.on kk_
    replace hY := hY.on kk_
    replace hz := hz.on kk_
    replace hZ := hZ.on kk_
    replace hp1 := hp1.on kk_
    replace hP1 := hP1.on kk_
    replace hp3 := hp3.on kk_
    replace hP3 := hP3.on kk_
    replace hp6 := hp6.on k2_
    replace b1 := Below.call b1 kk_
    clear k1_ k2_ kk_
    have s7 := sb.add sc
    obtain ⟨c0_0, c0_1, c0_2, c0_3, _⟩ := hY.all4
    obtain ⟨c1_0, c1_1, c1_2, c1_3, _⟩ := hZ.all4
    go_wp2_with fail
    refine (addF_ok hy hz sb sc (by omega)).mono ?_
    rintro e v26 ⟨p7, rfl, k1_, hp7⟩
    clear c0_0 c0_1 c0_2 c0_3 c1_0 c1_1 c1_2 c1_3
    go_upto_region 21 with fail
    refine wp_new1 fun v27 hP7 k2_ => ?_
    have m7 := (Below.call b1 k1_).size
    have m7_hX := (hX.on k1_).lt
    have m7_hZ := (hZ.on k1_).lt
    have m7_hP3 := (hP3.on k1_).lt
    have m7_hP6 := (hP6.on k1_).lt
    have kk_ := Below.call k1_ k2_
    replace hTab := hTab.on kk_
    replace hx := hx.on kk_
    replace hX := hX.on kk_
    replace hy := hy.on kk_
    replace hY := hY.on kk_
    replace hz := hz.on kk_
    replace hZ := hZ.on kk_
    replace hp1 := hp1.on kk_
    replace hP1 := hP1.on kk_
    replace hp3 := hp3.on kk_
    replace hP3 := hP3.on kk_
    replace hp6 := hp6.on kk_
    replace hP6 := hP6.on kk_
    replace hp7 := hp7.on k2_
    replace b1 := Below.call b1 kk_
    clear k1_ k2_ kk_
    obtain ⟨c0_0, c0_1, c0_2, c0_3, _⟩ := hX.all4
    obtain ⟨c1_0, c1_1, c1_2, c1_3, _⟩ := hP7.all4
    go_wp2_with fail
    refine (addF_ok hx hp7 sa s7 (by omega)).mono ?_
    rintro e v28 ⟨p8, rfl, k1_, hp8⟩
    clear c0_0 c0_1 c0_2 c0_3 c1_0 c1_1 c1_2 c1_3
    go_upto_region 22 with fail
    refine wp_new1 fun v29 hP8 k2_ => ?_
    have kk_ := Below.call k1_ k2_
    replace hTab := hTab.on kk_
    replace hx := hx.on kk_
    replace hX := hX.on kk_
    replace hy := hy.on kk_
    replace hY := hY.on kk_
    replace hz := hz.on kk_
    replace hZ := hZ.on kk_
    replace hp1 := hp1.on kk_
    replace hP1 := hP1.on kk_
    replace hp3 := hp3.on kk_
    replace hP3 := hP3.on kk_
    replace hp6 := hp6.on kk_
    replace hP6 := hP6.on kk_
    replace hp7 := hp7.on kk_
    replace hP7 := hP7.on kk_
    replace hp8 := hp8.on k2_
    replace b1 := Below.call b1 kk_
    clear k1_ k2_ kk_
    obtain ⟨c0_0, c0_1, c0_2, c0_3, _⟩ := hP6.all4
    obtain ⟨c1_0, c1_1, c1_2, c1_3, _⟩ := hP8.all4
    go_wp2_with fail
    refine (equal_eq hp6 hp8 (Rat.add_assoc a b c) hTab).mono ?_
    rintro e v30 ⟨rfl, k1_⟩
    clear c0_0 c0_1 c0_2 c0_3 c1_0 c1_1 c1_2 c1_3
    replace hTab := hTab.on k1_
    replace hx := hx.on k1_
    replace hX := hX.on k1_
    replace hy := hy.on k1_
    replace hY := hY.on k1_
    replace hz := hz.on k1_
    replace hZ := hZ.on k1_
    replace hp1 := hp1.on k1_
    replace hP1 := hP1.on k1_
    replace hp3 := hp3.on k1_
    replace hP3 := hP3.on k1_
    replace hp6 := hp6.on k1_
    replace hP6 := hP6.on k1_
    replace hp7 := hp7.on k1_
    replace hP7 := hP7.on k1_
    replace hp8 := hp8.on k1_
    replace hP8 := hP8.on k1_
    replace b1 := Below.call b1 k1_
    clear k1_
    clear hp6 hp8 hP8 hp7
    obtain ⟨c0_0, c0_1, c0_2, c0_3, _⟩ := hP1.all4
    obtain ⟨c1_0, c1_1, c1_2, c1_3, _⟩ := hZ.all4
    go_wp2_with fail
    refine (mulF_ok hp1 hz s1 sc (by omega)).mono ?_
    rintro e v31 ⟨p9, rfl, k1_, hp9⟩
    clear c0_0 c0_1 c0_2 c0_3 c1_0 c1_1 c1_2 c1_3
    go_upto_region 25 with fail
    refine wp_new1 fun v32 hP9 k2_ => ?_
    have m9 := (Below.call b1 k1_).size
    have m9_hP7 := (hP7.on k1_).lt
    have m9_hP6 := (hP6.on k1_).lt
    have kk_ := Below.call k1_ k2_
    replace hTab := hTab.on kk_
    replace hx := hx.on kk_
    replace hX := hX.on kk_
    replace hy := hy.on kk_
    replace hY := hY.on kk_
    replace hz := hz.on kk_
    replace hZ := hZ.on kk_
    replace hp1 := hp1.on kk_
    replace hP1 := hP1.on kk_
    replace hp3 := hp3.on kk_
    replace hP3 := hP3.on kk_
    replace hP6 := hP6.on kk_
    replace hP7 := hP7.on kk_
    replace hp9 := hp9.on k2_
    replace b1 := Below.call b1 kk_
    clear k1_ k2_ kk_
    obtain ⟨c0_0, c0_1, c0_2, c0_3, _⟩ := hX.all4
    obtain ⟨c1_0, c1_1, c1_2, c1_3, _⟩ := hZ.all4
    go_wp2_with fail
    refine (mulF_ok hx hz sa sc (by omega)).mono ?_
    rintro e v33 ⟨p10, rfl, k1_, hp10⟩
    clear c0_0 c0_1 c0_2 c0_3 c1_0 c1_1 c1_2 c1_3
    go_upto_region 26 with fail
    refine wp_new1 fun v34 hP10 k2_ => ?_
    have m10 := (Below.call b1 k1_).size
    have m10_hP7 := (hP7.on k1_).lt
    have m10_hP6 := (hP6.on k1_).lt
    have kk_ := Below.call k1_ k2_
    replace hTab := hTab.on kk_
    replace hx := hx.on kk_
    replace hX := hX.on kk_
    replace hy := hy.on kk_
    replace hY := hY.on kk_
    replace hz := hz.on kk_
    replace hZ := hZ.on kk_
    replace hp1 := hp1.on kk_
    replace hP1 := hP1.on kk_
    replace hp3 := hp3.on kk_
    replace hP3 := hP3.on kk_
    replace hP6 := hP6.on kk_
    replace hP7 := hP7.on kk_
    replace hp9 := hp9.on kk_
    replace hP9 := hP9.on kk_
    replace hp10 := hp10.on k2_
    replace b1 := Below.call b1 kk_
    clear k1_ k2_ kk_
    have s10 := sa.mul sc
    have s7b := sb.mul sc
    clear hp1 hP1
    obtain ⟨c0_0, c0_1, c0_2, c0_3, _⟩ := hY.all4
    obtain ⟨c1_0, c1_1, c1_2, c1_3, _⟩ := hZ.all4
    go_wp2_with fail
    refine (mulF_ok hy hz sb sc (by omega)).mono ?_
    rintro e v35 ⟨q7, rfl, k1_, hq7⟩
    clear c0_0 c0_1 c0_2 c0_3 c1_0 c1_1 c1_2 c1_3
    replace hTab := hTab.on k1_
    replace hx := hx.on k1_
    replace hX := hX.on k1_
    replace hy := hy.on k1_
    replace hY := hY.on k1_
    replace hz := hz.on k1_
    replace hZ := hZ.on k1_
    replace hp3 := hp3.on k1_
    replace hP3 := hP3.on k1_
    replace hP6 := hP6.on k1_
    replace hP7 := hP7.on k1_
    replace hp9 := hp9.on k1_
    replace hP9 := hP9.on k1_
    replace hp10 := hp10.on k1_
    replace hP10 := hP10.on k1_
    replace b1 := Below.call b1 k1_
    clear k1_
    clear hy hY
    obtain ⟨V_, hV_, t1, t2, t3, t4⟩ := swap_fr (f := q7) hP7
    obtain ⟨z0, z1, z2, z3, f0, f1, f2, f3⟩ := hP7.all4
    go_upto_region 27 with fail
    clear z0 z1 z2 z3 f0 f1 f2 f3 hV_
    replace hx := t1 _ _ hx
    replace hz := t1 _ _ hz
    replace hp3 := t1 _ _ hp3
    replace hp9 := t1 _ _ hp9
    replace hp10 := t1 _ _ hp10
    replace hq7 := t1 _ _ hq7
    replace hX := t2 _ _ _ hX (by omega)
    replace hZ := t2 _ _ _ hZ (by omega)
    replace hP3 := t2 _ _ _ hP3 (by omega)
    replace hP6 := t2 _ _ _ hP6 (by omega)
    replace hP9 := t2 _ _ _ hP9 (by omega)
    replace hP10 := t2 _ _ _ hP10 (by omega)
    replace hP7 := t3
    replace b1 := t4 _ _ b1 (by omega)
    replace hTab := hTab0.on b1
    clear t1 t2 t3 t4
    obtain ⟨V27, e_⟩ : ∃ V27, V27 = V_ := ⟨_, rfl⟩
    subst e_
    obtain ⟨c0_0, c0_1, c0_2, c0_3, _⟩ := hP10.all4
    obtain ⟨c1_0, c1_1, c1_2, c1_3, _⟩ := hP7.all4
    go_wp2_with fail
    refine (addF_ok hp10 hq7 s10 s7b (by omega)).mono ?_
    rintro e v36 ⟨p12, rfl, k1_, hp12⟩
    clear c0_0 c0_1 c0_2 c0_3 c1_0 c1_1 c1_2 c1_3
    go_upto_region 28 with fail
    refine wp_new1 fun v37 hP12 k2_ => ?_
    have kk_ := Below.call k1_ k2_
    replace hTab := hTab.on kk_
    replace hx := hx.on kk_
    replace hX := hX.on kk_
    replace hz := hz.on kk_
    replace hZ := hZ.on kk_
    replace hp3 := hp3.on kk_
    replace hP3 := hP3.on kk_
    replace hP6 := hP6.on kk_
    replace hP7 := hP7.on kk_
    replace hp9 := hp9.on kk_
    replace hP9 := hP9.on kk_
    replace hp10 := hp10.on kk_
    replace hP10 := hP10.on kk_
    replace hq7 := hq7.on kk_
    replace hp12 := hp12.on k2_
    replace b1 := Below.call b1 kk_
    clear k1_ k2_ kk_
    obtain ⟨c0_0, c0_1, c0_2, c0_3, _⟩ := hP9.all4
    obtain ⟨c1_0, c1_1, c1_2, c1_3, _⟩ := hP12.all4
    go_wp2_with fail
    refine (equal_eq hp9 hp12 (Rat.add_mul a b c) hTab).mono ?_
    rintro e v38 ⟨rfl, k1_⟩
    clear c0_0 c0_1 c0_2 c0_3 c1_0 c1_1 c1_2 c1_3
    replace hTab := hTab.on k1_
    replace hx := hx.on k1_
    replace hX := hX.on k1_
    replace hz := hz.on k1_
    replace hZ := hZ.on k1_
    replace hp3 := hp3.on k1_
    replace hP3 := hP3.on k1_
    replace hP6 := hP6.on k1_
    replace hP7 := hP7.on k1_
    replace hp9 := hp9.on k1_
    replace hP9 := hP9.on k1_
    replace hp10 := hp10.on k1_
    replace hP10 := hP10.on k1_
    replace hq7 := hq7.on k1_
    replace hp12 := hp12.on k1_
    replace hP12 := hP12.on k1_
    replace b1 := Below.call b1 k1_
    clear k1_
    clear hp9 hP9 hp10 hP10 hp12 hP12
    obtain ⟨c0_0, c0_1, c0_2, c0_3, _⟩ := hP3.all4
    obtain ⟨c1_0, c1_1, c1_2, c1_3, _⟩ := hZ.all4
    go_wp2_with fail
    refine (mulF_ok hp3 hz s3 sc (by omega)).mono ?_
    rintro e v39 ⟨p11, rfl, k1_, hp11⟩
    clear c0_0 c0_1 c0_2 c0_3 c1_0 c1_1 c1_2 c1_3
    go_upto_region 31 with fail
    refine wp_new1 fun v40 hP11 k2_ => ?_
    have m11 := (Below.call b1 k1_).size
    have m11_hP6 := (hP6.on k1_).lt
    have kk_ := Below.call k1_ k2_
    replace hTab := hTab.on kk_
    replace hx := hx.on kk_
    replace hX := hX.on kk_
    replace hz := hz.on kk_
    replace hZ := hZ.on kk_
    replace hp3 := hp3.on kk_
    replace hP3 := hP3.on kk_
    replace hP6 := hP6.on kk_
    replace hP7 := hP7.on kk_
    replace hq7 := hq7.on kk_
    replace hp11 := hp11.on k2_
    replace b1 := Below.call b1 kk_
    clear k1_ k2_ kk_
    clear hz hZ hp3 hP3
    obtain ⟨c0_0, c0_1, c0_2, c0_3, _⟩ := hX.all4
    obtain ⟨c1_0, c1_1, c1_2, c1_3, _⟩ := hP7.all4
    go_wp2_with fail
    refine (mulF_ok hx hq7 sa s7b (by omega)).mono ?_
    rintro e v41 ⟨q6, rfl, k1_, hq6⟩
    clear c0_0 c0_1 c0_2 c0_3 c1_0 c1_1 c1_2 c1_3
    replace hTab := hTab.on k1_
    replace hx := hx.on k1_
    replace hX := hX.on k1_
    replace hP6 := hP6.on k1_
    replace hP7 := hP7.on k1_
    replace hq7 := hq7.on k1_
    replace hp11 := hp11.on k1_
    replace hP11 := hP11.on k1_
    replace b1 := Below.call b1 k1_
    clear k1_
    clear hx hX hq7 hP7
    obtain ⟨V_, hV_, t1, t2, t3, t4⟩ := swap_fr (f := q6) hP6
    obtain ⟨z0, z1, z2, z3, f0, f1, f2, f3⟩ := hP6.all4
    go_upto_region 32 with fail
    clear z0 z1 z2 z3 f0 f1 f2 f3 hV_
    replace hp11 := t1 _ _ hp11
    replace hq6 := t1 _ _ hq6
    replace hP11 := t2 _ _ _ hP11 (by omega)
    replace hP6 := t3
    replace b1 := t4 _ _ b1 (by omega)
    replace hTab := hTab0.on b1
    clear t1 t2 t3 t4
    obtain ⟨V32, e_⟩ : ∃ V32, V32 = V_ := ⟨_, rfl⟩
    subst e_
    obtain ⟨c0_0, c0_1, c0_2, c0_3, _⟩ := hP11.all4
    obtain ⟨c1_0, c1_1, c1_2, c1_3, _⟩ := hP6.all4
    go_wp2_with fail
    refine (equal_eq hp11 hq6 (Rat.mul_assoc a b c) hTab).mono ?_
    rintro e v42 ⟨rfl, k1_⟩
    clear c0_0 c0_1 c0_2 c0_3 c1_0 c1_1 c1_2 c1_3
    replace hTab := hTab.on k1_
    replace hP6 := hP6.on k1_
    replace hp11 := hp11.on k1_
    replace hP11 := hP11.on k1_
    replace hq6 := hq6.on k1_
    replace b1 := Below.call b1 k1_
    clear k1_
    clear hp11 hP11 hq6 hP6
    go_wp2_with fail
    refine (lives4_any _ hTab).mono ?_
    rintro e v43 ⟨rfl, k1_⟩
    replace hTab := hTab.on k1_
    replace b1 := Below.call b1 k1_
    clear k1_
    have HB := Lib.hid b1
    go_wp2
    go_returns
    exact ⟨rfl, HB.out⟩
end Go.Proofs.YthafhbogpfggjaaGreatDoor
