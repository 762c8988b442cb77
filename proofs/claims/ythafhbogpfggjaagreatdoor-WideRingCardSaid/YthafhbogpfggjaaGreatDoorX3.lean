/-
  The law WideRing: the walk.
-/
import Derived.Test.YthafhbogpfggjaaGreatDoorX0
namespace Go.Proofs.YthafhbogpfggjaaGreatDoor
open Go.RowKit Mag

theorem compare_eq {x y : IV} {w : World} {a b : Int} (hx : x.is w a) (hy : y.is w b) (h : a = b) : Calls Tryz.prog 53 #[.agg #[.bool x.neg, .slice x.A x.n x.c], .agg #[.bool y.neg, .slice y.A y.n y.c]] w (RetInt w 0) := by
  have := compare_iv hx hy
  rwa [cmpI_eq h] at this
theorem rest_bd {C Y : Int} (hY : Y ≠ 0) {j k : Nat} (hC : Sm k C) (hj : Sm j Y) (hjk : j ≤ k) : Sm (k + 1) (C / Y * Y) ∧ Sm j (C % Y) ∧ C / Y * Y + C % Y = C ∧ 0 ≤ C % Y ∧ C % Y < Y.natAbs := by
  have e : C / Y * Y + C % Y = C := by rw [Int.mul_comm]; exact Int.mul_ediv_add_emod C Y
  have h0 := Int.emod_nonneg C hY
  have h1 := Int.emod_lt_of_pos C (b := (Y.natAbs : Int)) (by omega)
  have h2 : C % (Y.natAbs : Int) = C % Y := by
    rcases Int.natAbs_eq Y with h | h
    · rw [← h]
    · conv => rhs; rw [h]
      rw [Int.emod_neg]
  have h3 : C % Y < Y.natAbs := by rw [← h2]; exact h1
  have hr : Sm j (C % Y) := by
    unfold Sm at *
    omega
  refine ⟨?_, hr, e, h0, h3⟩
  have : C / Y * Y = C - C % Y := by omega
  rw [this]
  exact hC.sub (hr.mono hjk)
/-- What the end of WideRing wants to know of its world. -/
structure RingEnd (w : World) (gc gr gu gs : Nat) (c r u s : IV) (C R S : Int) (v : World) : Prop where
  bel : Below w.heap.size w v
  oc : Own v gc 29 [.bool c.neg, .slice c.A c.n c.c]
  or_ : Own v gr 29 [.bool r.neg, .slice r.A r.n r.c]
  ou : Own v gu 29 [.bool u.neg, .slice u.A u.n u.c]
  os_ : Own v gs 29 [.bool s.neg, .slice s.A s.n s.c]
  hc : c.is v C
  hr : r.is v R
  hu : u.is v C
  hs : s.is v S
theorem RingEnd.on {w : World} {gc gr gu gs : Nat} {c r u s : IV} {C R S : Int} {v v' : World} (h : RingEnd w gc gr gu gs c r u s C R S v) (k : Below v.heap.size v v') : RingEnd w gc gr gu gs c r u s C R S v' :=
  ⟨Below.call h.bel k, h.oc.on k, h.or_.on k, h.ou.on k, h.os_.on k, h.hc.on k, h.hr.on k, h.hu.on k, h.hs.on k⟩
theorem Own.far2 {v : World} {g h : Nat} {t : TypeId} {xs : List Value} (hO : Own v g t xs) (hne : g ≠ h) (a b : Value) : Own ((v.setCell ⟨h, 0, none⟩ a).setCell ⟨h, 1, none⟩ b) g t xs :=
  (hO.far (p := ⟨h, 0, none⟩) hne a).far (p := ⟨h, 1, none⟩) hne b
theorem RingEnd.put {w : World} {gc gr gu gs : Nat} {c r u s s' : IV} {C R S S' : Int} {v : World} (h : RingEnd w gc gr gu gs c r u s C R S v) (hs : s'.is v S') (h1 : gc ≠ gs) (h2 : gr ≠ gs) (h3 : gu ≠ gs) (hw : w.heap.size ≤ gs) :
    RingEnd w gc gr gu gs c r u s' C R S' ((v.setCell ⟨gs, 0, none⟩ (.bool s'.neg)).setCell ⟨gs, 1, none⟩ (.slice s'.A s'.n s'.c)) :=
  ⟨Below.put2 h.bel hw _ _, h.oc.far2 h1 _ _, h.or_.far2 h2 _ _, h.ou.far2 h3 _ _, h.os_.put2 _ _, h.hc.put2 h.os_ (by simp) (by simp) _ _, h.hr.put2 h.os_ (by simp) (by simp) _ _, h.hu.put2 h.os_ (by simp) (by simp) _ _, hs.put2 h.os_ (by simp) (by simp) _ _⟩
set_option maxRecDepth 100000 in
set_option maxHeartbeats 6400000 in
theorem WideRing_any {w : World} {A : Option Addr} {l : List Int} {c : Nat} (h : IntsIs w A l c) (ht0 : Tab w) : Calls Tryz.prog 11 #[.slice A l.length c] w (RetBool w true) := by
  go_enter Tryz.func11, Tryz.ntmps11
  go_wp2_with fail
  refine (Number_sm h 0 (by omega) 0 rfl).mono ?_
  rintro e u1 ⟨X, bX, x', rfl, k1, hx'⟩
  go_wp2_with fail
  refine (wider_any hx' (bX.top (by omega))).mono ?_
  rintro e v1 ⟨x, rfl, k2, hx⟩
  go_upto_region 2 with fail
  refine wp_new1 fun v2 hX k3 => ?_
  have b1 := Below.call (Below.call k1 k2) k3
  replace hx := hx.on k3
  clear hx' k1 k2 k3
  go_wp2_with fail
  refine (Number_sm (h.on b1) 6 (by omega) 6 rfl).mono ?_
  rintro e u3 ⟨Y, bY, y', rfl, k1, hy'⟩
  go_wp2_with fail
  refine (wider_any hy' (bY.top (by omega))).mono ?_
  rintro e v3 ⟨y, rfl, k2, hy⟩
  go_upto_region 3 with fail
  refine wp_new1 fun v4 hY k3 => ?_
  have kk := Below.call (Below.call k1 k2) k3
  replace b1 := Below.call b1 kk
  replace hx := hx.on kk
  replace hX := hX.on kk
  replace hy := hy.on k3
  clear hy' k1 k2 k3 kk
  go_wp2_with fail
  refine (Number_sm (h.on b1) 12 (by omega) 12 rfl).mono ?_
  rintro e u5 ⟨Z, bZ, z', rfl, k1, hz'⟩
  go_wp2_with fail
  refine (wider_any hz' (bZ.top (by omega))).mono ?_
  rintro e v5 ⟨z, rfl, k2, hz⟩
  go_upto_region 4 with fail
  refine wp_new1 fun v6 hZ k3 => ?_
  have kk := Below.call (Below.call k1 k2) k3
  replace b1 := Below.call b1 kk
  replace hx := hx.on kk
  replace hX := hX.on kk
  replace hy := hy.on kk
  replace hY := hY.on kk
  replace hz := hz.on k3
  clear hz' k1 k2 k3 kk h
  obtain ⟨x0, x1⟩ := hX.rules2
  obtain ⟨y0, y1⟩ := hY.rules2
  have hW := Below.refl v6.heap.size v6
  go_wp2_with fail
  refine (add_sm hx hy (bX.add bY) (by omega)).mono ?_
  rintro e v7 ⟨a, rfl, k_, ha⟩
  clear hW x0 x1 y0 y1
  go_upto_region 5 with fail
  refine wp_new1 fun v8 hA k2_ => ?_
  have kk_ := Below.call k_ k2_
  replace hX := hX.on kk_
  replace hx := hx.on kk_
  replace hY := hY.on kk_
  replace hy := hy.on kk_
  replace hZ := hZ.on kk_
  replace hz := hz.on kk_
  replace ha := ha.on k2_
  replace b1 := Below.call b1 kk_
  clear k_ k2_ kk_
  obtain ⟨y0, y1⟩ := hY.rules2
  obtain ⟨x0, x1⟩ := hX.rules2
  have hW := Below.refl v8.heap.size v8
  go_wp2_with fail
  refine (add_sm hy hx (bY.add bX) (by omega)).mono ?_
  rintro e v9 ⟨b, rfl, k_, hb⟩
  clear hW y0 y1 x0 x1
  go_upto_region 6 with fail
  refine wp_new1 fun v10 hB k2_ => ?_
  have kk_ := Below.call k_ k2_
  replace hX := hX.on kk_
  replace hx := hx.on kk_
  replace hY := hY.on kk_
  replace hy := hy.on kk_
  replace hZ := hZ.on kk_
  replace hz := hz.on kk_
  replace hA := hA.on kk_
  replace ha := ha.on kk_
  replace hb := hb.on k2_
  replace b1 := Below.call b1 kk_
  clear k_ k2_ kk_
  obtain ⟨a0, a1⟩ := hA.rules2
  obtain ⟨z0, z1⟩ := hZ.rules2
  have hW := Below.refl v10.heap.size v10
  go_wp2_with fail
  refine (mul_sm ha hz ((bX.add bY).mul bZ) (by omega)).mono ?_
  rintro e v11 ⟨m, rfl, k_, hm⟩
  clear hW a0 a1 z0 z1
  go_upto_region 7 with fail
  refine wp_new1 fun v12 hM k2_ => ?_
  have kk_ := Below.call k_ k2_
  replace hX := hX.on kk_
  replace hx := hx.on kk_
  replace hY := hY.on kk_
  replace hy := hy.on kk_
  replace hZ := hZ.on kk_
  replace hz := hz.on kk_
  replace hA := hA.on kk_
  replace ha := ha.on kk_
  replace hB := hB.on kk_
  replace hb := hb.on kk_
  replace hm := hm.on k2_
  replace b1 := Below.call b1 kk_
  clear k_ k2_ kk_
  obtain ⟨x0, x1⟩ := hX.rules2
  obtain ⟨z0, z1⟩ := hZ.rules2
  have hW := Below.refl v12.heap.size v12
  go_wp2_with fail
  refine (mul_sm hx hz (bX.mul bZ) (by omega)).mono ?_
  rintro e v13 ⟨d, rfl, k_, hd⟩
  clear hW x0 x1 z0 z1
  go_upto_region 8 with fail
  refine wp_new1 fun v14 hD k2_ => ?_
  have kk_ := Below.call k_ k2_
  replace hX := hX.on kk_
  replace hx := hx.on kk_
  replace hY := hY.on kk_
  replace hy := hy.on kk_
  replace hZ := hZ.on kk_
  replace hz := hz.on kk_
  replace hA := hA.on kk_
  replace ha := ha.on kk_
  replace hB := hB.on kk_
  replace hb := hb.on kk_
  replace hM := hM.on kk_
  replace hm := hm.on kk_
  replace hd := hd.on k2_
  replace b1 := Below.call b1 kk_
  clear k_ k2_ kk_
  obtain ⟨z0, z1⟩ := hZ.rules2
  obtain ⟨y0, y1⟩ := hY.rules2
  have hW := Below.refl v14.heap.size v14
  go_wp2_with fail
  refine (mul_sm hz hy (bZ.mul bY) (by omega)).mono ?_
  rintro e v15 ⟨i, rfl, k_, hi⟩
  clear hW z0 z1 y0 y1
  go_upto_region 9 with fail
  refine wp_new1 fun v16 hI k2_ => ?_
  have kk_ := Below.call k_ k2_
  replace hX := hX.on kk_
  replace hx := hx.on kk_
  replace hY := hY.on kk_
  replace hy := hy.on kk_
  replace hZ := hZ.on kk_
  replace hz := hz.on kk_
  replace hA := hA.on kk_
  replace ha := ha.on kk_
  replace hB := hB.on kk_
  replace hb := hb.on kk_
  replace hM := hM.on kk_
  replace hm := hm.on kk_
  replace hD := hD.on kk_
  replace hd := hd.on kk_
  replace hi := hi.on k2_
  replace b1 := Below.call b1 kk_
  clear k_ k2_ kk_
  obtain ⟨d0, d1⟩ := hD.rules2
  obtain ⟨i0, i1⟩ := hI.rules2
  have hW := Below.refl v16.heap.size v16
  go_wp2_with fail
  refine (add_sm hd hi ((bX.mul bZ).add (bZ.mul bY)) (by omega)).mono ?_
  rintro e v17 ⟨g, rfl, k_, hg⟩
  clear hW d0 d1 i0 i1
  go_upto_region 10 with fail
  refine wp_new1 fun v18 hG k2_ => ?_
  have kk_ := Below.call k_ k2_
  replace hX := hX.on kk_
  replace hx := hx.on kk_
  replace hY := hY.on kk_
  replace hy := hy.on kk_
  replace hZ := hZ.on kk_
  replace hz := hz.on kk_
  replace hA := hA.on kk_
  replace ha := ha.on kk_
  replace hB := hB.on kk_
  replace hb := hb.on kk_
  replace hM := hM.on kk_
  replace hm := hm.on kk_
  replace hD := hD.on kk_
  replace hd := hd.on kk_
  replace hI := hI.on kk_
  replace hi := hi.on kk_
  replace hg := hg.on k2_
  replace b1 := Below.call b1 kk_
  clear k_ k2_ kk_
  obtain ⟨a0, a1⟩ := hA.rules2
  obtain ⟨y0, y1⟩ := hY.rules2
  have hW := Below.refl v18.heap.size v18
  go_wp2_with fail
  refine (sub_sm ha hy ((bX.add bY).sub (bY.mono (by omega))) (by omega)).mono ?_
  rintro e v19 ⟨n, rfl, k_, hn⟩
  clear hW a0 a1 y0 y1
  go_upto_region 11 with fail
  refine wp_new1 fun v20 hN k2_ => ?_
  have kk_ := Below.call k_ k2_
  replace hX := hX.on kk_
  replace hx := hx.on kk_
  replace hY := hY.on kk_
  replace hy := hy.on kk_
  replace hA := hA.on kk_
  replace ha := ha.on kk_
  replace hB := hB.on kk_
  replace hb := hb.on kk_
  replace hM := hM.on kk_
  replace hm := hm.on kk_
  replace hG := hG.on kk_
  replace hg := hg.on kk_
  replace hn := hn.on k2_
  replace b1 := Below.call b1 kk_
  clear k_ k2_ kk_
  have E1 : X + Y = Y + X := Int.add_comm _ _
  have E2 : (X + Y) * Z = X * Z + Z * Y := by rw [Int.add_mul, Int.mul_comm Z Y]
  have E3 : X + Y - Y = X := by omega
  obtain ⟨sa, hsa⟩ : ∃ s : ByteArray, s = ⟨(Lib.itoa (X + Y)).toArray⟩ := ⟨_, rfl⟩
  have HSA := Lib.hid (show ∀ w : World, a.is w (X + Y) → Tab w → Calls Tryz.prog 35 #[.agg #[.bool a.neg, .slice a.A a.n a.c]] w (fun e w' => e = .returned (.string sa) ∧ Below w.heap.size w w') from fun _ h t => by rw [hsa]; exact string_iv h t)
  have HSB := Lib.hid (show ∀ w : World, b.is w (Y + X) → Tab w → Calls Tryz.prog 35 #[.agg #[.bool b.neg, .slice b.A b.n b.c]] w (fun e w' => e = .returned (.string sa) ∧ Below w.heap.size w w') from fun _ h t => by rw [hsa, E1]; exact string_iv h t)
  have ht := ht0.on b1
  clear hsa hd hD hi hI
  replace E1 := Lib.hid E1
  replace E2 := Lib.hid E2
  replace E3 := Lib.hid E3
  go_wp2_with fail
  refine wp_region_specs v20 [Spec.eq (.agg #[.bool a.neg, .slice a.A a.n a.c]), Spec.eq (.agg #[.bool b.neg, .slice b.A b.n b.c]), Spec.eq (.int .i64 0), Spec.eq (.bool false), Spec.eq (.bool false), Spec.eq (.agg #[.bool m.neg, .slice m.A m.n m.c]), Spec.eq (.agg #[.bool g.neg, .slice g.A g.n g.c]), Spec.eq (.int .i64 0), Spec.eq (.bool false), Spec.eq (.bool false), Spec.eq (.bool false), Spec.eq (.agg #[.bool n.neg, .slice n.A n.n n.c]), Spec.eq (.agg #[.bool x.neg, .slice x.A x.n x.c]), Spec.eq (.int .i64 0), Spec.eq (.bool false), Spec.eq (.bool false), Spec.eq (.bool false), Spec.eq (.agg #[.bool a.neg, .slice a.A a.n a.c]), Spec.eq (.string sa), Spec.eq (.agg #[.bool b.neg, .slice b.A b.n b.c]), Spec.eq (.string sa), Spec.eq (.bool false), Spec.eq (.bool false)]
      (by kernel_rfl) (by kernel_rfl) rfl (by kernel_rfl) (Below.drew (Below.refl _ _)) ?_ ?_
  ·
    refine RegSteps.cons ?_ ?_
    · intro _ az wz hC hF hD _ K hK
      have q9 : az.tmps[9]? = some (.pointer (some ⟨v7.heap.size, 0, none⟩)) := hF 9 rfl
      obtain ⟨l0, l1, _⟩ := (hA.on hC).all2
      clear hF hD
      refine want_none rfl ?_
      go_simp
      exact hK _ _ hC (Below.refl _ _) rfl
    refine RegSteps.cons ?_ ?_
    · intro _ az wz hC hF hD _ K hK
      have q11 : az.tmps[11]? = some (.pointer (some ⟨v9.heap.size, 0, none⟩)) := hF 11 rfl
      obtain ⟨l0, l1, _⟩ := (hB.on hC).all2
      clear hF hD
      refine want_none rfl ?_
      go_simp
      exact hK _ _ hC (Below.refl _ _) rfl
    refine RegSteps.cons ?_ ?_
    · intro _ az wz hC hF hD _ K hK
      obtain ⟨_, q129, rfl⟩ := dep hD 0 rfl rfl rfl rfl
      obtain ⟨_, q130, rfl⟩ := dep hD 1 rfl rfl rfl rfl
      clear hF hD
      refine want_none rfl ?_
      go_simp
      refine (compare_eq (ha.on hC) (hb.on hC) E1.out).mono ?_
      rintro e wy ⟨rfl, k⟩
      exact hK _ _ (Below.call hC k) k rfl
    refine RegSteps.cons ?_ ?_
    · intro _ az wz hC hF hD _ K hK
      obtain ⟨_, q131, rfl⟩ := dep hD 2 rfl rfl rfl rfl
      clear hF hD
      refine want_none rfl ?_
      go_simp
      exact hK _ _ hC (Below.refl _ _) rfl
    refine RegSteps.cons ?_ ?_
    · intro _ az wz hC hF hD _ K hK
      obtain ⟨_, q132, rfl⟩ := dep hD 3 rfl rfl rfl rfl
      clear hF hD
      refine want_none rfl ?_
      go_simp
      exact hK _ _ hC (Below.refl _ _) rfl
    refine RegSteps.cons ?_ ?_
    · intro _ az wz hC hF hD _ K hK
      have q13 : az.tmps[13]? = some (.pointer (some ⟨v11.heap.size, 0, none⟩)) := hF 13 rfl
      obtain ⟨_, qg, rfl⟩ := dep hD 4 rfl rfl rfl rfl
      obtain ⟨l0, l1, _⟩ := (hM.on hC).all2
      clear hF hD
      refine want_yes rfl rfl rfl qg ?_
      go_simp
      exact hK _ _ hC (Below.refl _ _) rfl
    refine RegSteps.cons ?_ ?_
    · intro _ az wz hC hF hD _ K hK
      have q19 : az.tmps[19]? = some (.pointer (some ⟨v17.heap.size, 0, none⟩)) := hF 19 rfl
      obtain ⟨_, qg, rfl⟩ := dep hD 4 rfl rfl rfl rfl
      obtain ⟨l0, l1, _⟩ := (hG.on hC).all2
      clear hF hD
      refine want_yes rfl rfl rfl qg ?_
      go_simp
      exact hK _ _ hC (Below.refl _ _) rfl
    refine RegSteps.cons ?_ ?_
    · intro _ az wz hC hF hD _ K hK
      obtain ⟨_, q134, rfl⟩ := dep hD 5 rfl rfl rfl rfl
      obtain ⟨_, q135, rfl⟩ := dep hD 6 rfl rfl rfl rfl
      obtain ⟨_, qg, rfl⟩ := dep hD 4 rfl rfl rfl rfl
      clear hF hD
      refine want_yes rfl rfl rfl qg ?_
      go_simp
      refine (compare_eq (hm.on hC) (hg.on hC) E2.out).mono ?_
      rintro e wy ⟨rfl, k⟩
      exact hK _ _ (Below.call hC k) k rfl
    refine RegSteps.cons ?_ ?_
    · intro _ az wz hC hF hD _ K hK
      obtain ⟨_, q136, rfl⟩ := dep hD 7 rfl rfl rfl rfl
      obtain ⟨_, qg, rfl⟩ := dep hD 4 rfl rfl rfl rfl
      clear hF hD
      refine want_yes rfl rfl rfl qg ?_
      go_simp
      exact hK _ _ hC (Below.refl _ _) rfl
    refine RegSteps.cons ?_ ?_
    · intro _ az wz hC hF hD _ K hK
      obtain ⟨_, q133, rfl⟩ := dep hD 4 rfl rfl rfl rfl
      obtain ⟨_, q137, rfl⟩ := dep hD 8 rfl rfl rfl rfl
      clear hF hD
      refine want_none rfl ?_
      go_simp
      exact hK _ _ hC (Below.refl _ _) rfl
    refine RegSteps.cons ?_ ?_
    · intro _ az wz hC hF hD _ K hK
      obtain ⟨_, q138, rfl⟩ := dep hD 9 rfl rfl rfl rfl
      clear hF hD
      refine want_none rfl ?_
      go_simp
      exact hK _ _ hC (Below.refl _ _) rfl
    refine RegSteps.cons ?_ ?_
    · intro _ az wz hC hF hD _ K hK
      have q21 : az.tmps[21]? = some (.pointer (some ⟨v19.heap.size, 0, none⟩)) := hF 21 rfl
      obtain ⟨_, qg, rfl⟩ := dep hD 10 rfl rfl rfl rfl
      obtain ⟨l0, l1, _⟩ := (hN.on hC).all2
      clear hF hD
      refine want_yes rfl rfl rfl qg ?_
      go_simp
      exact hK _ _ hC (Below.refl _ _) rfl
    refine RegSteps.cons ?_ ?_
    · intro _ az wz hC hF hD _ K hK
      have q3 : az.tmps[3]? = some (.pointer (some ⟨v1.heap.size, 0, none⟩)) := hF 3 rfl
      obtain ⟨_, qg, rfl⟩ := dep hD 10 rfl rfl rfl rfl
      obtain ⟨l0, l1, _⟩ := (hX.on hC).all2
      clear hF hD
      refine want_yes rfl rfl rfl qg ?_
      go_simp
      exact hK _ _ hC (Below.refl _ _) rfl
    refine RegSteps.cons ?_ ?_
    · intro _ az wz hC hF hD _ K hK
      obtain ⟨_, q140, rfl⟩ := dep hD 11 rfl rfl rfl rfl
      obtain ⟨_, q141, rfl⟩ := dep hD 12 rfl rfl rfl rfl
      obtain ⟨_, qg, rfl⟩ := dep hD 10 rfl rfl rfl rfl
      clear hF hD
      refine want_yes rfl rfl rfl qg ?_
      go_simp
      refine (compare_eq (hn.on hC) (hx.on hC) E3.out).mono ?_
      rintro e wy ⟨rfl, k⟩
      exact hK _ _ (Below.call hC k) k rfl
    refine RegSteps.cons ?_ ?_
    · intro _ az wz hC hF hD _ K hK
      obtain ⟨_, q142, rfl⟩ := dep hD 13 rfl rfl rfl rfl
      obtain ⟨_, qg, rfl⟩ := dep hD 10 rfl rfl rfl rfl
      clear hF hD
      refine want_yes rfl rfl rfl qg ?_
      go_simp
      exact hK _ _ hC (Below.refl _ _) rfl
    refine RegSteps.cons ?_ ?_
    · intro _ az wz hC hF hD _ K hK
      obtain ⟨_, q139, rfl⟩ := dep hD 10 rfl rfl rfl rfl
      obtain ⟨_, q143, rfl⟩ := dep hD 14 rfl rfl rfl rfl
      clear hF hD
      refine want_none rfl ?_
      go_simp
      exact hK _ _ hC (Below.refl _ _) rfl
    refine RegSteps.cons ?_ ?_
    · intro _ az wz hC hF hD _ K hK
      obtain ⟨_, q144, rfl⟩ := dep hD 15 rfl rfl rfl rfl
      clear hF hD
      refine want_none rfl ?_
      go_simp
      exact hK _ _ hC (Below.refl _ _) rfl
    refine RegSteps.cons ?_ ?_
    · intro _ az wz hC hF hD _ K hK
      have q9 : az.tmps[9]? = some (.pointer (some ⟨v7.heap.size, 0, none⟩)) := hF 9 rfl
      obtain ⟨_, qg, rfl⟩ := dep hD 16 rfl rfl rfl rfl
      obtain ⟨l0, l1, _⟩ := (hA.on hC).all2
      clear hF hD
      refine want_yes rfl rfl rfl qg ?_
      go_simp
      exact hK _ _ hC (Below.refl _ _) rfl
    refine RegSteps.cons ?_ ?_
    · intro _ az wz hC hF hD _ K hK
      obtain ⟨_, q146, rfl⟩ := dep hD 17 rfl rfl rfl rfl
      obtain ⟨_, qg, rfl⟩ := dep hD 16 rfl rfl rfl rfl
      clear hF hD
      refine want_yes rfl rfl rfl qg ?_
      go_simp
      refine (HSA.out _ (ha.on hC) (ht.on hC)).mono ?_
      rintro e wy ⟨rfl, k⟩
      exact hK _ _ (Below.call hC k) k rfl
    refine RegSteps.cons ?_ ?_
    · intro _ az wz hC hF hD _ K hK
      have q11 : az.tmps[11]? = some (.pointer (some ⟨v9.heap.size, 0, none⟩)) := hF 11 rfl
      obtain ⟨_, qg, rfl⟩ := dep hD 16 rfl rfl rfl rfl
      obtain ⟨l0, l1, _⟩ := (hB.on hC).all2
      clear hF hD
      refine want_yes rfl rfl rfl qg ?_
      go_simp
      exact hK _ _ hC (Below.refl _ _) rfl
    refine RegSteps.cons ?_ ?_
    · intro _ az wz hC hF hD _ K hK
      obtain ⟨_, q148, rfl⟩ := dep hD 19 rfl rfl rfl rfl
      obtain ⟨_, qg, rfl⟩ := dep hD 16 rfl rfl rfl rfl
      clear hF hD
      refine want_yes rfl rfl rfl qg ?_
      go_simp
      refine (HSB.out _ (hb.on hC) (ht.on hC)).mono ?_
      rintro e wy ⟨rfl, k⟩
      exact hK _ _ (Below.call hC k) k rfl
    refine RegSteps.cons ?_ ?_
    · intro _ az wz hC hF hD _ K hK
      obtain ⟨_, q147, rfl⟩ := dep hD 18 rfl rfl rfl rfl
      obtain ⟨_, q149, rfl⟩ := dep hD 20 rfl rfl rfl rfl
      obtain ⟨_, qg, rfl⟩ := dep hD 16 rfl rfl rfl rfl
      clear hF hD
      refine want_yes rfl rfl rfl qg ?_
      go_simp
      exact hK _ _ hC (Below.refl _ _) rfl
    refine RegSteps.cons ?_ ?_
    · intro _ az wz hC hF hD _ K hK
      obtain ⟨_, q145, rfl⟩ := dep hD 16 rfl rfl rfl rfl
      obtain ⟨_, q150, rfl⟩ := dep hD 21 rfl rfl rfl rfl
      clear hF hD
      refine want_none rfl ?_
      go_simp
      exact hK _ _ hC (Below.refl _ _) rfl
    exact RegSteps.nil
  intro v21 hC
  rintro _ rfl _ rfl _ rfl _ rfl _ rfl _ rfl _ rfl _ rfl _ rfl _ rfl _ rfl _ rfl _ rfl _ rfl _ rfl _ rfl _ rfl _ rfl _ rfl _ rfl _ rfl _ rfl _ rfl
  simp only [FinOK, Act.put, List.setIfInBounds_toArray, List.set_cons_zero, List.set_cons_succ]
  replace hx := hx.on hC
  replace hy := hy.on hC
  replace hY := hY.on hC
  replace hm := hm.on hC
  replace hM := hM.on hC
  replace b1 := Below.call b1 hC
  clear hX hx hA ha hB hb hG hg hN hn ht hC HSA HSB
  obtain ⟨C, hCe⟩ : ∃ C, C = (X + Y) * Z := ⟨_, rfl⟩
  rw [← hCe] at hm
  have bC : Sm 37 C := by rw [hCe]; exact (bX.add bY).mul bZ
  clear hCe E1 E2 E3
  by_cases hY0 : Y = 0
  · subst hY0
    obtain ⟨m0, m1⟩ := hM.rules2
    obtain ⟨y0, y1⟩ := hY.rules2
    have hW := Below.refl v21.heap.size v21
    go_wp2_with fail
    refine (div_zero_iv hy).mono ?_
    rintro e v22 ⟨q, r, rfl, k1, _, _⟩
    go_upto_region 16 with fail
    refine wp_new2 fun v23 _ _ k2 => ?_
    have kk := Below.call k1 k2
    replace hY := hY.on kk
    replace hy := hy.on kk
    replace b1 := Below.call b1 kk
    clear m0 m1 y0 y1 hW k1 k2 kk
    obtain ⟨y0, y1, _, _⟩ := hY.all2
    have hcz : cmpI 0 0 = 0 := cmpI_eq rfl
    go_wp2_with fail
    refine (sign_iv hy).mono ?_
    rintro e v24 ⟨rfl, k1⟩
    rw [hcz]
    have ht := (ht0.on b1).on k1
    go_wp2_with fail
    refine (lives3_any _ ht).mono ?_
    rintro e v25 ⟨rfl, k2⟩
    have HB := Lib.hid (Below.call (Below.call b1 k1) k2)
    go_wp2
    go_returns
    exact ⟨rfl, HB.out⟩
  · obtain ⟨bP, bR, hsum, hr0, hr1⟩ := rest_bd hY0 bC bY (by omega)
    have bS : Sm 37 (C / Y * Y + C % Y) := by rw [hsum]; exact bC
    have HSUM := Lib.hid hsum
    clear hsum
    obtain ⟨m0, m1⟩ := hM.rules2
    obtain ⟨y0, y1⟩ := hY.rules2
    have hW := Below.refl v21.heap.size v21
    go_wp2_with fail
    refine (div_iv hm hy hY0).mono ?_
    rintro e v22 ⟨q, r, rfl, k_, hq, hr⟩
    clear hW m0 m1 y0 y1
    go_upto_region 16 with fail
    refine wp_new2 fun v23 hQ hR k2_ => ?_
    have kk_ := Below.call k_ k2_
    replace hY := hY.on kk_
    replace hy := hy.on kk_
    replace hM := hM.on kk_
    replace hm := hm.on kk_
    replace hq := hq.on k2_
    replace hr := hr.on k2_
    replace b1 := Below.call b1 kk_
    clear k_ k2_ kk_
    obtain ⟨q0, q1⟩ := hQ.rules2
    obtain ⟨y0, y1⟩ := hY.rules2
    have hW := Below.refl v23.heap.size v23
    go_wp2_with fail
    refine (mul_sm hq hy bP (by omega)).mono ?_
    rintro e v24 ⟨p, rfl, k_, hp⟩
    clear hW q0 q1 y0 y1
    go_upto_region 19 with fail
    refine wp_new1 fun v25 hP k2_ => ?_
    have kk_ := Below.call k_ k2_
    replace hY := hY.on kk_
    replace hy := hy.on kk_
    replace hM := hM.on kk_
    replace hm := hm.on kk_
    replace hR := hR.on kk_
    replace hr := hr.on kk_
    replace hp := hp.on k2_
    replace b1 := Below.call b1 kk_
    clear k_ k2_ kk_
    obtain ⟨p0, p1⟩ := hP.rules2
    obtain ⟨r0, r1⟩ := hR.rules2
    have hW := Below.refl v25.heap.size v25
    go_wp2_with fail
    refine (add_sm hp hr bS (by omega)).mono ?_
    rintro e v26 ⟨u, rfl, k_, hu⟩
    clear hW p0 p1 r0 r1
    go_upto_region 20 with fail
    refine wp_new1 fun v27 hU k2_ => ?_
    have kk_ := Below.call k_ k2_
    replace hY := hY.on kk_
    replace hy := hy.on kk_
    replace hM := hM.on kk_
    replace hm := hm.on kk_
    replace hR := hR.on kk_
    replace hr := hr.on kk_
    replace hu := hu.on k2_
    replace b1 := Below.call b1 kk_
    clear k_ k2_ kk_
    rw [HSUM.out] at hu
    obtain ⟨y0, y1, _, _⟩ := hY.all2
    have lM := hM.lt
    have lR := hR.lt
    have lU := hU.lt
    have lw := b1.size
    go_upto_region 21 with fail
    refine wp_new1 fun v28 hS k1 => ?_
    have he : RingEnd w v11.heap.size (v22.heap.size + 1) v26.heap.size v27.heap.size m r u y C (C % Y) Y v28 :=
      ⟨Below.call b1 k1, hM.on k1, hR.on k1, hU.on k1, hS, hm.on k1, hr.on k1, hu.on k1, hy.on k1⟩
    have hge : 0 ≤ cmpI (C % Y) 0 := by
      rcases Int.lt_or_eq_of_le hr0 with h | h
      · rw [cmpI_gt h]; omega
      · rw [cmpI_eq h.symm]; omega
    replace hY := hY.on k1
    replace hy := hy.on k1
    clear y0 y1 hM hR hU hS hm hr hu hQ hq hP hp b1 k1 HSUM bP bR bS
    obtain ⟨y0, y1⟩ := hY.rules2
    have hW := Below.refl v28.heap.size v28
    by_cases hneg : Y < 0
    · have hcn : cmpI Y 0 < 0 := by rw [cmpI_lt hneg]; omega
      have hlt : cmpI (C % Y) (-Y) < 0 := by rw [cmpI_lt (by omega)]; omega
      go_wp2_with fail
      refine (sign_iv hy).mono ?_
      rintro e v29 ⟨rfl, k1⟩
      go_wp2_with fail
      refine (neg_iv (hy.on k1)).mono ?_
      rintro e v30 ⟨s, rfl, k2, hs⟩
      replace he := he.on (Below.call k1 k2)
      obtain ⟨z0, z1, f0, f1⟩ := he.os_.all2
      replace he := he.put hs (by omega) (by omega) (by omega) (by omega)
      clear hs k1 k2 y0 y1 hW hY hy
      go_upto_region 23 with fail
      generalize (v30.setCell ⟨v27.heap.size, 0, none⟩ (.bool s.neg)).setCell ⟨v27.heap.size, 1, none⟩ (.slice s.A s.n s.c) = v31 at he ⊢
      clear z0 z1 f0 f1
      obtain ⟨b1, hM, hR, hU, hS, hm, hr, hu, hs⟩ := he
      obtain ⟨m0, m1⟩ := hM.rules2
      obtain ⟨r0, r1⟩ := hR.rules2
      obtain ⟨u0, u1⟩ := hU.rules2
      obtain ⟨s0, s1⟩ := hS.rules2
      have hW := Below.refl v31.heap.size v31
      have ht := ht0.on b1
      go_wp2_with fail
      refine (compare_eq hu hm rfl).mono ?_
      rintro e x1 ⟨rfl, k1⟩
      go_wp2_with fail
      refine (sign_iv (hr.on k1)).mono ?_
      rintro e x2 ⟨rfl, k2⟩
      replace k2 := Below.call k1 k2
      go_wp2_with fail
      refine (compare_iv (hr.on k2) (hs.on k2)).mono ?_
      rintro e x3 ⟨rfl, k3⟩
      replace k3 := Below.call k2 k3
      go_wp2_with fail
      refine (lives3_any _ (ht.on k3)).mono ?_
      rintro e x4 ⟨rfl, k4⟩
      have HB := Lib.hid (Below.call (Below.call b1 k3) k4)
      go_wp2
      go_returns
      exact ⟨rfl, HB.out⟩
    · have hcn : ¬ cmpI Y 0 < 0 := by rw [cmpI_gt (by omega)]; omega
      have hlt : cmpI (C % Y) Y < 0 := by rw [cmpI_lt (by omega)]; omega
      go_wp2_with fail
      refine (sign_iv hy).mono ?_
      rintro e v29 ⟨rfl, k1⟩
      replace he := he.on k1
      clear k1 y0 y1 hW hY hy
      go_upto_region 23 with fail
      obtain ⟨b1, hM, hR, hU, hS, hm, hr, hu, hs⟩ := he
      obtain ⟨m0, m1⟩ := hM.rules2
      obtain ⟨r0, r1⟩ := hR.rules2
      obtain ⟨u0, u1⟩ := hU.rules2
      obtain ⟨s0, s1⟩ := hS.rules2
      have hW := Below.refl v29.heap.size v29
      have ht := ht0.on b1
      go_wp2_with fail
      refine (compare_eq hu hm rfl).mono ?_
      rintro e x1 ⟨rfl, k1⟩
      go_wp2_with fail
      refine (sign_iv (hr.on k1)).mono ?_
      rintro e x2 ⟨rfl, k2⟩
      replace k2 := Below.call k1 k2
      go_wp2_with fail
      refine (compare_iv (hr.on k2) (hs.on k2)).mono ?_
      rintro e x3 ⟨rfl, k3⟩
      replace k3 := Below.call k2 k3
      go_wp2_with fail
      refine (lives3_any _ (ht.on k3)).mono ?_
      rintro e x4 ⟨rfl, k4⟩
      have HB := Lib.hid (Below.call (Below.call b1 k3) k4)
      go_wp2
      go_returns
      exact ⟨rfl, HB.out⟩
end Go.Proofs.YthafhbogpfggjaaGreatDoor
