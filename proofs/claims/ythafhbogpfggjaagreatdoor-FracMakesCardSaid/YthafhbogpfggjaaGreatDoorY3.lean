/-
  The law FracMakes: the walk.
-/
import Derived.Test.YthafhbogpfggjaaGreatDoorB7
import Derived.Test.YthafhbogpfggjaaGreatDoorB6
import Derived.Test.YthafhbogpfggjaaGreatDoorA4
namespace Go.Proofs.YthafhbogpfggjaaGreatDoor
open Go.RowKit Mag

def RetNM (w : World) (k : Nat) (e : Ending) (w' : World) : Prop := ∃ x : IV, e = .returned (.agg #[.bool x.neg, .slice x.A x.n x.c]) ∧ Below w.heap.size w w' ∧ NM k x w'
theorem pow_nm (n : Nat) (hn : n ≤ 16384) (i : Int) (hi : i = (n : Int)) (k : Nat) (hk : n + 13 ≤ 13 * k) (w : World) : Calls Tryz.prog 62 #[.int .i64 i] w (RetNM w k) := by
  refine (rPower_nat n w hn i hi).mono fun _ _ ⟨x, h1, h2, h3⟩ => ⟨x, h1, h2, _, ?_, h3⟩
  obtain ⟨j, rfl⟩ : ∃ j, k = j + 1 := ⟨k - 1, by omega⟩
  have h := two_lt (b := n) (j := j) (by omega)
  unfold Sm
  rw [Int.natAbs_natCast]
  exact h
theorem pow9000 (w : World) : Calls Tryz.prog 62 #[.int .i64 9000] w (RetNM w 700) := pow_nm 9000 (by omega) 9000 rfl 700 (by omega) w
theorem nm_mul {x y : IV} {w : World} (hx : NM 130 x w) (hy : NM 700 y w) : Calls Tryz.prog 44 #[.agg #[.bool x.neg, .slice x.A x.n x.c], .agg #[.bool y.neg, .slice y.A y.n y.c]] w (RetNM w 840) := by
  obtain ⟨a, h1, h2⟩ := hx
  obtain ⟨b, h3, h4⟩ := hy
  have n1 := h1.len h2
  have n2 := h3.len h4
  exact (rMul_any h2 h4 (by unfold many; omega)).mono fun _ _ ⟨x, k1, k2, k3⟩ => ⟨x, k1, k2, _, (h1.mul h3).mono (by omega), k3⟩
theorem nm_neg {x : IV} {w : World} {k : Nat} (hx : NM k x w) : Calls Tryz.prog 52 #[.agg #[.bool x.neg, .slice x.A x.n x.c]] w (RetNM w k) := by
  obtain ⟨a, h1, h2⟩ := hx
  exact (rNeg_any h2).mono fun _ _ ⟨x, k1, k2, k3⟩ => ⟨x, k1, k2, _, h1.neg, k3⟩
theorem nm_of (n : Int) (w : World) (hn : in64 n) : Calls Tryz.prog 39 #[.int .i64 n] w (RetNM w 5) :=
  (rOf_any n w hn.1 hn.2).mono fun _ _ ⟨x, k1, k2, k3⟩ => ⟨x, k1, k2, _, Sm.small hn, k3⟩
theorem NList.mk6 {w : World} {t : TypeId} {x y z u v s : IV} {a b c d e f k : Nat} (hx : NM a x w) (hy : NM b y w) (hz : NM c z w) (hu : NM d u w) (hv : NM e v w) (hs : NM f s w) (h1 : a ≤ k := by omega) (h2 : b ≤ k := by omega) (h3 : c ≤ k := by omega) (h4 : d ≤ k := by omega) (h5 : e ≤ k := by omega) (h6 : f ≤ k := by omega) :
    NList (w.alloc (.cells #[.bool x.neg, .slice x.A x.n x.c, .bool y.neg, .slice y.A y.n y.c, .bool z.neg, .slice z.A z.n z.c, .bool u.neg, .slice u.A u.n u.c, .bool v.neg, .slice v.A v.n v.c, .bool s.neg, .slice s.A s.n s.c] t)) w.heap.size 6 k := fun i hi => by
  have hO : Own (w.alloc (.cells #[.bool x.neg, .slice x.A x.n x.c, .bool y.neg, .slice y.A y.n y.c, .bool z.neg, .slice z.A z.n z.c, .bool u.neg, .slice u.A u.n u.c, .bool v.neg, .slice v.A v.n v.c, .bool s.neg, .slice s.A s.n s.c] t)) w.heap.size t [.bool x.neg, .slice x.A x.n x.c, .bool y.neg, .slice y.A y.n y.c, .bool z.neg, .slice z.A z.n z.c, .bool u.neg, .slice u.A u.n u.c, .bool v.neg, .slice v.A v.n v.c, .bool s.neg, .slice s.A s.n s.c] := Own.new w t _
  have hb := below_new w (.cells #[.bool x.neg, .slice x.A x.n x.c, .bool y.neg, .slice y.A y.n y.c, .bool z.neg, .slice z.A z.n z.c, .bool u.neg, .slice u.A u.n u.c, .bool v.neg, .slice v.A v.n v.c, .bool s.neg, .slice s.A s.n s.c] t)
  match i, hi with
  | 0, _ => obtain ⟨r, k1, k2⟩ := hx; exact ⟨x, r, k1.mono h1, k2.on hb, hO.cell 0, hO.cell 1, hO.lt⟩
  | 1, _ => obtain ⟨r, k1, k2⟩ := hy; exact ⟨y, r, k1.mono h2, k2.on hb, hO.cell 2, hO.cell 3, hO.lt⟩
  | 2, _ => obtain ⟨r, k1, k2⟩ := hz; exact ⟨z, r, k1.mono h3, k2.on hb, hO.cell 4, hO.cell 5, hO.lt⟩
  | 3, _ => obtain ⟨r, k1, k2⟩ := hu; exact ⟨u, r, k1.mono h4, k2.on hb, hO.cell 6, hO.cell 7, hO.lt⟩
  | 4, _ => obtain ⟨r, k1, k2⟩ := hv; exact ⟨v, r, k1.mono h5, k2.on hb, hO.cell 8, hO.cell 9, hO.lt⟩
  | 5, _ => obtain ⟨r, k1, k2⟩ := hs; exact ⟨s, r, k1.mono h6, k2.on hb, hO.cell 10, hO.cell 11, hO.lt⟩
theorem NAt.both {w : World} {g i k : Nat} {x : IV} {z : Int} (h : NAt w g i k x z) : ∀ u, Below w.heap.size w u → u.cell? ⟨g, i * 2, none⟩ = some (.bool x.neg) ∧ u.cell? ⟨g, i * 2 + 1, none⟩ = some (.slice x.A x.n x.c) :=
  fun u hu => ⟨h.rules.1 u hu, h.rules.2 u hu⟩
set_option maxRecDepth 100000 in
set_option maxHeartbeats 1600000 in
theorem ofG (n d : Int) (w : World) (hn : in64 n) (hd : in64 d) : Calls Tryz.prog 67 #[.int .i64 n, .int .i64 d] w (RetFRE w (makeR n d).1 (makeR n d).2) := by
  obtain ⟨m, hm⟩ : ∃ m, makeR n d = m := ⟨_, rfl⟩
  have HM : Hid (∀ (x y : IV) (u : World), x.is u n → y.is u d → Calls Tryz.prog 63 #[.agg #[.bool x.neg, .slice x.A x.n x.c], .agg #[.bool y.neg, .slice y.A y.n y.c]] u (RetFRE u m.1 m.2)) := Lib.hid fun x y u h1 h2 => by rw [← hm]; exact makeF h1 h2
  rw [hm]
  clear hm
  go_enter Tryz.func67, Tryz.ntmps67
  go_upto_region 1 with fail
  refine wp_new1 fun W hO hB => ?_
  go_wp2_with fail
  refine (from_iv n _ hn.1 hn.2).mono ?_
  rintro e w1 ⟨x, rfl, hb1, hx⟩
  go_wp2_with fail
  refine (from_iv d _ hd.1 hd.2).mono ?_
  rintro e w2 ⟨y, rfl, hb2, hy⟩
  go_wp2_with fail
  refine (HM.out _ _ _ (hx.on hb2) hy).mono ?_
  rintro e w3 ⟨f, rfl, hb3, hf⟩
  have oz := ((hO.on hb1).on hb2).on hb3
  have hB3 := Below.call (Below.call (Below.call hB hb1) hb2) hb3
  obtain ⟨z0, z1, z2, z3, f0, f1, f2, f3⟩ := oz.all4
  have HF := Lib.hid (put_fre (err := m.2) hB3 (by omega) oz (by simp) (by simp) (by simp) (by simp) hf)
  obtain ⟨q0, q1, q2, q3, _⟩ := (oz.put4 (.bool f.p.neg) (.slice f.p.A f.p.n f.p.c) (.bool f.l.neg) (.slice f.l.A f.l.n f.l.c)).all4
  clear oz hf hO hB hx hy
  go_wp2
  exact bodyPost_ret (v := .tuple #[.agg #[.bool f.p.neg, .slice f.p.A f.p.n f.p.c, .bool f.l.neg, .slice f.l.A f.l.n f.l.c], .int .i64 m.2]) (by simp [results, Tryz.results67, go_sem, q0, q1, q2, q3]) rfl HF.out
set_option maxRecDepth 100000 in
set_option maxHeartbeats 12800000 in
theorem FracMakes_any {w : World} (n d0 : Int) (hn : in64 n) (hd0 : in64 d0) {A : Option Addr} {l : List Int} {c0 : Nat} (h : IntsIs w A l c0) (hTab0 : Tab w) : Calls Tryz.prog 13 #[.int .i64 n, .int .i64 d0, .slice A l.length c0] w (RetBool w true) := by
  have HP : Hid (∀ (j : Nat) (i : Int) (u : World), j ≤ 100 → i = (j : Int) → IntsIs u A l c0 → Calls Tryz.prog 61 #[.slice A l.length c0, .int .i64 i] u (RetInt u (l.getD j 0))) := Lib.hid fun j i u h1 h2 h3 => fPick_any h3 j h1 i h2
  have HG := Lib.hid (getD_rg h.rg)
  obtain ⟨ds, hds⟩ : ∃ ds, makeR n d0 = ds := ⟨_, rfl⟩
  have HO1 : Hid (∀ u, Calls Tryz.prog 67 #[.int .i64 n, .int .i64 d0] u (RetFRE u ds.1 ds.2)) := Lib.hid fun u => by rw [← hds]; exact ofG n d0 u hn hd0
  have HO2 : Hid (∀ (x y : IV) (u : World), NI x u n → NI y u d0 → Calls Tryz.prog 65 #[.agg #[.bool x.neg, .slice x.A x.n x.c], .agg #[.bool y.neg, .slice y.A y.n y.c]] u (RetNRE u ds.1 ds.2)) := Lib.hid fun x y u h1 h2 => by
    rw [← hds]
    exact fMake_any h1 h2 (by have := (Sm.small hn).len h1; unfold many; omega) (by have := (Sm.small hd0).len h2; unfold many; omega)
  clear hds
  have b1 := Below.refl w.heap.size w
  have hTab := hTab0
  go_enter Tryz.func13, Tryz.ntmps13
  go_wp2_with fail
  refine (HP.out 0 _ _ (by omega) rfl h).mono ?_
  rintro e v1 ⟨rfl, k1_⟩
  replace h := h.on k1_
  replace hTab := hTab.on k1_
  replace b1 := Below.call b1 k1_
  clear k1_
  go_wp2_with fail
  refine (HP.out 1 _ _ (by omega) rfl h).mono ?_
  rintro e v2 ⟨rfl, k1_⟩
  replace h := h.on k1_
  replace hTab := hTab.on k1_
  replace b1 := Below.call b1 k1_
  clear k1_
  go_wp2_with fail
  refine (fNumber_any _ _ _ (HG.out _) (HG.out _)).mono ?_
  rintro e v3 ⟨z_, hz_, x, rfl, k1_, hx⟩
  go_upto_region 2 with fail
  refine wp_new1 fun v4 hX k2_ => ?_
  have kk_ := Below.call k1_ k2_
  replace h := h.on kk_
  replace hTab := hTab.on kk_
  replace hx := hx.on k2_
  replace b1 := Below.call b1 kk_
  clear k1_ k2_ kk_
  have hx : NM 130 x v4 := ⟨z_, hz_, hx⟩
  clear hz_
  obtain ⟨b7, e_⟩ : ∃ b7, b7 = v3.heap.size := ⟨_, rfl⟩
  rw [← e_] at hX ⊢
  clear e_
  go_wp2_with fail
  refine (HP.out 2 _ _ (by omega) rfl h).mono ?_
  rintro e v5 ⟨rfl, k1_⟩
  replace h := h.on k1_
  replace hTab := hTab.on k1_
  replace hx := hx.on k1_
  replace hX := hX.on k1_
  replace b1 := Below.call b1 k1_
  clear k1_
  go_wp2_with fail
  refine (HP.out 3 _ _ (by omega) rfl h).mono ?_
  rintro e v6 ⟨rfl, k1_⟩
  replace h := h.on k1_
  replace hTab := hTab.on k1_
  replace hx := hx.on k1_
  replace hX := hX.on k1_
  replace b1 := Below.call b1 k1_
  clear k1_
  go_wp2_with fail
  refine (fNumber_any _ _ _ (HG.out _) (HG.out _)).mono ?_
  rintro e v7 ⟨z_, hz_, y, rfl, k1_, hy⟩
  go_upto_region 3 with fail
  refine wp_new1 fun v8 hY k2_ => ?_
  have kk_ := Below.call k1_ k2_
  replace h := h.on kk_
  replace hTab := hTab.on kk_
  replace hx := hx.on kk_
  replace hX := hX.on kk_
  replace hy := hy.on k2_
  replace b1 := Below.call b1 kk_
  clear k1_ k2_ kk_
  have hy : NM 130 y v8 := ⟨z_, hz_, hy⟩
  clear hz_
  obtain ⟨b8, e_⟩ : ∃ b8, b8 = v7.heap.size := ⟨_, rfl⟩
  rw [← e_] at hY ⊢
  clear e_
  refine wp_region_boxes v8 [Spec.eq (.agg #[.bool x.neg, .slice x.A x.n x.c]), sNM 700, sNM 840, Spec.any, Spec.any]
      [{ A := 3, j := 4, t := 9, T := 44, zs := [.bool false, .slice none 0 0], X := fun us w => ∃ x : IV, us = [.bool x.neg, .slice x.A x.n x.c] ∧ NM 840 x w, up := fun ⟨x, e, hx⟩ k => ⟨x, e, hx.keeps k⟩ }]
      (by kernel_rfl) (by kernel_rfl) rfl (by kernel_rfl) rfl (Below.drew (Below.refl _ _)) ?_ ?_ ⟨rfl, rfl, trivial⟩ ?_
  ·
    refine RegSteps.cons ?_ ?_
    · intro _ az wz hC hF hD _ K hK
      have q7 : az.tmps[7]? = some (.pointer (some ⟨b7, 0, none⟩)) := hF 7 rfl
      obtain ⟨l0, l1, _⟩ := (hX.on hC).all2
      clear hF hD
      refine want_none rfl ?_
      go_simp
      exact hK _ _ hC (Below.refl _ _) rfl
    refine RegSteps.cons ?_ ?_
    · intro _ az wz hC hF hD _ K hK
      clear hF hD
      refine want_none rfl ?_
      go_simp
      refine (pow9000 _).mono ?_
      rintro e wy ⟨x, rfl, k, hx⟩
      exact hK _ _ (Below.call hC k) k ⟨x, rfl, hx⟩
    refine RegSteps.cons ?_ ?_
    · intro _ az wz hC hF hD _ K hK
      obtain ⟨_, q31, rfl⟩ := dep hD 0 rfl rfl rfl rfl
      obtain ⟨_, q32, x32, rfl, hx32⟩ := dep hD 1 rfl rfl rfl rfl
      clear hF hD
      refine want_none rfl ?_
      go_simp
      refine (nm_mul (hx.on hC) hx32).mono ?_
      rintro e wy ⟨x, rfl, k, hx⟩
      exact hK _ _ (Below.call hC k) k ⟨x, rfl, hx⟩
    refine RegSteps.cons ?_ ?_
    · exact fun h => by cases h
    refine RegSteps.cons ?_ ?_
    · exact fun h => by cases h
    exact RegSteps.nil
  · refine ⟨?_, trivial⟩
    · refine ⟨⟨_, rfl, rfl, rfl, fun az wz K hK => by go_simp; exact hK⟩, ⟨_, rfl, rfl, rfl, ?_⟩, by simp [Word], by simp⟩
      intro az wz gz cs hC hF hD hA K hK
      obtain ⟨p1, p2, p3, p4, p5⟩ := hA
      obtain ⟨_, q33, x, rfl, hx⟩ := dep hD 2 rfl rfl rfl rfl
      obtain ⟨c0, c1, rfl⟩ := list_2 (l := cs) p4
      have z0 := p3.c0
      have z1 := p3.c1
      have f0 := p3.frozen 0
      have f1 := p3.frozen 1
      clear hF hD p3 p5
      refine want_none rfl ?_
      go_simp
      exact hK [.bool x.neg, .slice x.A x.n x.c] rfl (by simp [Word]) ⟨x, rfl, hx⟩
  intro v9 gs hC hgl hbf
  obtain ⟨b9, rfl⟩ := list_1 hgl
  obtain ⟨⟨hg0, us0, hOb0, ⟨z, rfl, hz⟩⟩, _⟩ := hbf
  rintro _ rfl _ ⟨y32, rfl, _⟩ _ ⟨y33, rfl, _⟩ _ rfl _ _
  simp only [FinOK, Act.put, List.setIfInBounds_toArray, List.set_cons_zero, List.set_cons_succ]
  replace h := h.on hC
  replace hTab := hTab.on hC
  replace hx := hx.on hC
  replace hX := hX.on hC
  replace hy := hy.on hC
  replace hY := hY.on hC
  replace b1 := Below.call b1 hC
  have hZ := hOb0
  clear hOb0
  clear hC
  clear h
  clear HP HG
  go_wp2_with fail
  refine wp_region_specs v9 [Spec.eq (.agg #[.bool x.neg, .slice x.A x.n x.c]), Spec.eq (.agg #[.bool y.neg, .slice y.A y.n y.c]), Spec.eq (.agg #[.bool y.neg, .slice y.A y.n y.c]), sNM 130, sNM 5, Spec.eq (.int .i64 n), sNM 5, Spec.eq (.agg #[.bool z.neg, .slice z.A z.n z.c]), sNL 6 840, sNL 6 840]
      (by kernel_rfl) (by kernel_rfl) rfl (by kernel_rfl) (Below.drew (Below.refl _ _)) ?_ ?_
  ·
    refine RegSteps.cons ?_ ?_
    · intro _ az wz hC hF hD _ K hK
      have q7 : az.tmps[7]? = some (.pointer (some ⟨b7, 0, none⟩)) := hF 7 rfl
      obtain ⟨l0, l1, _⟩ := (hX.on hC).all2
      clear hF hD
      refine want_none rfl ?_
      go_simp
      exact hK _ _ hC (Below.refl _ _) rfl
    refine RegSteps.cons ?_ ?_
    · intro _ az wz hC hF hD _ K hK
      have q8 : az.tmps[8]? = some (.pointer (some ⟨b8, 0, none⟩)) := hF 8 rfl
      obtain ⟨l0, l1, _⟩ := (hY.on hC).all2
      clear hF hD
      refine want_none rfl ?_
      go_simp
      exact hK _ _ hC (Below.refl _ _) rfl
    refine RegSteps.cons ?_ ?_
    · intro _ az wz hC hF hD _ K hK
      have q8 : az.tmps[8]? = some (.pointer (some ⟨b8, 0, none⟩)) := hF 8 rfl
      obtain ⟨l0, l1, _⟩ := (hY.on hC).all2
      clear hF hD
      refine want_none rfl ?_
      go_simp
      exact hK _ _ hC (Below.refl _ _) rfl
    refine RegSteps.cons ?_ ?_
    · intro _ az wz hC hF hD _ K hK
      obtain ⟨_, q36, rfl⟩ := dep hD 2 rfl rfl rfl rfl
      clear hF hD
      refine want_none rfl ?_
      go_simp
      refine (nm_neg (hy.on hC)).mono ?_
      rintro e wy ⟨x, rfl, k, hx⟩
      exact hK _ _ (Below.call hC k) k ⟨x, rfl, hx⟩
    refine RegSteps.cons ?_ ?_
    · intro _ az wz hC hF hD _ K hK
      clear hF hD
      refine want_none rfl ?_
      go_simp
      refine (nm_of 0 _ ⟨by omega, by omega⟩).mono ?_
      rintro e wy ⟨x, rfl, k, hx⟩
      exact hK _ _ (Below.call hC k) k ⟨x, rfl, hx⟩
    refine RegSteps.cons ?_ ?_
    · intro _ az wz hC hF hD _ K hK
      have q0 : az.tmps[0]? = some (.int .i64 n) := hF 0 rfl
      clear hF hD
      refine want_none rfl ?_
      go_simp
      exact hK _ _ hC (Below.refl _ _) rfl
    refine RegSteps.cons ?_ ?_
    · intro _ az wz hC hF hD _ K hK
      obtain ⟨_, q39, rfl⟩ := dep hD 5 rfl rfl rfl rfl
      clear hF hD
      refine want_none rfl ?_
      go_simp
      refine (nm_of n _ hn).mono ?_
      rintro e wy ⟨x, rfl, k, hx⟩
      exact hK _ _ (Below.call hC k) k ⟨x, rfl, hx⟩
    refine RegSteps.cons ?_ ?_
    · intro _ az wz hC hF hD _ K hK
      have q9 : az.tmps[9]? = some (.pointer (some ⟨b9, 0, none⟩)) := hF 9 rfl
      obtain ⟨l0, l1, _⟩ := (hZ.on hC).all2
      clear hF hD
      refine want_none rfl ?_
      go_simp
      exact hK _ _ hC (Below.refl _ _) rfl
    refine RegSteps.cons ?_ ?_
    · intro _ az wz hC hF hD _ K hK
      obtain ⟨_, q34, rfl⟩ := dep hD 0 rfl rfl rfl rfl
      obtain ⟨_, q35, rfl⟩ := dep hD 1 rfl rfl rfl rfl
      obtain ⟨_, q37, x37, rfl, hx37⟩ := dep hD 3 rfl rfl rfl rfl
      obtain ⟨_, q38, x38, rfl, hx38⟩ := dep hD 4 rfl rfl rfl rfl
      obtain ⟨_, q40, x40, rfl, hx40⟩ := dep hD 6 rfl rfl rfl rfl
      obtain ⟨_, q41, rfl⟩ := dep hD 7 rfl rfl rfl rfl
      clear hF hD
      refine want_none rfl ?_
      go_simp
      exact hK _ _ (Below.alloc hC hC.size _) (below_new _ _) ⟨_, rfl, NList.mk6 (hx.on hC) (hy.on hC) hx37 hx38 hx40 (hz.on hC)⟩
    refine RegSteps.cons ?_ ?_
    · intro _ az wz hC hF hD _ K hK
      obtain ⟨_, q42, x42, rfl, hx42⟩ := dep hD 8 rfl rfl rfl rfl
      clear hF hD
      refine want_none rfl ?_
      go_simp
      exact hK _ _ hC (Below.refl _ _) ⟨x42, rfl, hx42⟩
    exact RegSteps.nil
  intro v10 hC
  rintro _ rfl _ rfl _ rfl _ ⟨y37, rfl, _⟩ _ ⟨y38, rfl, _⟩ _ rfl _ ⟨y40, rfl, _⟩ _ rfl _ ⟨y42, rfl, _⟩ _ ⟨y10, rfl, hy10⟩
  simp only [FinOK, Act.put, List.setIfInBounds_toArray, List.set_cons_zero, List.set_cons_succ]
  replace hTab := hTab.on hC
  replace hx := hx.on hC
  replace hX := hX.on hC
  replace hy := hy.on hC
  replace hY := hY.on hC
  replace hz := hz.on hC
  replace hZ := hZ.on hC
  replace b1 := Below.call b1 hC
  have hL := hy10
  clear hy10
  clear hC
  clear hx hX hy hY hz hZ
  obtain ⟨W0, hW0⟩ : ∃ W0, W0 = v10 := ⟨_, rfl⟩
  subst hW0
  go_wp2_with fail
  go_loopw [11] (fun s wr => ∃ i : Nat, i ≤ 6 ∧ s = .int .i64 (i : Int) ∧ Below W0.heap.size W0 wr) (fun s _ => 6 - (intOf s).toNat)
  case atStart => exact ⟨0, by omega, rfl, Below.refl _ _⟩
  case round =>
    obtain ⟨i, hi, rfl, hbr⟩ := hrel
    rcases Nat.lt_or_eq_of_le hi with hlt | heq
    · have i4 : (i : Int) < 6 := by omega
      have i0 : (0 : Int) ≤ (i : Int) := by omega
      go_wp2_with fail
      go_loopw [12] (fun s wr => ∃ k : Nat, k ≤ 3 ∧ s = .int .i64 (k : Int) ∧ Below W0.heap.size W0 wr) (fun s _ => 3 - (intOf s).toNat)
      case atStart => exact ⟨0, by omega, rfl, hbr⟩
      case round =>
        obtain ⟨k, hk, rfl, hbr⟩ := hrel
        rcases Nat.lt_or_eq_of_le hk with hlt2 | heq2
        · have k3 : (k : Int) < 3 := by omega
          have k6 : (k : Int) < 6 := by omega
          have k0 : (0 : Int) ≤ (k : Int) := by omega
          obtain ⟨p, a, hp0⟩ := (hL.on hbr) i hlt
          obtain ⟨q, b, hq0⟩ := (hL.on hbr) k (by omega)
          have fa := hp0.sm.top (by omega)
          have fb := hq0.sm.top (by omega)
          have na := hp0.sm.len hp0.ni
          have nb := hq0.sm.len hq0.ni
          have hTr := hTab.on hbr
          obtain ⟨d, hd⟩ : ∃ d, makeR a b = d := ⟨_, rfl⟩
          have HM1 : Hid (∀ (x y : IV) (u : World), x.is u a → y.is u b → Calls Tryz.prog 63 #[.agg #[.bool x.neg, .slice x.A x.n x.c], .agg #[.bool y.neg, .slice y.A y.n y.c]] u (RetFRE u d.1 d.2)) := Lib.hid fun x y u h1 h2 => by rw [← hd]; exact makeF h1 h2
          have HM2 : Hid (∀ (u : World), NI p u a → NI q u b → Calls Tryz.prog 65 #[.agg #[.bool p.neg, .slice p.A p.n p.c], .agg #[.bool q.neg, .slice q.A q.n q.c]] u (RetNRE u d.1 d.2)) := Lib.hid fun u h1 h2 => by
            rw [← hd]
            exact fMake_any h1 h2 (by unfold many; omega) (by unfold many; omega)
          have HbW := Lib.hid hbr
          have b2 := Below.refl wr.heap.size wr
          clear hd hbr na nb
          obtain ⟨V0, hV0⟩ : ∃ V0, V0 = wr := ⟨_, rfl⟩
          subst hV0
          go_wp2_with fail
          have hp := hp0.ni
          have hq := hq0.ni
          have rp := hp0.both
          have rq := hq0.both
          refine wp_region_boxes V0 [Spec.eq (.slice (some ⟨y10, 0, none⟩) 6 6), Spec.eq (.int .i64 (i : Int)), Spec.eq (.pointer (some ⟨y10, i * 2, none⟩)), Spec.eq (.agg #[.bool p.neg, .slice p.A p.n p.c]), sWp a, Spec.eq (.slice (some ⟨y10, 0, none⟩) 6 6), Spec.eq (.int .i64 (k : Int)), Spec.eq (.pointer (some ⟨y10, k * 2, none⟩)), Spec.eq (.agg #[.bool q.neg, .slice q.A q.n q.c]), sWp b, sFRE d.1 d.2, sFRE d.1 d.2, sFR d.1, Spec.eq (.int .i64 d.2), Spec.any, Spec.any, Spec.eq (.int .i64 d.2)]
              [{ A := 14, j := 15, t := 13, T := 31, zs := [.bool false, .slice none 0 0, .bool false, .slice none 0 0], X := fun us w => ∃ x : FV, us = [.bool x.p.neg, .slice x.p.A x.p.n x.p.c, .bool x.l.neg, .slice x.l.A x.l.n x.l.c] ∧ FR x w d.1, up := fun ⟨x, e, hx⟩ k => ⟨x, e, hx.keeps k⟩ }]
              (by kernel_rfl) (by kernel_rfl) rfl (by kernel_rfl) rfl (Below.drew (Below.refl _ _)) ?_ ?_ ⟨rfl, rfl, trivial⟩ ?_
          ·
            refine RegSteps.cons ?_ ?_
            · intro _ az wz hC hF hD _ K hK
              have q10 : az.tmps[10]? = some (.slice (some ⟨y10, 0, none⟩) 6 6) := hF 10 rfl
              clear hF hD
              refine want_none rfl ?_
              go_simp
              exact hK _ _ hC (Below.refl _ _) rfl
            refine RegSteps.cons ?_ ?_
            · intro _ az wz hC hF hD _ K hK
              have q11 : az.tmps[11]? = some (.int .i64 (i : Int)) := hF 11 rfl
              clear hF hD
              refine want_none rfl ?_
              go_simp
              exact hK _ _ hC (Below.refl _ _) rfl
            refine RegSteps.cons ?_ ?_
            · intro _ az wz hC hF hD _ K hK
              obtain ⟨_, q54, rfl⟩ := dep hD 0 rfl rfl rfl rfl
              obtain ⟨_, q55, rfl⟩ := dep hD 1 rfl rfl rfl rfl
              clear hF hD
              refine want_none rfl ?_
              go_simp
              exact hK _ _ hC (Below.refl _ _) rfl
            refine RegSteps.cons ?_ ?_
            · intro _ az wz hC hF hD _ K hK
              obtain ⟨_, q56, rfl⟩ := dep hD 2 rfl rfl rfl rfl
              obtain ⟨l0, l1⟩ := rp _ hC
              clear hF hD
              refine want_none rfl ?_
              go_simp
              exact hK _ _ hC (Below.refl _ _) rfl
            refine RegSteps.cons ?_ ?_
            · intro _ az wz hC hF hD _ K hK
              obtain ⟨_, q57, rfl⟩ := dep hD 3 rfl rfl rfl rfl
              clear hF hD
              refine want_none rfl ?_
              go_simp
              refine (number_any (hp.on hC) fa).mono ?_
              rintro e wy ⟨x, rfl, k, hx⟩
              exact hK _ _ (Below.call hC k) k ⟨x, rfl, hx⟩
            refine RegSteps.cons ?_ ?_
            · intro _ az wz hC hF hD _ K hK
              have q10 : az.tmps[10]? = some (.slice (some ⟨y10, 0, none⟩) 6 6) := hF 10 rfl
              clear hF hD
              refine want_none rfl ?_
              go_simp
              exact hK _ _ hC (Below.refl _ _) rfl
            refine RegSteps.cons ?_ ?_
            · intro _ az wz hC hF hD _ K hK
              have q12 : az.tmps[12]? = some (.int .i64 (k : Int)) := hF 12 rfl
              clear hF hD
              refine want_none rfl ?_
              go_simp
              exact hK _ _ hC (Below.refl _ _) rfl
            refine RegSteps.cons ?_ ?_
            · intro _ az wz hC hF hD _ K hK
              obtain ⟨_, q59, rfl⟩ := dep hD 5 rfl rfl rfl rfl
              obtain ⟨_, q60, rfl⟩ := dep hD 6 rfl rfl rfl rfl
              clear hF hD
              refine want_none rfl ?_
              go_simp
              exact hK _ _ hC (Below.refl _ _) rfl
            refine RegSteps.cons ?_ ?_
            · intro _ az wz hC hF hD _ K hK
              obtain ⟨_, q61, rfl⟩ := dep hD 7 rfl rfl rfl rfl
              obtain ⟨l0, l1⟩ := rq _ hC
              clear hF hD
              refine want_none rfl ?_
              go_simp
              exact hK _ _ hC (Below.refl _ _) rfl
            refine RegSteps.cons ?_ ?_
            · intro _ az wz hC hF hD _ K hK
              obtain ⟨_, q62, rfl⟩ := dep hD 8 rfl rfl rfl rfl
              clear hF hD
              refine want_none rfl ?_
              go_simp
              refine (number_any (hq.on hC) fb).mono ?_
              rintro e wy ⟨x, rfl, k, hx⟩
              exact hK _ _ (Below.call hC k) k ⟨x, rfl, hx⟩
            refine RegSteps.cons ?_ ?_
            · intro _ az wz hC hF hD _ K hK
              obtain ⟨_, q58, x58, rfl, hx58⟩ := dep hD 4 rfl rfl rfl rfl
              obtain ⟨_, q63, x63, rfl, hx63⟩ := dep hD 9 rfl rfl rfl rfl
              clear hF hD
              refine want_none rfl ?_
              go_simp
              refine (HM1.out _ _ _ hx58 hx63).mono ?_
              rintro e wy ⟨x, rfl, k, hx⟩
              exact hK _ _ (Below.call hC k) k ⟨x, rfl, hx⟩
            refine RegSteps.cons ?_ ?_
            · intro _ az wz hC hF hD _ K hK
              obtain ⟨_, q64, x64, rfl, hx64⟩ := dep hD 10 rfl rfl rfl rfl
              clear hF hD
              refine want_none rfl ?_
              go_simp
              exact hK _ _ hC (Below.refl _ _) ⟨x64, rfl, hx64⟩
            refine RegSteps.cons ?_ ?_
            · intro _ az wz hC hF hD _ K hK
              obtain ⟨_, q53, x53, rfl, hx53⟩ := dep hD 11 rfl rfl rfl rfl
              clear hF hD
              refine want_none rfl ?_
              go_simp
              exact hK _ _ hC (Below.refl _ _) ⟨x53, rfl, hx53⟩
            refine RegSteps.cons ?_ ?_
            · intro _ az wz hC hF hD _ K hK
              obtain ⟨_, q53, x53, rfl, hx53⟩ := dep hD 11 rfl rfl rfl rfl
              clear hF hD
              refine want_none rfl ?_
              go_simp
              exact hK _ _ hC (Below.refl _ _) rfl
            refine RegSteps.cons ?_ ?_
            · exact fun h => by cases h
            refine RegSteps.cons ?_ ?_
            · exact fun h => by cases h
            refine RegSteps.cons ?_ ?_
            · intro _ az wz hC hF hD _ K hK
              obtain ⟨_, q66, rfl⟩ := dep hD 13 rfl rfl rfl rfl
              clear hF hD
              refine want_none rfl ?_
              go_simp
              exact hK _ _ hC (Below.refl _ _) rfl
            exact RegSteps.nil
          · refine ⟨?_, trivial⟩
            · refine ⟨⟨_, rfl, rfl, rfl, fun az wz K hK => by go_simp; exact hK⟩, ⟨_, rfl, rfl, rfl, ?_⟩, by simp [Word], by simp⟩
              intro az wz gz cs hC hF hD hA K hK
              obtain ⟨p1, p2, p3, p4, p5⟩ := hA
              obtain ⟨_, q65, x, rfl, hx⟩ := dep hD 12 rfl rfl rfl rfl
              obtain ⟨c0, c1, c2, c3, rfl⟩ := list_4 (l := cs) p4
              have z0 := p3.c0
              have z1 := p3.c1
              have z2 := p3.c2
              have z3 := p3.c3
              have f0 := p3.frozen 0
              have f1 := p3.frozen 1
              have f2 := p3.frozen 2
              have f3 := p3.frozen 3
              clear hF hD p3 p5
              refine want_none rfl ?_
              go_simp
              exact hK [.bool x.p.neg, .slice x.p.A x.p.n x.p.c, .bool x.l.neg, .slice x.l.A x.l.n x.l.c] rfl (by simp [Word]) ⟨x, rfl, hx⟩
          intro v1 gs hC hgl hbf
          obtain ⟨gu, rfl⟩ := list_1 hgl
          obtain ⟨⟨hg0, us0, hOb0, ⟨u, rfl, hu⟩⟩, _⟩ := hbf
          rintro _ rfl _ rfl _ rfl _ rfl _ ⟨y58, rfl, _⟩ _ rfl _ rfl _ rfl _ rfl _ ⟨y63, rfl, _⟩ _ ⟨y64, rfl, _⟩ _ ⟨y53, rfl, _⟩ _ ⟨y65, rfl, _⟩ _ rfl _ rfl _ _ _ rfl
          simp only [FinOK, Act.put, List.setIfInBounds_toArray, List.set_cons_zero, List.set_cons_succ]
          replace hp0 := hp0.on hC
          replace hq0 := hq0.on hC
          replace hTr := hTr.on hC
          replace b2 := Below.call b2 hC
          have hU := hOb0
          clear hOb0
          clear hC
          clear hp hq rp rq
          go_wp2_with fail
          have hp := hp0.ni
          have hq := hq0.ni
          have rp := hp0.both
          have rq := hq0.both
          refine wp_region_boxes v1 [Spec.eq (.slice (some ⟨y10, 0, none⟩) 6 6), Spec.eq (.int .i64 (i : Int)), Spec.eq (.pointer (some ⟨y10, i * 2, none⟩)), Spec.eq (.agg #[.bool p.neg, .slice p.A p.n p.c]), Spec.eq (.slice (some ⟨y10, 0, none⟩) 6 6), Spec.eq (.int .i64 (k : Int)), Spec.eq (.pointer (some ⟨y10, k * 2, none⟩)), Spec.eq (.agg #[.bool q.neg, .slice q.A q.n q.c]), sNRE d.1 d.2, sNRE d.1 d.2, sNR d.1, Spec.eq (.int .i64 d.2), Spec.any, Spec.any, Spec.eq (.int .i64 d.2)]
              [{ A := 12, j := 13, t := 15, T := 89, zs := [.bool false, .slice none 0 0, .bool false, .slice none 0 0], X := fun us w => ∃ x : FV, us = [.bool x.p.neg, .slice x.p.A x.p.n x.p.c, .bool x.l.neg, .slice x.l.A x.l.n x.l.c] ∧ NR x w d.1, up := fun ⟨x, e, hx⟩ k => ⟨x, e, hx.keeps k⟩ }]
              (by kernel_rfl) (by kernel_rfl) rfl (by kernel_rfl) rfl (Below.drew (Below.refl _ _)) ?_ ?_ ⟨rfl, rfl, trivial⟩ ?_
          ·
            refine RegSteps.cons ?_ ?_
            · intro _ az wz hC hF hD _ K hK
              have q10 : az.tmps[10]? = some (.slice (some ⟨y10, 0, none⟩) 6 6) := hF 10 rfl
              clear hF hD
              refine want_none rfl ?_
              go_simp
              exact hK _ _ hC (Below.refl _ _) rfl
            refine RegSteps.cons ?_ ?_
            · intro _ az wz hC hF hD _ K hK
              have q11 : az.tmps[11]? = some (.int .i64 (i : Int)) := hF 11 rfl
              clear hF hD
              refine want_none rfl ?_
              go_simp
              exact hK _ _ hC (Below.refl _ _) rfl
            refine RegSteps.cons ?_ ?_
            · intro _ az wz hC hF hD _ K hK
              obtain ⟨_, q68, rfl⟩ := dep hD 0 rfl rfl rfl rfl
              obtain ⟨_, q69, rfl⟩ := dep hD 1 rfl rfl rfl rfl
              clear hF hD
              refine want_none rfl ?_
              go_simp
              exact hK _ _ hC (Below.refl _ _) rfl
            refine RegSteps.cons ?_ ?_
            · intro _ az wz hC hF hD _ K hK
              obtain ⟨_, q70, rfl⟩ := dep hD 2 rfl rfl rfl rfl
              obtain ⟨l0, l1⟩ := rp _ hC
              clear hF hD
              refine want_none rfl ?_
              go_simp
              exact hK _ _ hC (Below.refl _ _) rfl
            refine RegSteps.cons ?_ ?_
            · intro _ az wz hC hF hD _ K hK
              have q10 : az.tmps[10]? = some (.slice (some ⟨y10, 0, none⟩) 6 6) := hF 10 rfl
              clear hF hD
              refine want_none rfl ?_
              go_simp
              exact hK _ _ hC (Below.refl _ _) rfl
            refine RegSteps.cons ?_ ?_
            · intro _ az wz hC hF hD _ K hK
              have q12 : az.tmps[12]? = some (.int .i64 (k : Int)) := hF 12 rfl
              clear hF hD
              refine want_none rfl ?_
              go_simp
              exact hK _ _ hC (Below.refl _ _) rfl
            refine RegSteps.cons ?_ ?_
            · intro _ az wz hC hF hD _ K hK
              obtain ⟨_, q72, rfl⟩ := dep hD 4 rfl rfl rfl rfl
              obtain ⟨_, q73, rfl⟩ := dep hD 5 rfl rfl rfl rfl
              clear hF hD
              refine want_none rfl ?_
              go_simp
              exact hK _ _ hC (Below.refl _ _) rfl
            refine RegSteps.cons ?_ ?_
            · intro _ az wz hC hF hD _ K hK
              obtain ⟨_, q74, rfl⟩ := dep hD 6 rfl rfl rfl rfl
              obtain ⟨l0, l1⟩ := rq _ hC
              clear hF hD
              refine want_none rfl ?_
              go_simp
              exact hK _ _ hC (Below.refl _ _) rfl
            refine RegSteps.cons ?_ ?_
            · intro _ az wz hC hF hD _ K hK
              obtain ⟨_, q71, rfl⟩ := dep hD 3 rfl rfl rfl rfl
              obtain ⟨_, q75, rfl⟩ := dep hD 7 rfl rfl rfl rfl
              clear hF hD
              refine want_none rfl ?_
              go_simp
              refine (HM2.out _ (hp.on hC) (hq.on hC)).mono ?_
              rintro e wy ⟨x, rfl, k, hx⟩
              exact hK _ _ (Below.call hC k) k ⟨x, rfl, hx⟩
            refine RegSteps.cons ?_ ?_
            · intro _ az wz hC hF hD _ K hK
              obtain ⟨_, q76, x76, rfl, hx76⟩ := dep hD 8 rfl rfl rfl rfl
              clear hF hD
              refine want_none rfl ?_
              go_simp
              exact hK _ _ hC (Below.refl _ _) ⟨x76, rfl, hx76⟩
            refine RegSteps.cons ?_ ?_
            · intro _ az wz hC hF hD _ K hK
              obtain ⟨_, q67, x67, rfl, hx67⟩ := dep hD 9 rfl rfl rfl rfl
              clear hF hD
              refine want_none rfl ?_
              go_simp
              exact hK _ _ hC (Below.refl _ _) ⟨x67, rfl, hx67⟩
            refine RegSteps.cons ?_ ?_
            · intro _ az wz hC hF hD _ K hK
              obtain ⟨_, q67, x67, rfl, hx67⟩ := dep hD 9 rfl rfl rfl rfl
              clear hF hD
              refine want_none rfl ?_
              go_simp
              exact hK _ _ hC (Below.refl _ _) rfl
            refine RegSteps.cons ?_ ?_
            · exact fun h => by cases h
            refine RegSteps.cons ?_ ?_
            · exact fun h => by cases h
            refine RegSteps.cons ?_ ?_
            · intro _ az wz hC hF hD _ K hK
              obtain ⟨_, q78, rfl⟩ := dep hD 11 rfl rfl rfl rfl
              clear hF hD
              refine want_none rfl ?_
              go_simp
              exact hK _ _ hC (Below.refl _ _) rfl
            exact RegSteps.nil
          · refine ⟨?_, trivial⟩
            · refine ⟨⟨_, rfl, rfl, rfl, fun az wz K hK => by go_simp; exact hK⟩, ⟨_, rfl, rfl, rfl, ?_⟩, by simp [Word], by simp⟩
              intro az wz gz cs hC hF hD hA K hK
              obtain ⟨p1, p2, p3, p4, p5⟩ := hA
              obtain ⟨_, q77, x, rfl, hx⟩ := dep hD 10 rfl rfl rfl rfl
              obtain ⟨c0, c1, c2, c3, rfl⟩ := list_4 (l := cs) p4
              have z0 := p3.c0
              have z1 := p3.c1
              have z2 := p3.c2
              have z3 := p3.c3
              have f0 := p3.frozen 0
              have f1 := p3.frozen 1
              have f2 := p3.frozen 2
              have f3 := p3.frozen 3
              clear hF hD p3 p5
              refine want_none rfl ?_
              go_simp
              exact hK [.bool x.p.neg, .slice x.p.A x.p.n x.p.c, .bool x.l.neg, .slice x.l.A x.l.n x.l.c] rfl (by simp [Word]) ⟨x, rfl, hx⟩
          intro v2 gs hC hgl hbf
          obtain ⟨gv, rfl⟩ := list_1 hgl
          obtain ⟨⟨hg0, us0, hOb0, ⟨v, rfl, hv⟩⟩, _⟩ := hbf
          rintro _ rfl _ rfl _ rfl _ rfl _ rfl _ rfl _ rfl _ rfl _ ⟨y76, rfl, _⟩ _ ⟨y67, rfl, _⟩ _ ⟨y77, rfl, _⟩ _ rfl _ rfl _ _ _ rfl
          simp only [FinOK, Act.put, List.setIfInBounds_toArray, List.set_cons_zero, List.set_cons_succ]
          replace hp0 := hp0.on hC
          replace hq0 := hq0.on hC
          replace hTr := hTr.on hC
          replace hu := hu.on hC
          replace hU := hU.on hC
          replace b2 := Below.call b2 hC
          have hV := hOb0
          clear hOb0
          clear hC
          clear hp hq rp rq
          obtain ⟨c0_0, c0_1, c0_2, c0_3, _⟩ := hU.all4
          obtain ⟨c1_0, c1_1, c1_2, c1_3, _⟩ := hV.all4
          go_wp2_with fail
          refine (same_any hu hv hTr).mono ?_
          rintro e v3 ⟨rfl, k1_⟩
          clear c0_0 c0_1 c0_2 c0_3 c1_0 c1_1 c1_2 c1_3
          replace hp0 := hp0.on k1_
          replace hq0 := hq0.on k1_
          replace hTr := hTr.on k1_
          replace hu := hu.on k1_
          replace hU := hU.on k1_
          replace hv := hv.on k1_
          replace hV := hV.on k1_
          replace b2 := Below.call b2 k1_
          clear k1_
          have hbr := Below.call HbW.out b2
          go_wp2_with fail
          go_roundw
          case rel => exact ⟨k + 1, by omega, by go_num, hbr⟩
          case measure => simp [intOf]; omega
        · subst heq2
          go_wp2_with fail
          go_roundw
          case rel => exact ⟨i + 1, by omega, by go_num, hbr⟩
          case measure => simp [intOf]; omega
    · subst heq
      have b2 := Below.call b1 hbr
      have ht := hTab.on hbr
      clear hL hbr b1 hTab
      go_wp2_with fail
      refine (HO1.out _).mono ?_
      rintro e u1 ⟨u0, rfl, k1_, hu0⟩
      go_upto_region 16 with fail
      refine wp_new1 fun u2 hU0 k2_ => ?_
      have kk_ := Below.call k1_ k2_
      replace ht := ht.on kk_
      replace hu0 := hu0.on k2_
      replace b2 := Below.call b2 kk_
      clear k1_ k2_ kk_
      go_wp2_with fail
      refine (rOf_any n _ hn.1 hn.2).mono ?_
      rintro e u3 ⟨nn, rfl, k1_, hnn⟩
      replace ht := ht.on k1_
      replace hu0 := hu0.on k1_
      replace hU0 := hU0.on k1_
      replace b2 := Below.call b2 k1_
      clear k1_
      go_wp2_with fail
      refine (rOf_any d0 _ hd0.1 hd0.2).mono ?_
      rintro e u4 ⟨nd, rfl, k1_, hnd⟩
      replace ht := ht.on k1_
      replace hu0 := hu0.on k1_
      replace hU0 := hU0.on k1_
      replace hnn := hnn.on k1_
      replace b2 := Below.call b2 k1_
      clear k1_
      go_wp2_with fail
      refine (HO2.out _ _ _ hnn hnd).mono ?_
      rintro e u5 ⟨v0, rfl, k1_, hv0⟩
      go_upto_region 17 with fail
      refine wp_new1 fun u6 hV0 k2_ => ?_
      have kk_ := Below.call k1_ k2_
      replace ht := ht.on kk_
      replace hu0 := hu0.on kk_
      replace hU0 := hU0.on kk_
      replace hnn := hnn.on kk_
      replace hnd := hnd.on kk_
      replace hv0 := hv0.on k2_
      replace b2 := Below.call b2 kk_
      clear k1_ k2_ kk_
      clear hnn hnd
      obtain ⟨c0_0, c0_1, c0_2, c0_3, _⟩ := hU0.all4
      obtain ⟨c1_0, c1_1, c1_2, c1_3, _⟩ := hV0.all4
      go_wp2_with fail
      refine (same_any hu0 hv0 ht).mono ?_
      rintro e u7 ⟨rfl, k1_⟩
      clear c0_0 c0_1 c0_2 c0_3 c1_0 c1_1 c1_2 c1_3
      replace ht := ht.on k1_
      replace hu0 := hu0.on k1_
      replace hU0 := hU0.on k1_
      replace hv0 := hv0.on k1_
      replace hV0 := hV0.on k1_
      replace b2 := Below.call b2 k1_
      clear k1_
      go_wp2_with fail
      refine (whole_any n _ hn).mono ?_
      rintro e u8 ⟨a1, rfl, k1_, ha1⟩
      replace ht := ht.on k1_
      replace hu0 := hu0.on k1_
      replace hU0 := hU0.on k1_
      replace hv0 := hv0.on k1_
      replace hV0 := hV0.on k1_
      replace b2 := Below.call b2 k1_
      clear k1_
      go_wp2_with fail
      refine (fOf_any n _ hn).mono ?_
      rintro e u9 ⟨a2, rfl, k1_, ha2⟩
      replace ht := ht.on k1_
      replace hu0 := hu0.on k1_
      replace hU0 := hU0.on k1_
      replace hv0 := hv0.on k1_
      replace hV0 := hV0.on k1_
      replace ha1 := ha1.on k1_
      replace b2 := Below.call b2 k1_
      clear k1_
      go_wp2_with fail
      refine (same_any ha1 ha2 ht).mono ?_
      rintro e u10 ⟨rfl, k1_⟩
      replace ht := ht.on k1_
      replace hu0 := hu0.on k1_
      replace hU0 := hU0.on k1_
      replace hv0 := hv0.on k1_
      replace hV0 := hV0.on k1_
      replace ha1 := ha1.on k1_
      replace ha2 := ha2.on k1_
      replace b2 := Below.call b2 k1_
      clear k1_
      go_wp2_with fail
      refine (lives4_any _ ht).mono ?_
      rintro e u11 ⟨rfl, k1_⟩
      replace ht := ht.on k1_
      replace hu0 := hu0.on k1_
      replace hU0 := hU0.on k1_
      replace hv0 := hv0.on k1_
      replace hV0 := hV0.on k1_
      replace ha1 := ha1.on k1_
      replace ha2 := ha2.on k1_
      replace b2 := Below.call b2 k1_
      clear k1_
      have HB := Lib.hid b2
      go_wp2
      go_returns
      exact ⟨rfl, HB.out⟩
end Go.Proofs.YthafhbogpfggjaaGreatDoor
