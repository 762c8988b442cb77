/-
  The reference of chapter 04: its operations.
-/
import Derived.Test.YthafhbogpfggjaaGreatDoorB2
import Derived.Deep.RegionLawGrows
import Derived.ArgAppend
namespace Go.Proofs.YthafhbogpfggjaaGreatDoor
open Go.RowKit Mag
open Dig (val Ws Nz)
set_option maxRecDepth 100000 in
set_option maxHeartbeats 1600000 in
theorem ranged_any {f : FV} {a : Rat} {w : World} (hf : NR f w a) : Calls Tryz.prog 138 #[.agg #[.bool f.p.neg, .slice f.p.A f.p.n f.p.c, .bool f.l.neg, .slice f.l.A f.l.n f.l.c], .int .i64 0] w (RetNRE w (clipR a).1 (clipR a).2) := by
  obtain ⟨s, hs⟩ : ∃ s, decide (a.num.natAbs < top) = s := ⟨_, rfl⟩
  obtain ⟨t, ht⟩ : ∃ t, decide ((a.den : Int).natAbs < top) = t := ⟨_, rfl⟩
  have HS := Lib.hid hs
  have HT := Lib.hid ht
  have HC1 : Hid (s = false ∨ t = false → clipR a = (0, 4)) := Lib.hid fun h => if_neg fun k => by
    rcases h with h | h
    · rw [← hs, decide_eq_true k.1] at h; cases h
    · rw [← ht, decide_eq_true k.2] at h; cases h
  have HC2 : Hid (s = true → t = true → clipR a = (a, 0)) := Lib.hid fun h k => if_pos ⟨of_decide_eq_true (hs.trans h), of_decide_eq_true (ht.trans k)⟩
  clear hs ht
  go_enter Tryz.func138, Tryz.ntmps138
  go_upto_region 1 with fail
  refine wp_new2 fun W hA hO hB => ?_
  obtain ⟨r0, r1, r2, r3⟩ := hA.rules4
  have hW := Below.refl W.heap.size W
  have hf1 := hf.on hB
  go_wp2_with fail
  refine (rFits_b hf1.1 s HS.out).mono ?_
  rintro e w1 ⟨rfl, k1⟩
  go_wp2_with fail
  refine (rFits_b (hf1.on k1).2 t HT.out).mono ?_
  rintro e w2 ⟨rfl, k2⟩
  have kk := Below.call k1 k2
  have hO2 := hO.on kk
  have hB2 := Below.call hB kk
  have hA2 := hA.on kk
  have hf := (hf1.on kk)
  clear hO hB hA hf1 k1 k2 kk r0 r1 r2 r3 hW
  cases s
  · have HR := Lib.hid (HC1.out (.inl rfl))
    clear hf
    go_wp2_with fail
    refine (fOf_any 0 _ ⟨by omega, by omega⟩).mono ?_
    rintro e w3 ⟨g, rfl, k3, hg⟩
    have hO3 := hO2.on k3
    have hB3 := Below.call hB2 k3
    clear hO2 hB2 hA2
    obtain ⟨z0, z1, z2, z3, f0, f1, f2, f3⟩ := hO3.all4
    have HF := Lib.hid (put_nre (err := 4) hB3 (by omega) hO3 (by simp) (by simp) (by simp) (by simp) hg)
    obtain ⟨q0, q1, q2, q3, _⟩ := (hO3.put4 (.bool g.p.neg) (.slice g.p.A g.p.n g.p.c) (.bool g.l.neg) (.slice g.l.A g.l.n g.l.c)).all4
    clear hO3 hg
    go_wp2
    exact bodyPost_ret (v := .tuple #[.agg #[.bool g.p.neg, .slice g.p.A g.p.n g.p.c, .bool g.l.neg, .slice g.l.A g.l.n g.l.c], .int .i64 4]) (by simp [results, Tryz.results138, go_sem, q0, q1, q2, q3]) rfl (by rw [HR.out]; exact HF.out)
  · cases t
    · have HR := Lib.hid (HC1.out (.inr rfl))
      clear hf
      go_wp2_with fail
      refine (fOf_any 0 _ ⟨by omega, by omega⟩).mono ?_
      rintro e w3 ⟨g, rfl, k3, hg⟩
      have hO3 := hO2.on k3
      have hB3 := Below.call hB2 k3
      clear hO2 hB2 hA2
      obtain ⟨z0, z1, z2, z3, f0, f1, f2, f3⟩ := hO3.all4
      have HF := Lib.hid (put_nre (err := 4) hB3 (by omega) hO3 (by simp) (by simp) (by simp) (by simp) hg)
      obtain ⟨q0, q1, q2, q3, _⟩ := (hO3.put4 (.bool g.p.neg) (.slice g.p.A g.p.n g.p.c) (.bool g.l.neg) (.slice g.l.A g.l.n g.l.c)).all4
      clear hO3 hg
      go_wp2
      exact bodyPost_ret (v := .tuple #[.agg #[.bool g.p.neg, .slice g.p.A g.p.n g.p.c, .bool g.l.neg, .slice g.l.A g.l.n g.l.c], .int .i64 4]) (by simp [results, Tryz.results138, go_sem, q0, q1, q2, q3]) rfl (by rw [HR.out]; exact HF.out)
    · have HR := Lib.hid (HC2.out rfl rfl)
      obtain ⟨a0, a1, a2, a3, _⟩ := hA2.all4
      clear hA2
      obtain ⟨z0, z1, z2, z3, f0, f1, f2, f3⟩ := hO2.all4
      have HF := Lib.hid (put_nre (err := 0) hB2 (by omega) hO2 (by simp) (by simp) (by simp) (by simp) hf)
      obtain ⟨q0, q1, q2, q3, _⟩ := (hO2.put4 (.bool f.p.neg) (.slice f.p.A f.p.n f.p.c) (.bool f.l.neg) (.slice f.l.A f.l.n f.l.c)).all4
      clear hO2 hf
      go_wp2
      exact bodyPost_ret (v := .tuple #[.agg #[.bool f.p.neg, .slice f.p.A f.p.n f.p.c, .bool f.l.neg, .slice f.l.A f.l.n f.l.c], .int .i64 0]) (by simp [results, Tryz.results138, go_sem, q0, q1, q2, q3]) rfl (by rw [HR.out]; exact HF.out)
set_option maxRecDepth 100000 in
set_option maxHeartbeats 1600000 in
theorem ranged_err {f : FV} {w : World} (hf : NR f w 0) : Calls Tryz.prog 138 #[.agg #[.bool f.p.neg, .slice f.p.A f.p.n f.p.c, .bool f.l.neg, .slice f.l.A f.l.n f.l.c], .int .i64 1] w (RetNRE w 0 1) := by
  have H1 := Lib.hid (show decide ((0 : Rat).num.natAbs < top) = true from decide_eq_true (Nat.lt_of_le_of_lt (Nat.zero_le _) one_fits))
  have H2 := Lib.hid (show decide (((0 : Rat).den : Int).natAbs < top) = true from decide_eq_true one_fits)
  go_enter Tryz.func138, Tryz.ntmps138
  go_upto_region 1 with fail
  refine wp_new2 fun W hA hO hB => ?_
  obtain ⟨r0, r1, r2, r3⟩ := hA.rules4
  have hW := Below.refl W.heap.size W
  have hf1 := hf.on hB
  go_wp2_with fail
  refine (rFits_b hf1.1 _ H1.out).mono ?_
  rintro e w1 ⟨rfl, k1⟩
  go_wp2_with fail
  refine (rFits_b (hf1.on k1).2 _ H2.out).mono ?_
  rintro e w2 ⟨rfl, k2⟩
  have kk := Below.call k1 k2
  have hO2 := hO.on kk
  have hB2 := Below.call hB kk
  clear hO hB hA hf1 k1 k2 kk r0 r1 r2 r3 hW hf
  go_wp2_with fail
  refine (fOf_any 0 _ ⟨by omega, by omega⟩).mono ?_
  rintro e w3 ⟨g, rfl, k3, hg⟩
  have hO3 := hO2.on k3
  have hB3 := Below.call hB2 k3
  clear hO2 hB2
  obtain ⟨z0, z1, z2, z3, f0, f1, f2, f3⟩ := hO3.all4
  have HF := Lib.hid (put_nre (err := 1) hB3 (by omega) hO3 (by simp) (by simp) (by simp) (by simp) hg)
  obtain ⟨q0, q1, q2, q3, _⟩ := (hO3.put4 (.bool g.p.neg) (.slice g.p.A g.p.n g.p.c) (.bool g.l.neg) (.slice g.l.A g.l.n g.l.c)).all4
  clear hO3 hg
  go_wp2
  exact bodyPost_ret (v := .tuple #[.agg #[.bool g.p.neg, .slice g.p.A g.p.n g.p.c, .bool g.l.neg, .slice g.l.A g.l.n g.l.c], .int .i64 1]) (by simp [results, Tryz.results138, go_sem, q0, q1, q2, q3]) rfl HF.out
set_option maxRecDepth 100000 in
set_option maxHeartbeats 1600000 in
theorem fNeg_any {f : FV} {a : Rat} {w : World} (hf : NR f w a) : Calls Tryz.prog 72 #[.agg #[.bool f.p.neg, .slice f.p.A f.p.n f.p.c, .bool f.l.neg, .slice f.l.A f.l.n f.l.c]] w (RetNR w (-a)) := by
  go_enter Tryz.func72, Tryz.ntmps72
  go_upto_region 1 with fail
  refine wp_new2 fun W hA hO hB => ?_
  replace hf := hf.on hB
  refine wp_region_last W [Spec.eq (.pointer (some ⟨w.heap.size, 0, none⟩)), Spec.eq (.agg #[.bool f.p.neg, .slice f.p.A f.p.n f.p.c]), sN (-a.num), Spec.eq (.pointer (some ⟨w.heap.size, 2, none⟩)), Spec.eq (.agg #[.bool f.l.neg, .slice f.l.A f.l.n f.l.c]), sNR (-a)]
      rfl (by kernel_rfl) (by kernel_rfl) rfl (by kernel_rfl) (by kernel_rfl) (Below.drew (Below.refl _ _)) ?_ ?_
  ·
    refine RegSteps.cons ?_ ?_
    · intro _ az wz hC hF hD _ K hK; have q1 : az.tmps[1]? = some (.pointer (some ⟨w.heap.size, 0, none⟩)) := hF 1 rfl; clear hF hD; refine want_none rfl ?_; go_simp; exact hK _ _ hC (Below.refl _ _) rfl
    refine RegSteps.cons ?_ ?_
    · intro _ az wz hC hF hD _ K hK; obtain ⟨_, q3, rfl⟩ := dep hD 0 rfl rfl rfl rfl; obtain ⟨l0, l1, l2, l3, _⟩ := (hA.on hC).all4; clear hF hD; refine want_none rfl ?_; go_simp; exact hK _ _ hC (Below.refl _ _) rfl
    refine RegSteps.cons ?_ ?_
    · intro _ az wz hC hF hD _ K hK; obtain ⟨_, q4, rfl⟩ := dep hD 1 rfl rfl rfl rfl; clear hF hD; refine want_none rfl ?_; go_simp; refine (rNeg_any (hf.1.on hC)).mono ?_; rintro e wy ⟨x, rfl, k, hx⟩; exact hK _ _ (Below.call hC k) k ⟨x, rfl, hx⟩
    refine RegSteps.cons ?_ ?_
    · intro _ az wz hC hF hD _ K hK; have q1 : az.tmps[1]? = some (.pointer (some ⟨w.heap.size, 0, none⟩)) := hF 1 rfl; clear hF hD; refine want_none rfl ?_; go_simp; exact hK _ _ hC (Below.refl _ _) rfl
    refine RegSteps.cons ?_ ?_
    · intro _ az wz hC hF hD _ K hK; obtain ⟨_, q6, rfl⟩ := dep hD 3 rfl rfl rfl rfl; obtain ⟨l0, l1, l2, l3, _⟩ := (hA.on hC).all4; clear hF hD; refine want_none rfl ?_; go_simp; exact hK _ _ hC (Below.refl _ _) rfl
    refine RegSteps.cons ?_ ?_
    · intro _ az wz hC hF hD _ K hK; obtain ⟨_, q5, x5, rfl, hx5⟩ := dep hD 2 rfl rfl rfl rfl; obtain ⟨_, q7, rfl⟩ := dep hD 4 rfl rfl rfl rfl; clear hF hD; refine want_none rfl ?_; go_simp; exact hK _ _ hC (Below.refl _ _) ⟨⟨x5, f.l⟩, rfl, hx5, hf.2.on hC⟩
    exact RegSteps.nil
  intro w2 hC
  rintro _ rfl _ rfl _ ⟨y5, rfl, _⟩ _ rfl _ rfl _ ⟨y8, rfl, hy8⟩
  simp only [List.dropLast, FinOK, Act.put, List.setIfInBounds_toArray, List.set_cons_zero, List.set_cons_succ]
  intro K hK
  refine want_none rfl ?_
  obtain ⟨z0, z1, z2, z3, f0, f1, f2, f3⟩ := (hO.on hC).all4
  go_simp
  refine hK _ _ ?_
  clear hK K
  have hO2 := hO.on hC
  have HF := Lib.hid (put_nr (Below.call hB hC) (by omega) hO2 (by simp) (by simp) (by simp) (by simp) hy8)
  obtain ⟨q0, q1, q2, q3, _⟩ := (hO2.put4 (.bool y8.p.neg) (.slice y8.p.A y8.p.n y8.p.c) (.bool y8.l.neg) (.slice y8.l.A y8.l.n y8.l.c)).all4
  clear hO hO2 hA hf hy8
  go_wp2
  exact bodyPost_ret (v := .agg #[.bool y8.p.neg, .slice y8.p.A y8.p.n y8.p.c, .bool y8.l.neg, .slice y8.l.A y8.l.n y8.l.c]) (by simp [results, Tryz.results72, go_sem, q0, q1, q2, q3]) rfl HF.out

theorem makeR_mul (a b : Rat) : makeR (a.num * b.num) (a.den * b.den) = (a * b, 0) := by
  unfold makeR
  rw [if_neg (Int.mul_ne_zero (rat_den_ne a) (rat_den_ne b)), ← mul_divInt]
theorem makeR_div (a b : Rat) : makeR (a.num * b.den) (a.den * b.num) = if b = 0 then (0, 1) else (a / b, 0) := by
  unfold makeR
  by_cases h : b = 0
  · subst h; simp
  · rw [if_neg (Int.mul_ne_zero (rat_den_ne a) fun e => h (Rat.num_eq_zero.1 e)), if_neg h, ← div_divInt]
set_option maxRecDepth 100000 in
set_option maxHeartbeats 3200000 in
theorem fMul_any {f g : FV} {a b : Rat} {w : World} (hf : NR f w a) (hg : NR g w b) (sa : SmR 1240 a) (sb : SmR 1240 b) : Calls Tryz.prog 79 #[.agg #[.bool f.p.neg, .slice f.p.A f.p.n f.p.c, .bool f.l.neg, .slice f.l.A f.l.n f.l.c], .agg #[.bool g.p.neg, .slice g.p.A g.p.n g.p.c, .bool g.l.neg, .slice g.l.A g.l.n g.l.c]] w (RetNRE w (mulR a b).1 (mulR a b).2) := by
  have h1 := sa.1.len hf.1
  have h2 := sa.2.len hf.2
  have h3 := sb.1.len hg.1
  have h4 := sb.2.len hg.2
  have HN := Lib.hid (show f.p.n + g.p.n ≤ many ∧ f.l.n + g.l.n ≤ many by unfold many; omega)
  have HL13 : Hid (∀ (x : IV) (u : World), NI x u (a.num * b.num) → x.n < many - 2) := Lib.hid fun x u h => many_le h (sa.1.mul sb.1) (by unfold many; omega)
  have HL18 : Hid (∀ (x : IV) (u : World), NI x u ((a.den : Int) * b.den) → x.n < many - 2) := Lib.hid fun x u h => many_le h (sa.2.mul sb.2) (by unfold many; omega)
  have HM := Lib.hid (makeR_mul a b)
  obtain ⟨rr, hrr⟩ : ∃ rr, mulR a b = rr := ⟨_, rfl⟩
  have HR := Lib.hid (show rr = clipR (a * b) from hrr.symm)
  rw [hrr]
  clear hrr
  clear h1 h2 h3 h4 sa sb
  go_enter Tryz.func79, Tryz.ntmps79
  go_upto_region 1 with fail
  refine wp_new3 fun W hA hBx hO hB => ?_
  replace hf := hf.on hB
  replace hg := hg.on hB
  refine wp_region_boxes W [Spec.eq (.pointer (some ⟨w.heap.size, 0, none⟩)), Spec.eq (.agg #[.bool f.p.neg, .slice f.p.A f.p.n f.p.c]), Spec.eq (.pointer (some ⟨w.heap.size + 1, 0, none⟩)), Spec.eq (.agg #[.bool g.p.neg, .slice g.p.A g.p.n g.p.c]), sNp (a.num * b.num), Spec.eq (.pointer (some ⟨w.heap.size, 2, none⟩)), Spec.eq (.agg #[.bool f.l.neg, .slice f.l.A f.l.n f.l.c]), Spec.eq (.pointer (some ⟨w.heap.size + 1, 2, none⟩)), Spec.eq (.agg #[.bool g.l.neg, .slice g.l.A g.l.n g.l.c]), sNp ((a.den : Int) * (b.den : Int)), sNRE ((makeR (a.num * b.num) ((a.den : Int) * (b.den : Int))).1) ((makeR (a.num * b.num) ((a.den : Int) * (b.den : Int))).2), sNRE ((makeR (a.num * b.num) ((a.den : Int) * (b.den : Int))).1) ((makeR (a.num * b.num) ((a.den : Int) * (b.den : Int))).2), sNR ((makeR (a.num * b.num) ((a.den : Int) * (b.den : Int))).1), Spec.eq (.int .i64 ((makeR (a.num * b.num) ((a.den : Int) * (b.den : Int))).2)), Spec.any, Spec.any, Spec.eq (.int .i64 ((makeR (a.num * b.num) ((a.den : Int) * (b.den : Int))).2))]
      [{ A := 14, j := 15, t := 6, T := 89, zs := [.bool false, .slice none 0 0, .bool false, .slice none 0 0], X := fun us w => ∃ x : FV, us = [.bool x.p.neg, .slice x.p.A x.p.n x.p.c, .bool x.l.neg, .slice x.l.A x.l.n x.l.c] ∧ NR x w (makeR (a.num * b.num) ((a.den : Int) * (b.den : Int))).1, up := fun ⟨x, e, hx⟩ k => ⟨x, e, hx.keeps k⟩ }]
      (by kernel_rfl) (by kernel_rfl) rfl (by kernel_rfl) rfl (Below.drew (Below.refl _ _)) ?_ ?_ ⟨rfl, rfl, trivial⟩ ?_
  ·
    refine RegSteps.cons ?_ ?_
    · intro _ az wz hC hF hD _ K hK; have q2 : az.tmps[2]? = some (.pointer (some ⟨w.heap.size, 0, none⟩)) := hF 2 rfl; clear hF hD; refine want_none rfl ?_; go_simp; exact hK _ _ hC (Below.refl _ _) rfl
    refine RegSteps.cons ?_ ?_
    · intro _ az wz hC hF hD _ K hK; obtain ⟨_, q9, rfl⟩ := dep hD 0 rfl rfl rfl rfl; obtain ⟨l0, l1, l2, l3, _⟩ := (hA.on hC).all4; clear hF hD; refine want_none rfl ?_; go_simp; exact hK _ _ hC (Below.refl _ _) rfl
    refine RegSteps.cons ?_ ?_
    · intro _ az wz hC hF hD _ K hK; have q3 : az.tmps[3]? = some (.pointer (some ⟨w.heap.size + 1, 0, none⟩)) := hF 3 rfl; clear hF hD; refine want_none rfl ?_; go_simp; exact hK _ _ hC (Below.refl _ _) rfl
    refine RegSteps.cons ?_ ?_
    · intro _ az wz hC hF hD _ K hK; obtain ⟨_, q11, rfl⟩ := dep hD 2 rfl rfl rfl rfl; obtain ⟨l0, l1, l2, l3, _⟩ := (hBx.on hC).all4; clear hF hD; refine want_none rfl ?_; go_simp; exact hK _ _ hC (Below.refl _ _) rfl
    refine RegSteps.cons ?_ ?_
    · intro _ az wz hC hF hD _ K hK; obtain ⟨_, q10, rfl⟩ := dep hD 1 rfl rfl rfl rfl; obtain ⟨_, q12, rfl⟩ := dep hD 3 rfl rfl rfl rfl; clear hF hD; refine want_none rfl ?_; go_simp; refine (rMul_any (hf.1.on hC) (hg.1.on hC) (HN.out.1)).mono ?_; rintro e wy ⟨x, rfl, k, hx⟩; exact hK _ _ (Below.call hC k) k ⟨x, rfl, hx⟩
    refine RegSteps.cons ?_ ?_
    · intro _ az wz hC hF hD _ K hK; have q2 : az.tmps[2]? = some (.pointer (some ⟨w.heap.size, 0, none⟩)) := hF 2 rfl; clear hF hD; refine want_none rfl ?_; go_simp; exact hK _ _ hC (Below.refl _ _) rfl
    refine RegSteps.cons ?_ ?_
    · intro _ az wz hC hF hD _ K hK; obtain ⟨_, q14, rfl⟩ := dep hD 5 rfl rfl rfl rfl; obtain ⟨l0, l1, l2, l3, _⟩ := (hA.on hC).all4; clear hF hD; refine want_none rfl ?_; go_simp; exact hK _ _ hC (Below.refl _ _) rfl
    refine RegSteps.cons ?_ ?_
    · intro _ az wz hC hF hD _ K hK; have q3 : az.tmps[3]? = some (.pointer (some ⟨w.heap.size + 1, 0, none⟩)) := hF 3 rfl; clear hF hD; refine want_none rfl ?_; go_simp; exact hK _ _ hC (Below.refl _ _) rfl
    refine RegSteps.cons ?_ ?_
    · intro _ az wz hC hF hD _ K hK; obtain ⟨_, q16, rfl⟩ := dep hD 7 rfl rfl rfl rfl; obtain ⟨l0, l1, l2, l3, _⟩ := (hBx.on hC).all4; clear hF hD; refine want_none rfl ?_; go_simp; exact hK _ _ hC (Below.refl _ _) rfl
    refine RegSteps.cons ?_ ?_
    · intro _ az wz hC hF hD _ K hK; obtain ⟨_, q15, rfl⟩ := dep hD 6 rfl rfl rfl rfl; obtain ⟨_, q17, rfl⟩ := dep hD 8 rfl rfl rfl rfl; clear hF hD; refine want_none rfl ?_; go_simp; refine (rMul_any (hf.2.on hC) (hg.2.on hC) (HN.out.2)).mono ?_; rintro e wy ⟨x, rfl, k, hx⟩; exact hK _ _ (Below.call hC k) k ⟨x, rfl, hx⟩
    refine RegSteps.cons ?_ ?_
    · intro _ az wz hC hF hD _ K hK; obtain ⟨_, q13, x13, rfl, hx13⟩ := dep hD 4 rfl rfl rfl rfl; obtain ⟨_, q18, x18, rfl, hx18⟩ := dep hD 9 rfl rfl rfl rfl; clear hF hD; refine want_none rfl ?_; go_simp; refine (fMake_any hx13 hx18 (HL13.out _ _ hx13) (HL18.out _ _ hx18)).mono ?_; rintro e wy ⟨x, rfl, k, hx⟩; exact hK _ _ (Below.call hC k) k ⟨x, rfl, hx⟩
    refine RegSteps.cons ?_ ?_
    · intro _ az wz hC hF hD _ K hK; obtain ⟨_, q19, x19, rfl, hx19⟩ := dep hD 10 rfl rfl rfl rfl; clear hF hD; refine want_none rfl ?_; go_simp; exact hK _ _ hC (Below.refl _ _) ⟨x19, rfl, hx19⟩
    refine RegSteps.cons ?_ ?_
    · intro _ az wz hC hF hD _ K hK; obtain ⟨_, q8, x8, rfl, hx8⟩ := dep hD 11 rfl rfl rfl rfl; clear hF hD; refine want_none rfl ?_; go_simp; exact hK _ _ hC (Below.refl _ _) ⟨x8, rfl, hx8⟩
    refine RegSteps.cons ?_ ?_
    · intro _ az wz hC hF hD _ K hK; obtain ⟨_, q8, x8, rfl, hx8⟩ := dep hD 11 rfl rfl rfl rfl; clear hF hD; refine want_none rfl ?_; go_simp; exact hK _ _ hC (Below.refl _ _) rfl
    refine RegSteps.cons ?_ ?_
    · exact fun h => by cases h
    refine RegSteps.cons ?_ ?_
    · exact fun h => by cases h
    refine RegSteps.cons ?_ ?_
    · intro _ az wz hC hF hD _ K hK; obtain ⟨_, q21, rfl⟩ := dep hD 13 rfl rfl rfl rfl; clear hF hD; refine want_none rfl ?_; go_simp; exact hK _ _ hC (Below.refl _ _) rfl
    exact RegSteps.nil
  · refine ⟨?_, trivial⟩
    · refine ⟨⟨_, rfl, rfl, rfl, fun az wz K hK => by go_simp; exact hK⟩, ⟨_, rfl, rfl, rfl, ?_⟩, by simp [Word], by simp⟩
      intro az wz gz cs hC hF hD hA K hK
      obtain ⟨p1, p2, p3, p4, p5⟩ := hA
      obtain ⟨_, q20, x, rfl, hx⟩ := dep hD 12 rfl rfl rfl rfl
      obtain ⟨c0, c1, c2, c3, rfl⟩ := list_4 (l := cs) p4
      have z0 := p3.c0
      have z1 := p3.c1
      have z2 := p3.c2
      have z3 := p3.c3
      have f0 := p3.frozen 0
      have f1 := p3.frozen 1
      have f2 := p3.frozen 2
      have f3 := p3.frozen 3
      clear hF hD p3 p5
      refine want_none rfl ?_
      go_simp
      exact hK [.bool x.p.neg, .slice x.p.A x.p.n x.p.c, .bool x.l.neg, .slice x.l.A x.l.n x.l.c] rfl (by simp [Word]) ⟨x, rfl, hx⟩
  intro w2 gs hC hgl hbf
  obtain ⟨gq, rfl⟩ := list_1 hgl
  obtain ⟨⟨hg0, us0, hOb0, ⟨x, rfl, hx⟩⟩, _⟩ := hbf
  rintro _ rfl _ rfl _ rfl _ rfl _ ⟨y13, rfl, _⟩ _ rfl _ rfl _ rfl _ rfl _ ⟨y18, rfl, _⟩ _ ⟨y19, rfl, _⟩ _ ⟨y8, rfl, _⟩ _ ⟨y20, rfl, _⟩ _ rfl _ rfl _ _ _ rfl
  simp only [FinOK, Act.put, List.setIfInBounds_toArray, List.set_cons_zero, List.set_cons_succ]
  rw [HM.out] at hx
  rw [HM.out]
  have hB2 := Below.call hB hC
  have hO2 := hO.on hC
  obtain ⟨c0, c1, c2, c3, _⟩ := hOb0.all4
  go_wp2_with fail
  refine (ranged_any hx).mono ?_
  rintro e w3 ⟨r, rfl, k3, hr⟩
  rw [← HR.out] at hr ⊢
  have hB3 := Below.call hB2 k3
  have hO3 := hO2.on k3
  clear hA hBx hO hB hf hg hB2 hO2 hOb0 c0 c1 c2 c3 hC hx
  obtain ⟨z0, z1, z2, z3, f0, f1, f2, f3⟩ := hO3.all4
  have HF := Lib.hid (put_nre (err := rr.2) hB3 (by omega) hO3 (by simp) (by simp) (by simp) (by simp) hr)
  obtain ⟨q0, q1, q2, q3, _⟩ := (hO3.put4 (.bool r.p.neg) (.slice r.p.A r.p.n r.p.c) (.bool r.l.neg) (.slice r.l.A r.l.n r.l.c)).all4
  clear hO3 hr
  go_wp2
  exact bodyPost_ret (v := .tuple #[.agg #[.bool r.p.neg, .slice r.p.A r.p.n r.p.c, .bool r.l.neg, .slice r.l.A r.l.n r.l.c], .int .i64 rr.2]) (by simp [results, Tryz.results79, go_sem, q0, q1, q2, q3]) rfl HF.out
set_option maxRecDepth 100000 in
set_option maxHeartbeats 3200000 in
theorem fDiv_any {f g : FV} {a b : Rat} {w : World} (hf : NR f w a) (hg : NR g w b) (sa : SmR 1240 a) (sb : SmR 1240 b) : Calls Tryz.prog 81 #[.agg #[.bool f.p.neg, .slice f.p.A f.p.n f.p.c, .bool f.l.neg, .slice f.l.A f.l.n f.l.c], .agg #[.bool g.p.neg, .slice g.p.A g.p.n g.p.c, .bool g.l.neg, .slice g.l.A g.l.n g.l.c]] w (RetNRE w (divR a b).1 (divR a b).2) := by
  have h1 := sa.1.len hf.1
  have h2 := sa.2.len hf.2
  have h3 := sb.1.len hg.1
  have h4 := sb.2.len hg.2
  have HN := Lib.hid (show f.p.n + g.l.n ≤ many ∧ f.l.n + g.p.n ≤ many by unfold many; omega)
  have HL13 : Hid (∀ (x : IV) (u : World), NI x u (a.num * (b.den : Int)) → x.n < many - 2) := Lib.hid fun x u h => many_le h (sa.1.mul sb.2) (by unfold many; omega)
  have HL18 : Hid (∀ (x : IV) (u : World), NI x u ((a.den : Int) * b.num) → x.n < many - 2) := Lib.hid fun x u h => many_le h (sa.2.mul sb.1) (by unfold many; omega)
  have HM := Lib.hid (makeR_div a b)
  obtain ⟨rr, hrr⟩ : ∃ rr, divR a b = rr := ⟨_, rfl⟩
  have HR := Lib.hid (show rr = if b = 0 then (0, 1) else clipR (a / b) from hrr.symm)
  rw [hrr]
  clear hrr
  clear h1 h2 h3 h4 sa sb
  go_enter Tryz.func81, Tryz.ntmps81
  go_upto_region 1 with fail
  refine wp_new3 fun W hA hBx hO hB => ?_
  replace hf := hf.on hB
  replace hg := hg.on hB
  refine wp_region_boxes W [Spec.eq (.pointer (some ⟨w.heap.size, 0, none⟩)), Spec.eq (.agg #[.bool f.p.neg, .slice f.p.A f.p.n f.p.c]), Spec.eq (.pointer (some ⟨w.heap.size + 1, 2, none⟩)), Spec.eq (.agg #[.bool g.l.neg, .slice g.l.A g.l.n g.l.c]), sNp (a.num * (b.den : Int)), Spec.eq (.pointer (some ⟨w.heap.size, 2, none⟩)), Spec.eq (.agg #[.bool f.l.neg, .slice f.l.A f.l.n f.l.c]), Spec.eq (.pointer (some ⟨w.heap.size + 1, 0, none⟩)), Spec.eq (.agg #[.bool g.p.neg, .slice g.p.A g.p.n g.p.c]), sNp ((a.den : Int) * b.num), sNRE ((makeR (a.num * (b.den : Int)) ((a.den : Int) * b.num)).1) ((makeR (a.num * (b.den : Int)) ((a.den : Int) * b.num)).2), sNRE ((makeR (a.num * (b.den : Int)) ((a.den : Int) * b.num)).1) ((makeR (a.num * (b.den : Int)) ((a.den : Int) * b.num)).2), sNR ((makeR (a.num * (b.den : Int)) ((a.den : Int) * b.num)).1), Spec.eq (.int .i64 ((makeR (a.num * (b.den : Int)) ((a.den : Int) * b.num)).2)), Spec.any, Spec.any, Spec.eq (.int .i64 ((makeR (a.num * (b.den : Int)) ((a.den : Int) * b.num)).2))]
      [{ A := 14, j := 15, t := 6, T := 89, zs := [.bool false, .slice none 0 0, .bool false, .slice none 0 0], X := fun us w => ∃ x : FV, us = [.bool x.p.neg, .slice x.p.A x.p.n x.p.c, .bool x.l.neg, .slice x.l.A x.l.n x.l.c] ∧ NR x w (makeR (a.num * (b.den : Int)) ((a.den : Int) * b.num)).1, up := fun ⟨x, e, hx⟩ k => ⟨x, e, hx.keeps k⟩ }]
      (by kernel_rfl) (by kernel_rfl) rfl (by kernel_rfl) rfl (Below.drew (Below.refl _ _)) ?_ ?_ ⟨rfl, rfl, trivial⟩ ?_
  ·
    refine RegSteps.cons ?_ ?_
    · intro _ az wz hC hF hD _ K hK; have q2 : az.tmps[2]? = some (.pointer (some ⟨w.heap.size, 0, none⟩)) := hF 2 rfl; clear hF hD; refine want_none rfl ?_; go_simp; exact hK _ _ hC (Below.refl _ _) rfl
    refine RegSteps.cons ?_ ?_
    · intro _ az wz hC hF hD _ K hK; obtain ⟨_, q9, rfl⟩ := dep hD 0 rfl rfl rfl rfl; obtain ⟨l0, l1, l2, l3, _⟩ := (hA.on hC).all4; clear hF hD; refine want_none rfl ?_; go_simp; exact hK _ _ hC (Below.refl _ _) rfl
    refine RegSteps.cons ?_ ?_
    · intro _ az wz hC hF hD _ K hK; have q3 : az.tmps[3]? = some (.pointer (some ⟨w.heap.size + 1, 0, none⟩)) := hF 3 rfl; clear hF hD; refine want_none rfl ?_; go_simp; exact hK _ _ hC (Below.refl _ _) rfl
    refine RegSteps.cons ?_ ?_
    · intro _ az wz hC hF hD _ K hK; obtain ⟨_, q11, rfl⟩ := dep hD 2 rfl rfl rfl rfl; obtain ⟨l0, l1, l2, l3, _⟩ := (hBx.on hC).all4; clear hF hD; refine want_none rfl ?_; go_simp; exact hK _ _ hC (Below.refl _ _) rfl
    refine RegSteps.cons ?_ ?_
    · intro _ az wz hC hF hD _ K hK; obtain ⟨_, q10, rfl⟩ := dep hD 1 rfl rfl rfl rfl; obtain ⟨_, q12, rfl⟩ := dep hD 3 rfl rfl rfl rfl; clear hF hD; refine want_none rfl ?_; go_simp; refine (rMul_any (hf.1.on hC) (hg.2.on hC) (HN.out.1)).mono ?_; rintro e wy ⟨x, rfl, k, hx⟩; exact hK _ _ (Below.call hC k) k ⟨x, rfl, hx⟩
    refine RegSteps.cons ?_ ?_
    · intro _ az wz hC hF hD _ K hK; have q2 : az.tmps[2]? = some (.pointer (some ⟨w.heap.size, 0, none⟩)) := hF 2 rfl; clear hF hD; refine want_none rfl ?_; go_simp; exact hK _ _ hC (Below.refl _ _) rfl
    refine RegSteps.cons ?_ ?_
    · intro _ az wz hC hF hD _ K hK; obtain ⟨_, q14, rfl⟩ := dep hD 5 rfl rfl rfl rfl; obtain ⟨l0, l1, l2, l3, _⟩ := (hA.on hC).all4; clear hF hD; refine want_none rfl ?_; go_simp; exact hK _ _ hC (Below.refl _ _) rfl
    refine RegSteps.cons ?_ ?_
    · intro _ az wz hC hF hD _ K hK; have q3 : az.tmps[3]? = some (.pointer (some ⟨w.heap.size + 1, 0, none⟩)) := hF 3 rfl; clear hF hD; refine want_none rfl ?_; go_simp; exact hK _ _ hC (Below.refl _ _) rfl
    refine RegSteps.cons ?_ ?_
    · intro _ az wz hC hF hD _ K hK; obtain ⟨_, q16, rfl⟩ := dep hD 7 rfl rfl rfl rfl; obtain ⟨l0, l1, l2, l3, _⟩ := (hBx.on hC).all4; clear hF hD; refine want_none rfl ?_; go_simp; exact hK _ _ hC (Below.refl _ _) rfl
    refine RegSteps.cons ?_ ?_
    · intro _ az wz hC hF hD _ K hK; obtain ⟨_, q15, rfl⟩ := dep hD 6 rfl rfl rfl rfl; obtain ⟨_, q17, rfl⟩ := dep hD 8 rfl rfl rfl rfl; clear hF hD; refine want_none rfl ?_; go_simp; refine (rMul_any (hf.2.on hC) (hg.1.on hC) (HN.out.2)).mono ?_; rintro e wy ⟨x, rfl, k, hx⟩; exact hK _ _ (Below.call hC k) k ⟨x, rfl, hx⟩
    refine RegSteps.cons ?_ ?_
    · intro _ az wz hC hF hD _ K hK; obtain ⟨_, q13, x13, rfl, hx13⟩ := dep hD 4 rfl rfl rfl rfl; obtain ⟨_, q18, x18, rfl, hx18⟩ := dep hD 9 rfl rfl rfl rfl; clear hF hD; refine want_none rfl ?_; go_simp; refine (fMake_any hx13 hx18 (HL13.out _ _ hx13) (HL18.out _ _ hx18)).mono ?_; rintro e wy ⟨x, rfl, k, hx⟩; exact hK _ _ (Below.call hC k) k ⟨x, rfl, hx⟩
    refine RegSteps.cons ?_ ?_
    · intro _ az wz hC hF hD _ K hK; obtain ⟨_, q19, x19, rfl, hx19⟩ := dep hD 10 rfl rfl rfl rfl; clear hF hD; refine want_none rfl ?_; go_simp; exact hK _ _ hC (Below.refl _ _) ⟨x19, rfl, hx19⟩
    refine RegSteps.cons ?_ ?_
    · intro _ az wz hC hF hD _ K hK; obtain ⟨_, q8, x8, rfl, hx8⟩ := dep hD 11 rfl rfl rfl rfl; clear hF hD; refine want_none rfl ?_; go_simp; exact hK _ _ hC (Below.refl _ _) ⟨x8, rfl, hx8⟩
    refine RegSteps.cons ?_ ?_
    · intro _ az wz hC hF hD _ K hK; obtain ⟨_, q8, x8, rfl, hx8⟩ := dep hD 11 rfl rfl rfl rfl; clear hF hD; refine want_none rfl ?_; go_simp; exact hK _ _ hC (Below.refl _ _) rfl
    refine RegSteps.cons ?_ ?_
    · exact fun h => by cases h
    refine RegSteps.cons ?_ ?_
    · exact fun h => by cases h
    refine RegSteps.cons ?_ ?_
    · intro _ az wz hC hF hD _ K hK; obtain ⟨_, q21, rfl⟩ := dep hD 13 rfl rfl rfl rfl; clear hF hD; refine want_none rfl ?_; go_simp; exact hK _ _ hC (Below.refl _ _) rfl
    exact RegSteps.nil
  · refine ⟨?_, trivial⟩
    · refine ⟨⟨_, rfl, rfl, rfl, fun az wz K hK => by go_simp; exact hK⟩, ⟨_, rfl, rfl, rfl, ?_⟩, by simp [Word], by simp⟩
      intro az wz gz cs hC hF hD hA K hK
      obtain ⟨p1, p2, p3, p4, p5⟩ := hA
      obtain ⟨_, q20, x, rfl, hx⟩ := dep hD 12 rfl rfl rfl rfl
      obtain ⟨c0, c1, c2, c3, rfl⟩ := list_4 (l := cs) p4
      have z0 := p3.c0
      have z1 := p3.c1
      have z2 := p3.c2
      have z3 := p3.c3
      have f0 := p3.frozen 0
      have f1 := p3.frozen 1
      have f2 := p3.frozen 2
      have f3 := p3.frozen 3
      clear hF hD p3 p5
      refine want_none rfl ?_
      go_simp
      exact hK [.bool x.p.neg, .slice x.p.A x.p.n x.p.c, .bool x.l.neg, .slice x.l.A x.l.n x.l.c] rfl (by simp [Word]) ⟨x, rfl, hx⟩
  intro w2 gs hC hgl hbf
  obtain ⟨gq, rfl⟩ := list_1 hgl
  obtain ⟨⟨hg0, us0, hOb0, ⟨x, rfl, hx⟩⟩, _⟩ := hbf
  rintro _ rfl _ rfl _ rfl _ rfl _ ⟨y13, rfl, _⟩ _ rfl _ rfl _ rfl _ rfl _ ⟨y18, rfl, _⟩ _ ⟨y19, rfl, _⟩ _ ⟨y8, rfl, _⟩ _ ⟨y20, rfl, _⟩ _ rfl _ rfl _ _ _ rfl
  simp only [FinOK, Act.put, List.setIfInBounds_toArray, List.set_cons_zero, List.set_cons_succ]
  rw [HM.out] at hx
  rw [HM.out]
  have hB2 := Below.call hB hC
  have hO2 := hO.on hC
  obtain ⟨c0, c1, c2, c3, _⟩ := hOb0.all4
  by_cases hb : b = 0
  · rw [if_pos hb] at hx
    rw [if_pos hb] at HR
    rw [if_pos hb]
    go_wp2_with fail
    refine (ranged_err hx).mono ?_
    rintro e w3 ⟨r, rfl, k3, hr⟩
    have hB3 := Below.call hB2 k3
    have hO3 := hO2.on k3
    clear hA hBx hO hB hf hg hB2 hO2 hOb0 c0 c1 c2 c3 hC hx
    obtain ⟨z0, z1, z2, z3, f0, f1, f2, f3⟩ := hO3.all4
    have HF := Lib.hid (put_nre (err := 1) hB3 (by omega) hO3 (by simp) (by simp) (by simp) (by simp) hr)
    obtain ⟨q0, q1, q2, q3, _⟩ := (hO3.put4 (.bool r.p.neg) (.slice r.p.A r.p.n r.p.c) (.bool r.l.neg) (.slice r.l.A r.l.n r.l.c)).all4
    clear hO3 hr
    go_wp2
    exact bodyPost_ret (v := .tuple #[.agg #[.bool r.p.neg, .slice r.p.A r.p.n r.p.c, .bool r.l.neg, .slice r.l.A r.l.n r.l.c], .int .i64 1]) (by simp [results, Tryz.results81, go_sem, q0, q1, q2, q3]) rfl (by rw [HR.out]; exact HF.out)
  · rw [if_neg hb] at hx
    rw [if_neg hb] at HR
    rw [if_neg hb]
    clear hb
    go_wp2_with fail
    refine (ranged_any hx).mono ?_
    rintro e w3 ⟨r, rfl, k3, hr⟩
    rw [← HR.out] at hr ⊢
    have hB3 := Below.call hB2 k3
    have hO3 := hO2.on k3
    clear hA hBx hO hB hf hg hB2 hO2 hOb0 c0 c1 c2 c3 hC hx
    obtain ⟨z0, z1, z2, z3, f0, f1, f2, f3⟩ := hO3.all4
    have HF := Lib.hid (put_nre (err := rr.2) hB3 (by omega) hO3 (by simp) (by simp) (by simp) (by simp) hr)
    obtain ⟨q0, q1, q2, q3, _⟩ := (hO3.put4 (.bool r.p.neg) (.slice r.p.A r.p.n r.p.c) (.bool r.l.neg) (.slice r.l.A r.l.n r.l.c)).all4
    clear hO3 hr
    go_wp2
    exact bodyPost_ret (v := .tuple #[.agg #[.bool r.p.neg, .slice r.p.A r.p.n r.p.c, .bool r.l.neg, .slice r.l.A r.l.n r.l.c], .int .i64 rr.2]) (by simp [results, Tryz.results81, go_sem, q0, q1, q2, q3]) rfl HF.out
theorem N_info : (Tryz.prog.info? 44).map (fun i => (i.zero, i.size, i.bytes)) = some (some (.agg #[.bool false, .slice none 0 0]), 2, 32) := by kernel_rfl
theorem Own.all6 {w : World} {g : Nat} {t : TypeId} {a0 a1 a2 a3 a4 a5 : Value} (h : Own w g t [a0, a1, a2, a3, a4, a5]) : w.cell? ⟨g, 0, none⟩ = some a0 ∧ w.cell? ⟨g, 1, none⟩ = some a1 ∧ w.cell? ⟨g, 2, none⟩ = some a2 ∧ w.cell? ⟨g, 3, none⟩ = some a3 ∧ w.cell? ⟨g, 4, none⟩ = some a4 ∧ w.cell? ⟨g, 5, none⟩ = some a5 :=
  ⟨h.cell 0, h.cell 1, h.cell 2, h.cell 3, h.cell 4, h.cell 5⟩
/-- Lists of integers of the reference. -/
def N3 (w : World) (g : Nat) (z0 z1 z2 : Int) : Prop := ∃ x0 x1 x2 : IV, Own w g 44 [.bool x0.neg, .slice x0.A x0.n x0.c, .bool x1.neg, .slice x1.A x1.n x1.c, .bool x2.neg, .slice x2.A x2.n x2.c] ∧ NI x0 w z0 ∧ NI x1 w z1 ∧ NI x2 w z2
def N1 (w : World) (g : Nat) (z : Int) : Prop := ∃ x : IV, Own w g 44 [.bool x.neg, .slice x.A x.n x.c] ∧ NI x w z
def N4 (w : World) (g : Nat) (zs : List Int) : Prop := ∀ i, i < 4 → ∃ x, NAt w g i 2500 x (zs.getD i 0)
theorem N3.on {w w' : World} {g : Nat} {z0 z1 z2 : Int} (h : N3 w g z0 z1 z2) (hb : Below w.heap.size w w') : N3 w' g z0 z1 z2 := by
  obtain ⟨x0, x1, x2, h, h0, h1, h2⟩ := h
  exact ⟨x0, x1, x2, h.on hb, h0.on hb, h1.on hb, h2.on hb⟩
theorem N1.on {w w' : World} {g : Nat} {z : Int} (h : N1 w g z) (hb : Below w.heap.size w w') : N1 w' g z := by
  obtain ⟨x, h, h0⟩ := h
  exact ⟨x, h.on hb, h0.on hb⟩
theorem N4.on {w w' : World} {g : Nat} {zs : List Int} (h : N4 w g zs) (hb : Below w.heap.size w w') : N4 w' g zs := fun i hi => by
  obtain ⟨x, hx⟩ := h i hi
  exact ⟨x, hx.on hb⟩
def sN3v (z0 z1 z2 : Int) : Spec Bel := ⟨fun v w => ∃ g, v = .slice (some ⟨g, 0, none⟩) 3 3 ∧ N3 w g z0 z1 z2, fun ⟨g, e, h⟩ k => ⟨g, e, h.on k⟩⟩
def sN1v (z : Int) : Spec Bel := ⟨fun v w => ∃ g, v = .slice (some ⟨g, 0, none⟩) 1 1 ∧ N1 w g z, fun ⟨g, e, h⟩ k => ⟨g, e, h.on k⟩⟩
def sN4v (z0 z1 z2 z3 : Int) : Spec Bel := ⟨fun v w => ∃ g : Nat × Nat, v = .slice (some ⟨g.1, 0, none⟩) 4 g.2 ∧ N4 w g.1 [z0, z1, z2, z3], fun ⟨g, e, h⟩ k => ⟨g, e, h.on k⟩⟩
theorem N3.mk {w : World} {x0 x1 x2 : IV} {z0 z1 z2 : Int} (h0 : NI x0 w z0) (h1 : NI x1 w z1) (h2 : NI x2 w z2) : N3 (w.alloc (.cells #[.bool x0.neg, .slice x0.A x0.n x0.c, .bool x1.neg, .slice x1.A x1.n x1.c, .bool x2.neg, .slice x2.A x2.n x2.c] 44)) w.heap.size z0 z1 z2 :=
  ⟨x0, x1, x2, Own.new w _ _, h0.on (below_new _ _), h1.on (below_new _ _), h2.on (below_new _ _)⟩
theorem N1.mk {w : World} {x0 : IV} {z0 : Int} (h0 : NI x0 w z0) : N1 (w.alloc (.cells #[.bool x0.neg, .slice x0.A x0.n x0.c] 44)) w.heap.size z0 :=
  ⟨x0, Own.new w _ _, h0.on (below_new _ _)⟩
theorem rowSome {w : World} {base : Nat} {e : TypeId} {size n : Nat} {v : Value} {xs : List Value} (h : w.ownsRow base e size v (n + 1) xs) : ∃ g cap, v = .slice (some ⟨g, 0, none⟩) (n + 1) cap ∧ base ≤ g ∧ n + 1 ≤ cap ∧ cap ≤ maxLen := by
  rcases h.2 with ⟨_, h0⟩ | ⟨g, cap, cur, rfl, hb, _, h1, h2, _⟩
  · omega
  · exact ⟨g, cap, rfl, hb, h1, h2⟩
theorem own_cell {w : World} {g : Nat} {t : TypeId} {l : List Value} (h : Own w g t l) : ∀ j u, l[j]? = some u → w.cell? ((⟨g, 0, none⟩ : Addr).add j) = some u := fun j u hj => by
  rw [Addr.add_lit, Nat.zero_add, h.cell, hj]
/-- The append of one to three, as a step of a region. -/
theorem step_grows3 {o : Oper} {a : Act} {w : World} {K : Act → World → Prop} {Q : Exit → Act → World → Prop} {g h : Nat} {x0 x1 x2 x3 : IV} {z0 z1 z2 z3 : Int}
    (hg : o.guard = none) (s x : Operand) (hop : o.op = Op.call { callee := Callee.builtin Builtin.append, args := #[s, x], argTypes := #[61, 61] })
    (hs : a.eval s = .slice (some ⟨g, 0, none⟩) 3 3) (hx : a.eval x = .slice (some ⟨h, 0, none⟩) 1 1)
    (hL : Own w g 44 [.bool x0.neg, .slice x0.A x0.n x0.c, .bool x1.neg, .slice x1.A x1.n x1.c, .bool x2.neg, .slice x2.A x2.n x2.c]) (hP : Own w h 44 [.bool x3.neg, .slice x3.A x3.n x3.c]) (h0 : NI x0 w z0) (h1 : NI x1 w z1) (h2 : NI x2 w z2) (h3 : NI x3 w z3)
    (hsm : Sm 2500 z0 ∧ Sm 2500 z1 ∧ Sm 2500 z2 ∧ Sm 2500 z3)
    (hK : ∀ v w', (sN4v z0 z1 z2 z3).p v w' → Below w.heap.size w w' → K (a.put o.dst v) w') :
    Oper.wp Tryz.prog o a w K Q := by
  obtain ⟨i0, hi, hz0, hz1, hz2⟩ := info_parts N_info
  have hwn : Region.wanted o (yielded #[] a.tmps) = true := by simp [Region.wanted, hg]
  suffices hs : if Region.wanted o (yielded #[] a.tmps) = true then Oper.wp Tryz.prog o a w K Q else True by rwa [if_pos hwn] at hs
  refine step_append_grows hg s x 61 hop 44 i0 (.agg #[.bool false, .slice none 0 0]) 2 32 Tryz.underlying61 hi hz0 hz1 hz2 rfl (by decide) (some ⟨g, 0, none⟩) 3 3 [.bool x0.neg, .slice x0.A x0.n x0.c, .bool x1.neg, .slice x1.A x1.n x1.c, .bool x2.neg, .slice x2.A x2.n x2.c] hs (by simp) rfl (fun b hb => by cases hb; exact own_cell hL) ⟨h, 0, none⟩ 1 1 [.bool x3.neg, .slice x3.A x3.n x3.c] hx rfl (own_cell hP) (by simp [Value.oneCell']) (by decide) (by unfold maxLen; omega) (by omega) ?_
  intro v' w' hown hgrow
  obtain ⟨gm, cap, rfl, _⟩ := rowSome hown
  have hb : Below w.heap.size w w' := (Below.refl _ w).grown hgrow (Nat.le_refl _) (fun k e => by cases e)
  refine hK _ _ ⟨(gm, cap), rfl, ?_⟩ hb
  have hc := fun j (hj : j < 8) => hown.cellAt j (by simpa using hj)
  have hlt : gm < w'.heap.size := by
    have := hc 0 (by omega)
    exact World.block_lt_of_cell? _ _ this
  intro i hi
  match i, hi with
  | 0, _ => exact ⟨x0, hsm.1, h0.on hb, hc 0 (by omega), hc 1 (by omega), hlt⟩
  | 1, _ => exact ⟨x1, hsm.2.1, h1.on hb, hc 2 (by omega), hc 3 (by omega), hlt⟩
  | 2, _ => exact ⟨x2, hsm.2.2.1, h2.on hb, hc 4 (by omega), hc 5 (by omega), hlt⟩
  | 3, _ => exact ⟨x3, hsm.2.2.2, h3.on hb, hc 6 (by omega), hc 7 (by omega), hlt⟩
theorem makeR_add (a b : Rat) {g : Nat} (hg : Int.gcd a.den b.den = g) : makeR (a.num * ((b.den : Int) / g) + b.num * ((a.den : Int) / g)) ((a.den : Int) / g * b.den) = (a + b, 0) := by
  have ha := rat_pos a
  have hb := rat_pos b
  have hgp : 0 < g := by rw [← hg]; exact Int.gcd_pos_of_ne_zero_right _ (rat_den_ne b)
  have e1 : (b.den : Int) / g * g = b.den := Int.ediv_mul_cancel (by rw [← hg]; exact Int.gcd_dvd_right _ _)
  have e2 : (a.den : Int) / g * g = a.den := Int.ediv_mul_cancel (by rw [← hg]; exact Int.gcd_dvd_left _ _)
  generalize (b.den : Int) / g = S at *
  generalize (a.den : Int) / g = T at *
  have hT : T ≠ 0 := fun e => by rw [e, Int.zero_mul] at e2; omega
  have hg0 : (g : Int) ≠ 0 := by omega
  unfold makeR
  rw [if_neg (Int.mul_ne_zero hT (rat_den_ne b)), ← Rat.divInt_mul_right hg0, add_divInt a b]
  have f1 : (a.num * S + b.num * T) * (g : Int) = a.num * b.den + b.num * a.den := by
    rw [Int.add_mul, Int.mul_assoc, Int.mul_assoc, e1, e2]
  have f2 : T * (b.den : Int) * (g : Int) = (a.den : Int) * b.den := by
    rw [Int.mul_right_comm, e2]
  rw [f1, f2]
set_option maxRecDepth 100000 in
set_option maxHeartbeats 6400000 in
theorem fAdd_any {f g : FV} {a b : Rat} {w : World} (hf : NR f w a) (hg : NR g w b) (sa : SmR 1240 a) (sb : SmR 1240 b) : Calls Tryz.prog 75 #[.agg #[.bool f.p.neg, .slice f.p.A f.p.n f.p.c, .bool f.l.neg, .slice f.l.A f.l.n f.l.c], .agg #[.bool g.p.neg, .slice g.p.A g.p.n g.p.c, .bool g.l.neg, .slice g.l.A g.l.n g.l.c]] w (RetNRE w (addR a b).1 (addR a b).2) := by
  have n1 := sa.1.len hf.1
  have n2 := sa.2.len hf.2
  have n3 := sb.1.len hg.1
  have n4 := sb.2.len hg.2
  obtain ⟨G, hG⟩ : ∃ G, Int.gcd a.den b.den = G := ⟨_, rfl⟩
  have hGp : 0 < G := by rw [← hG]; exact Int.gcd_pos_of_ne_zero_right _ (rat_den_ne b)
  have hGl := gcd_le (p := (a.den : Int)) (rat_den_ne b)
  rw [hG] at hGl
  obtain ⟨S, hS⟩ : ∃ S, S = (b.den : Int) / (G : Nat) := ⟨_, rfl⟩
  obtain ⟨T, hT⟩ : ∃ T, T = (a.den : Int) / (G : Nat) := ⟨_, rfl⟩
  have hOK : addOKR a b ↔ (a.num * S).natAbs < top ∧ (b.num * T).natAbs < top ∧ (a.num * S + b.num * T).natAbs < top ∧ (T * (b.den : Int)).natAbs < top := by
    unfold addOKR addOK
    rw [hG, hS, hT]
  have HOK := Lib.hid hOK
  have HMR := Lib.hid (show makeR (a.num * S + b.num * T) (T * (b.den : Int)) = (a + b, 0) by rw [hS, hT]; exact makeR_add a b hG)
  have sS : Sm 1240 S := by rw [hS]; exact sb.2.le (natAbs_div_le _ _)
  have sT : Sm 1240 T := by rw [hT]; exact sa.2.le (natAbs_div_le _ _)
  have s0 := sa.1.mul sS
  have s1 := sb.1.mul sT
  have s2 := sT.mul sb.2
  have HSM := Lib.hid (show Sm 2500 (a.num * S) ∧ Sm 2500 (b.num * T) ∧ Sm 2500 (T * (b.den : Int)) ∧ Sm 2500 (a.num * S + b.num * T) from ⟨s0.mono (by omega), s1.mono (by omega), s2.mono (by omega), (s0.add s1).mono (by omega)⟩)
  have HG := Lib.hid (show Nat.gcd (a.den : Int).natAbs (b.den : Int).natAbs = G from hG)
  have HS := Lib.hid hS
  have HT := Lib.hid hT
  have HsS := Lib.hid sS
  have HsT := Lib.hid sT
  have hG0 : ((G : Nat) : Int) ≠ 0 := by omega
  clear hOK hS hT sS sT s0 s1 s2 hG hGp
  go_enter Tryz.func75, Tryz.ntmps75
  go_upto_region 1 with fail
  refine wp_new3 fun W hA hBx hO hB => ?_
  replace hf := hf.on hB
  replace hg := hg.on hB
  obtain ⟨a0, a1, a2, a3, _⟩ := hA.all4
  obtain ⟨b0, b1, b2, b3, _⟩ := hBx.all4
  go_wp2_with fail
  refine (rGcd_any hf.2 hg.2 (by unfold many; omega) (by unfold many; omega)).mono ?_
  rintro e w1 ⟨gv, rfl, k1, hgv⟩
  rw [HG.out] at hgv
  go_upto_region 2 with fail
  refine wp_new1 fun w2 hOg k2 => ?_
  have kk := Below.call k1 k2
  replace hB := Below.call hB kk
  replace hf := hf.on kk
  replace hg := hg.on kk
  replace hA := hA.on kk
  replace hBx := hBx.on kk
  replace hO := hO.on kk
  replace hgv := hgv.on k2
  have hgn : gv.n < many - 2 := by have := NI.len_le hgv hg.2 hGl; unfold many; omega
  clear a0 a1 a2 a3 b0 b1 b2 b3 k1 k2 kk
  obtain ⟨b0, b1, b2, b3, _⟩ := hBx.all4
  obtain ⟨g0, g1, _⟩ := hOg.all2
  go_wp2_with fail
  refine (rDiv_any hg.2 hgv hG0 (by unfold many; omega) hgn).mono ?_
  rintro e w3 ⟨s, sr, rfl, k3, hs, _⟩
  rw [← HS.out] at hs
  go_upto_region 3 with fail
  refine wp_new2 fun w4 hOs _ k4 => ?_
  have kk := Below.call k3 k4
  replace hB := Below.call hB kk
  replace hf := hf.on kk
  replace hg := hg.on kk
  replace hA := hA.on kk
  replace hBx := hBx.on kk
  replace hO := hO.on kk
  replace hgv := hgv.on kk
  replace hOg := hOg.on kk
  replace hs := hs.on k4
  clear b0 b1 b2 b3 g0 g1 k3 k4 kk
  obtain ⟨a0, a1, a2, a3, _⟩ := hA.all4
  obtain ⟨g0, g1, _⟩ := hOg.all2
  go_wp2_with fail
  refine (rDiv_any hf.2 hgv hG0 (by unfold many; omega) hgn).mono ?_
  rintro e w7 ⟨q, qr, rfl, k7, hq, _⟩
  rw [← HT.out] at hq
  go_upto_region 4 with fail
  refine wp_new2 fun w8 hOq _ k8 => ?_
  have kk := Below.call k7 k8
  replace hB := Below.call hB kk
  replace hf := hf.on kk
  replace hg := hg.on kk
  replace hA := hA.on kk
  replace hBx := hBx.on kk
  replace hO := hO.on kk
  replace hs := hs.on kk
  replace hOs := hOs.on kk
  replace hq := hq.on k8
  have ns := HsS.out.len hs
  have nq := HsT.out.len hq
  have HN := Lib.hid (show f.p.n + s.n ≤ many ∧ g.p.n + q.n ≤ many ∧ q.n + g.l.n ≤ many by unfold many; omega)
  have g7 := w3.heap.size
  clear a0 a1 a2 a3 g0 g1 k7 k8 kk hgv hOg hgn hGl n1 n2 n3 n4 ns nq
  obtain ⟨g7, hg7⟩ : ∃ g7, g7 = w3.heap.size := ⟨_, rfl⟩
  obtain ⟨g9, hg9⟩ : ∃ g9, g9 = w7.heap.size := ⟨_, rfl⟩
  rw [← hg7] at hOs ⊢
  rw [← hg9] at hOq ⊢
  clear hg7 hg9
  refine wp_region_specs w8 [Spec.eq (.pointer (some ⟨w.heap.size, 0, none⟩)), Spec.eq (.agg #[.bool f.p.neg, .slice f.p.A f.p.n f.p.c]), Spec.eq (.agg #[.bool s.neg, .slice s.A s.n s.c]), sN (a.num * S), Spec.eq (.pointer (some ⟨w.heap.size + 1, 0, none⟩)), Spec.eq (.agg #[.bool g.p.neg, .slice g.p.A g.p.n g.p.c]), Spec.eq (.agg #[.bool q.neg, .slice q.A q.n q.c]), sN (b.num * T), Spec.eq (.agg #[.bool q.neg, .slice q.A q.n q.c]), Spec.eq (.pointer (some ⟨w.heap.size + 1, 2, none⟩)), Spec.eq (.agg #[.bool g.l.neg, .slice g.l.A g.l.n g.l.c]), sN (T * (b.den : Int)), sN3v (a.num * S) (b.num * T) (T * (b.den : Int)), sN3v (a.num * S) (b.num * T) (T * (b.den : Int))]
      (by kernel_rfl) (by kernel_rfl) rfl (by kernel_rfl) (Below.drew (Below.refl _ _)) ?_ ?_
  ·
    refine RegSteps.cons ?_ ?_
    · intro _ az wz hC hF hD _ K hK; have q2 : az.tmps[2]? = some (.pointer (some ⟨w.heap.size, 0, none⟩)) := hF 2 rfl; clear hF hD; refine want_none rfl ?_; go_simp; exact hK _ _ hC (Below.refl _ _) rfl
    refine RegSteps.cons ?_ ?_
    · intro _ az wz hC hF hD _ K hK; obtain ⟨_, q33, rfl⟩ := dep hD 0 rfl rfl rfl rfl; obtain ⟨l0, l1, l2, l3, _⟩ := (hA.on hC).all4; clear hF hD; refine want_none rfl ?_; go_simp; exact hK _ _ hC (Below.refl _ _) rfl
    refine RegSteps.cons ?_ ?_
    · intro _ az wz hC hF hD _ K hK; have q7 : az.tmps[7]? = some (.pointer (some ⟨g7, 0, none⟩)) := hF 7 rfl; obtain ⟨l0, l1, _⟩ := (hOs.on hC).all2; clear hF hD; refine want_none rfl ?_; go_simp; exact hK _ _ hC (Below.refl _ _) rfl
    refine RegSteps.cons ?_ ?_
    · intro _ az wz hC hF hD _ K hK; obtain ⟨_, q34, rfl⟩ := dep hD 1 rfl rfl rfl rfl; obtain ⟨_, q35, rfl⟩ := dep hD 2 rfl rfl rfl rfl; clear hF hD; refine want_none rfl ?_; go_simp; refine (rMul_any (hf.1.on hC) (hs.on hC) HN.out.1).mono ?_; rintro e wy ⟨x, rfl, k, hx⟩; exact hK _ _ (Below.call hC k) k ⟨x, rfl, hx⟩
    refine RegSteps.cons ?_ ?_
    · intro _ az wz hC hF hD _ K hK; have q3 : az.tmps[3]? = some (.pointer (some ⟨w.heap.size + 1, 0, none⟩)) := hF 3 rfl; clear hF hD; refine want_none rfl ?_; go_simp; exact hK _ _ hC (Below.refl _ _) rfl
    refine RegSteps.cons ?_ ?_
    · intro _ az wz hC hF hD _ K hK; obtain ⟨_, q37, rfl⟩ := dep hD 4 rfl rfl rfl rfl; obtain ⟨l0, l1, l2, l3, _⟩ := (hBx.on hC).all4; clear hF hD; refine want_none rfl ?_; go_simp; exact hK _ _ hC (Below.refl _ _) rfl
    refine RegSteps.cons ?_ ?_
    · intro _ az wz hC hF hD _ K hK; have q9 : az.tmps[9]? = some (.pointer (some ⟨g9, 0, none⟩)) := hF 9 rfl; obtain ⟨l0, l1, _⟩ := (hOq.on hC).all2; clear hF hD; refine want_none rfl ?_; go_simp; exact hK _ _ hC (Below.refl _ _) rfl
    refine RegSteps.cons ?_ ?_
    · intro _ az wz hC hF hD _ K hK; obtain ⟨_, q38, rfl⟩ := dep hD 5 rfl rfl rfl rfl; obtain ⟨_, q39, rfl⟩ := dep hD 6 rfl rfl rfl rfl; clear hF hD; refine want_none rfl ?_; go_simp; refine (rMul_any (hg.1.on hC) (hq.on hC) HN.out.2.1).mono ?_; rintro e wy ⟨x, rfl, k, hx⟩; exact hK _ _ (Below.call hC k) k ⟨x, rfl, hx⟩
    refine RegSteps.cons ?_ ?_
    · intro _ az wz hC hF hD _ K hK; have q9 : az.tmps[9]? = some (.pointer (some ⟨g9, 0, none⟩)) := hF 9 rfl; obtain ⟨l0, l1, _⟩ := (hOq.on hC).all2; clear hF hD; refine want_none rfl ?_; go_simp; exact hK _ _ hC (Below.refl _ _) rfl
    refine RegSteps.cons ?_ ?_
    · intro _ az wz hC hF hD _ K hK; have q3 : az.tmps[3]? = some (.pointer (some ⟨w.heap.size + 1, 0, none⟩)) := hF 3 rfl; clear hF hD; refine want_none rfl ?_; go_simp; exact hK _ _ hC (Below.refl _ _) rfl
    refine RegSteps.cons ?_ ?_
    · intro _ az wz hC hF hD _ K hK; obtain ⟨_, q42, rfl⟩ := dep hD 9 rfl rfl rfl rfl; obtain ⟨l0, l1, l2, l3, _⟩ := (hBx.on hC).all4; clear hF hD; refine want_none rfl ?_; go_simp; exact hK _ _ hC (Below.refl _ _) rfl
    refine RegSteps.cons ?_ ?_
    · intro _ az wz hC hF hD _ K hK; obtain ⟨_, q41, rfl⟩ := dep hD 8 rfl rfl rfl rfl; obtain ⟨_, q43, rfl⟩ := dep hD 10 rfl rfl rfl rfl; clear hF hD; refine want_none rfl ?_; go_simp; refine (rMul_any (hq.on hC) (hg.2.on hC) HN.out.2.2).mono ?_; rintro e wy ⟨x, rfl, k, hx⟩; exact hK _ _ (Below.call hC k) k ⟨x, rfl, hx⟩
    refine RegSteps.cons ?_ ?_
    · intro _ az wz hC hF hD _ K hK; obtain ⟨_, q36, x36, rfl, hx36⟩ := dep hD 3 rfl rfl rfl rfl; obtain ⟨_, q40, x40, rfl, hx40⟩ := dep hD 7 rfl rfl rfl rfl; obtain ⟨_, q44, x44, rfl, hx44⟩ := dep hD 11 rfl rfl rfl rfl; clear hF hD; refine want_none rfl ?_; go_simp; exact hK _ _ (Below.alloc hC hC.size _) (below_new _ _) ⟨_, rfl, N3.mk hx36 hx40 hx44⟩
    refine RegSteps.cons ?_ ?_
    · intro _ az wz hC hF hD _ K hK; obtain ⟨_, q45, x45, rfl, hx45⟩ := dep hD 12 rfl rfl rfl rfl; clear hF hD; refine want_none rfl ?_; go_simp; exact hK _ _ hC (Below.refl _ _) ⟨x45, rfl, hx45⟩
    exact RegSteps.nil
  intro w9 hC9
  rintro _ rfl _ rfl _ rfl _ ⟨y36, rfl, _⟩ _ rfl _ rfl _ rfl _ ⟨y40, rfl, _⟩ _ rfl _ rfl _ rfl _ ⟨y44, rfl, _⟩ _ ⟨y45, rfl, _⟩ _ ⟨y11, rfl, hy11⟩
  simp only [FinOK, Act.put, List.setIfInBounds_toArray, List.set_cons_zero, List.set_cons_succ]
  obtain ⟨x0, x1, x2, hL, h0, h1, h2⟩ := hy11
  replace hB := Below.call hB hC9
  replace hO := hO.on hC9
  have l0 := HSM.out.1.len h0
  have l1 := HSM.out.2.1.len h1
  have HN2 := Lib.hid (show x0.n < many ∧ x1.n < many by unfold many; omega)
  clear hA hBx hf hg hs hOs hq hOq HN hC9 l0 l1
  go_wp2_with fail
  refine wp_region_suffix (R := Bel) w9 9 [Spec.eq (.slice (some ⟨y11, 0, none⟩) 3 3), Spec.eq (.slice (some ⟨y11, 0, none⟩) 3 3), Spec.eq (.pointer (some ⟨y11, 0, none⟩)), Spec.eq (.agg #[.bool x0.neg, .slice x0.A x0.n x0.c]), Spec.eq (.slice (some ⟨y11, 0, none⟩) 3 3), Spec.eq (.pointer (some ⟨y11, 2, none⟩)), Spec.eq (.agg #[.bool x1.neg, .slice x1.A x1.n x1.c]), sN (a.num * S + b.num * T), sN1v (a.num * S + b.num * T)]
      (by kernel_rfl) (by kernel_rfl) rfl (by kernel_rfl) (by kernel_rfl) (Below.drew (Below.refl _ _)) ?_ ?_
  ·
    refine RegSteps.cons ?_ ?_
    · intro _ az wz hC hF hD _ K hK; have q11 : az.tmps[11]? = some (.slice (some ⟨y11, 0, none⟩) 3 3) := hF 11 rfl; clear hF hD; refine want_none rfl ?_; go_simp; exact hK _ _ hC (Below.refl _ _) rfl
    refine RegSteps.cons ?_ ?_
    · intro _ az wz hC hF hD _ K hK; have q11 : az.tmps[11]? = some (.slice (some ⟨y11, 0, none⟩) 3 3) := hF 11 rfl; clear hF hD; refine want_none rfl ?_; go_simp; exact hK _ _ hC (Below.refl _ _) rfl
    refine RegSteps.cons ?_ ?_
    · intro _ az wz hC hF hD _ K hK; obtain ⟨_, q47, rfl⟩ := dep hD 1 rfl rfl rfl rfl; clear hF hD; refine want_none rfl ?_; go_simp; exact hK _ _ hC (Below.refl _ _) rfl
    refine RegSteps.cons ?_ ?_
    · intro _ az wz hC hF hD _ K hK; obtain ⟨_, q48, rfl⟩ := dep hD 2 rfl rfl rfl rfl; obtain ⟨l0, l1, l2, l3, l4, l5⟩ := (hL.on hC).all6; clear hF hD; refine want_none rfl ?_; go_simp; exact hK _ _ hC (Below.refl _ _) rfl
    refine RegSteps.cons ?_ ?_
    · intro _ az wz hC hF hD _ K hK; have q11 : az.tmps[11]? = some (.slice (some ⟨y11, 0, none⟩) 3 3) := hF 11 rfl; clear hF hD; refine want_none rfl ?_; go_simp; exact hK _ _ hC (Below.refl _ _) rfl
    refine RegSteps.cons ?_ ?_
    · intro _ az wz hC hF hD _ K hK; obtain ⟨_, q50, rfl⟩ := dep hD 4 rfl rfl rfl rfl; clear hF hD; refine want_none rfl ?_; go_simp; exact hK _ _ hC (Below.refl _ _) rfl
    refine RegSteps.cons ?_ ?_
    · intro _ az wz hC hF hD _ K hK; obtain ⟨_, q51, rfl⟩ := dep hD 5 rfl rfl rfl rfl; obtain ⟨l0, l1, l2, l3, l4, l5⟩ := (hL.on hC).all6; clear hF hD; refine want_none rfl ?_; go_simp; exact hK _ _ hC (Below.refl _ _) rfl
    refine RegSteps.cons ?_ ?_
    · intro _ az wz hC hF hD _ K hK; obtain ⟨_, q49, rfl⟩ := dep hD 3 rfl rfl rfl rfl; obtain ⟨_, q52, rfl⟩ := dep hD 6 rfl rfl rfl rfl; clear hF hD; refine want_none rfl ?_; go_simp; refine (rAdd_any (h0.on hC) (h1.on hC) HN2.out.1 HN2.out.2).mono ?_; rintro e wy ⟨x, rfl, k, hx⟩; exact hK _ _ (Below.call hC k) k ⟨x, rfl, hx⟩
    refine RegSteps.cons ?_ ?_
    · intro _ az wz hC hF hD _ K hK; obtain ⟨_, q53, x53, rfl, hx53⟩ := dep hD 7 rfl rfl rfl rfl; clear hF hD; refine want_none rfl ?_; go_simp; exact hK _ _ (Below.alloc hC hC.size _) (below_new _ _) ⟨_, rfl, N1.mk hx53⟩
    exact RegSteps.nil
  intro w9b hC9b
  rintro _ rfl _ rfl _ rfl _ rfl _ rfl _ rfl _ rfl _ ⟨y53, rfl, _⟩ _ ⟨y54, rfl, hy54⟩
  simp only [List.take, FinOK, Act.put, List.setIfInBounds_toArray, List.set_cons_zero, List.set_cons_succ]
  simp only [List.drop, TailOK]
  obtain ⟨p3, hP3, h3⟩ := hy54
  replace hL := hL.on hC9b
  replace h0 := h0.on hC9b
  replace h1 := h1.on hC9b
  replace h2 := h2.on hC9b
  replace hB := Below.call hB hC9b
  replace hO := hO.on hC9b
  intro K hK
  refine want_none rfl ?_
  refine step_grows3 ?g1 (.tmp 46) (.tmp 54) ?g2 ?g3 ?g4 hL hP3 h0 h1 h2 h3 HSM.out ?g5
  case g1 => rfl
  case g2 => rfl
  case g3 => rfl
  case g4 => rfl
  rintro v w10 hv hC10
  obtain ⟨y11, rfl, hy11⟩ := hv
  refine hK _ _ ?_
  clear hK K
  replace hB := Below.call hB hC10
  replace hO := hO.on hC10
  clear hL hP3 h0 h1 h2 h3 hC9b hC10 HN2
  intro K hK
  refine want_none rfl ?_
  simp only [Act.put, List.setIfInBounds_toArray, List.set_cons_zero, List.set_cons_succ]
  go_simp
  refine hK _ _ ?_
  clear hK K
  obtain ⟨zs, hzs⟩ : ∃ zs, zs = [a.num * S, b.num * T, T * (b.den : Int), a.num * S + b.num * T] := ⟨_, rfl⟩
  rw [← hzs] at hy11
  have HZ := Lib.hid hzs
  clear hzs
  go_wp2_with fail
  go_loopw [12] (fun s wr => ∃ i : Nat, i ≤ 4 ∧ s = .int .i64 (i : Int) ∧ Hid (∀ j, j < i → (zs.getD j 0).natAbs < top) ∧ Below w10.heap.size w10 wr) (fun s _ => 4 - (intOf s).toNat)
  case atStart => exact ⟨0, by omega, rfl, Lib.hid fun j hj => absurd hj (by omega), Below.refl _ _⟩
  case round =>
    obtain ⟨i, hi, rfl, hfit, hbr⟩ := hrel
    have h4 := hy11.on hbr
    rcases Nat.lt_or_eq_of_le hi with hlt | rfl
    · obtain ⟨x, hx⟩ := h4 i hlt
      obtain ⟨r0, r1⟩ := hx.rules
      have hW := Below.refl wr.heap.size wr
      obtain ⟨bb, hbb⟩ : ∃ bb, decide ((zs.getD i 0).natAbs < top) = bb := ⟨_, rfl⟩
      have HBB := Lib.hid hbb
      have i0 : (0 : Int) ≤ (i : Int) := by omega
      have i4 : (i : Int) < 4 := by omega
      clear hbb
      go_wp2_with fail
      refine (rFits_b hx.ni bb HBB.out).mono ?_
      rintro e w11 ⟨rfl, k11⟩
      have hb11 := Below.call hbr k11
      clear r0 r1 hW
      cases bb
      · have hno : ¬ addOKR a b := fun h => by
          have h' := HOK.out.1 h
          have hbb := HBB.out
          rw [HZ.out] at hbb
          match i, hlt with
          | 0, _ => simp [h'.1] at hbb
          | 1, _ => simp [h'.2.1] at hbb
          | 2, _ => simp [h'.2.2.2] at hbb
          | 3, _ => simp [h'.2.2.1] at hbb
        have HR := Lib.hid (show addR a b = (0, 4) from if_neg hno)
        clear hno
        go_wp2_with fail
        refine (fOf_any 0 _ ⟨by omega, by omega⟩).mono ?_
        rintro e w12 ⟨u, rfl, k12, hu⟩
        have hB3 := Below.call hB (Below.call hb11 k12)
        have hO3 := hO.on (Below.call hb11 k12)
        clear hO hB h4 hx hbr hb11 hy11 k11 k12
        obtain ⟨z0, z1, z2, z3, f0, f1, f2, f3⟩ := hO3.all4
        have HF := Lib.hid (put_nre (err := 4) hB3 (by omega) hO3 (by simp) (by simp) (by simp) (by simp) hu)
        obtain ⟨q0, q1, q2, q3, _⟩ := (hO3.put4 (.bool u.p.neg) (.slice u.p.A u.p.n u.p.c) (.bool u.l.neg) (.slice u.l.A u.l.n u.l.c)).all4
        clear hO3 hu
        go_wp2
        exact bodyPost_ret (v := .tuple #[.agg #[.bool u.p.neg, .slice u.p.A u.p.n u.p.c, .bool u.l.neg, .slice u.l.A u.l.n u.l.c], .int .i64 4]) (by simp [results, Tryz.results75, go_sem, q0, q1, q2, q3]) rfl (by rw [HR.out]; exact HF.out)
      · have hfit2 : Hid (∀ j, j < i + 1 → (zs.getD j 0).natAbs < top) := Lib.hid fun j hj => by
          rcases Nat.lt_or_eq_of_le (Nat.le_of_lt_succ hj) with h | rfl
          · exact hfit.out j h
          · simpa using HBB.out
        clear h4 hx hbr hfit
        go_wp2_with fail
        go_roundw
        case rel => exact ⟨i + 1, by omega, by go_num, hfit2, hb11⟩
        case measure => simp [intOf]; omega
    · have hyes : addOKR a b := by
        refine HOK.out.2 ?_
        have h' := hfit.out
        rw [HZ.out] at h'
        exact ⟨h' 0 (by omega), h' 1 (by omega), h' 3 (by omega), h' 2 (by omega)⟩
      have HR := Lib.hid (show addR a b = (a + b, 0) from if_pos hyes)
      obtain ⟨t2, n2⟩ := h4 2 (by omega)
      obtain ⟨t3, n3⟩ := h4 3 (by omega)
      have rl2 : ∀ u, Below wr.heap.size wr u → u.cell? ⟨y11.1, 4, none⟩ = some (.bool t2.neg) ∧ u.cell? ⟨y11.1, 5, none⟩ = some (.slice t2.A t2.n t2.c) := fun u hu => ⟨n2.rules.1 u hu, n2.rules.2 u hu⟩
      have rl3 : ∀ u, Below wr.heap.size wr u → u.cell? ⟨y11.1, 6, none⟩ = some (.bool t3.neg) ∧ u.cell? ⟨y11.1, 7, none⟩ = some (.slice t3.A t3.n t3.c) := fun u hu => ⟨n3.rules.1 u hu, n3.rules.2 u hu⟩
      have l2 := n2.sm.len n2.ni
      have l3 := n3.sm.len n3.ni
      replace n2 := n2.ni
      replace n3 := n3.ni
      rw [HZ.out] at n2 n3
      have HMk : Hid (∀ u, NI t3 u (a.num * S + b.num * T) → NI t2 u (T * (b.den : Int)) → Calls Tryz.prog 65 #[.agg #[.bool t3.neg, .slice t3.A t3.n t3.c], .agg #[.bool t2.neg, .slice t2.A t2.n t2.c]] u (RetNRE u (a + b) 0)) := Lib.hid fun u u3 u2 => by
        have := fMake_any u3 u2 (by unfold many; omega) (by unfold many; omega)
        rwa [HMR.out] at this
      replace n2 : NI t2 wr (T * (b.den : Int)) := n2
      replace n3 : NI t3 wr (a.num * S + b.num * T) := n3
      replace hB := Below.call hB hbr
      replace hO := hO.on hbr
      clear h4 hyes hfit l2 l3 hy11
      go_wp2_with fail
      refine wp_region_suffix (R := Bel) wr 9 [Spec.eq (.slice (some ⟨y11.1, 0, none⟩) 4 y11.2), Spec.eq (.pointer (some ⟨y11.1, 6, none⟩)), Spec.eq (.agg #[.bool t3.neg, .slice t3.A t3.n t3.c]), Spec.eq (.slice (some ⟨y11.1, 0, none⟩) 4 y11.2), Spec.eq (.pointer (some ⟨y11.1, 4, none⟩)), Spec.eq (.agg #[.bool t2.neg, .slice t2.A t2.n t2.c]), sNRE (a + b) 0, sNR (a + b), Spec.eq (.int .i64 0)]
          (by kernel_rfl) (by kernel_rfl) rfl (by kernel_rfl) (by kernel_rfl) (Below.drew (Below.refl _ _)) ?_ ?_
      ·
        refine RegSteps.cons ?_ ?_
        · intro _ az wz hC hF hD _ K hK; have q11 : az.tmps[11]? = some (.slice (some ⟨y11.1, 0, none⟩) 4 y11.2) := hF 11 rfl; clear hF hD; refine want_none rfl ?_; go_simp; exact hK _ _ hC (Below.refl _ _) rfl
        refine RegSteps.cons ?_ ?_
        · intro _ az wz hC hF hD _ K hK; obtain ⟨_, q68, rfl⟩ := dep hD 0 rfl rfl rfl rfl; clear hF hD; refine want_none rfl ?_; go_simp; exact hK _ _ hC (Below.refl _ _) rfl
        refine RegSteps.cons ?_ ?_
        · intro _ az wz hC hF hD _ K hK; obtain ⟨_, q69, rfl⟩ := dep hD 1 rfl rfl rfl rfl; obtain ⟨l0, l1⟩ := rl3 _ hC; clear hF hD; refine want_none rfl ?_; go_simp; exact hK _ _ hC (Below.refl _ _) rfl
        refine RegSteps.cons ?_ ?_
        · intro _ az wz hC hF hD _ K hK; have q11 : az.tmps[11]? = some (.slice (some ⟨y11.1, 0, none⟩) 4 y11.2) := hF 11 rfl; clear hF hD; refine want_none rfl ?_; go_simp; exact hK _ _ hC (Below.refl _ _) rfl
        refine RegSteps.cons ?_ ?_
        · intro _ az wz hC hF hD _ K hK; obtain ⟨_, q71, rfl⟩ := dep hD 3 rfl rfl rfl rfl; clear hF hD; refine want_none rfl ?_; go_simp; exact hK _ _ hC (Below.refl _ _) rfl
        refine RegSteps.cons ?_ ?_
        · intro _ az wz hC hF hD _ K hK; obtain ⟨_, q72, rfl⟩ := dep hD 4 rfl rfl rfl rfl; obtain ⟨l0, l1⟩ := rl2 _ hC; clear hF hD; refine want_none rfl ?_; go_simp; exact hK _ _ hC (Below.refl _ _) rfl
        refine RegSteps.cons ?_ ?_
        · intro _ az wz hC hF hD _ K hK; obtain ⟨_, q70, rfl⟩ := dep hD 2 rfl rfl rfl rfl; obtain ⟨_, q73, rfl⟩ := dep hD 5 rfl rfl rfl rfl; clear hF hD; refine want_none rfl ?_; go_simp; refine (HMk.out _ (n3.on hC) (n2.on hC)).mono ?_; rintro e wy ⟨x, rfl, k, hx⟩; exact hK _ _ (Below.call hC k) k ⟨x, rfl, hx⟩
        refine RegSteps.cons ?_ ?_
        · intro _ az wz hC hF hD _ K hK; obtain ⟨_, q74, x74, rfl, hx74⟩ := dep hD 6 rfl rfl rfl rfl; clear hF hD; refine want_none rfl ?_; go_simp; exact hK _ _ hC (Below.refl _ _) ⟨x74, rfl, hx74⟩
        refine RegSteps.cons ?_ ?_
        · intro _ az wz hC hF hD _ K hK; obtain ⟨_, q74, x74, rfl, hx74⟩ := dep hD 6 rfl rfl rfl rfl; clear hF hD; refine want_none rfl ?_; go_simp; exact hK _ _ hC (Below.refl _ _) rfl
        exact RegSteps.nil
      intro w11 hC11
      rintro _ rfl _ rfl _ rfl _ rfl _ rfl _ rfl _ ⟨y74, rfl, _⟩ _ ⟨y75, rfl, hy75⟩ _ rfl
      simp only [List.take, FinOK, Act.put, List.setIfInBounds_toArray, List.set_cons_zero, List.set_cons_succ]
      simp only [List.drop, TailOK]
      replace hB := Below.call hB hC11
      replace hO := hO.on hC11
      obtain ⟨z0, z1, z2, z3, f0, f1, f2, f3⟩ := hO.all4
      have HF := Lib.hid (put_nre (err := 0) hB (by omega) hO (by simp) (by simp) (by simp) (by simp) hy75)
      obtain ⟨q0, q1, q2, q3, _⟩ := (hO.put4 (.bool y75.p.neg) (.slice y75.p.A y75.p.n y75.p.c) (.bool y75.l.neg) (.slice y75.l.A y75.l.n y75.l.c)).all4
      clear hy75 rl2 rl3 n2 n3
      intro K hK
      refine want_none rfl ?_
      go_simp
      refine hK _ _ ?_
      clear hK K
      intro K hK
      refine want_none rfl ?_
      go_simp
      refine hK _ _ ?_
      clear hK K
      go_wp2
      exact bodyPost_ret (v := .tuple #[.agg #[.bool y75.p.neg, .slice y75.p.A y75.p.n y75.p.c, .bool y75.l.neg, .slice y75.l.A y75.l.n y75.l.c], .int .i64 0]) (by simp [results, Tryz.results75, go_sem, q0, q1, q2, q3]) rfl (by rw [HR.out]; exact HF.out)
set_option maxRecDepth 100000 in
set_option maxHeartbeats 3200000 in
theorem fSub_any {f g : FV} {a b : Rat} {w : World} (hf : NR f w a) (hg : NR g w b) (sa : SmR 1240 a) (sb : SmR 1240 b) : Calls Tryz.prog 77 #[.agg #[.bool f.p.neg, .slice f.p.A f.p.n f.p.c, .bool f.l.neg, .slice f.l.A f.l.n f.l.c], .agg #[.bool g.p.neg, .slice g.p.A g.p.n g.p.c, .bool g.l.neg, .slice g.l.A g.l.n g.l.c]] w (RetNRE w (addR a (-b)).1 (addR a (-b)).2) := by
  obtain ⟨r, hr⟩ : ∃ r, addR a (-b) = r := ⟨_, rfl⟩
  have HAd : Hid (∀ (x : FV) (u : World), NR f u a → NR x u (-b) → Calls Tryz.prog 75 #[.agg #[.bool f.p.neg, .slice f.p.A f.p.n f.p.c, .bool f.l.neg, .slice f.l.A f.l.n f.l.c], .agg #[.bool x.p.neg, .slice x.p.A x.p.n x.p.c, .bool x.l.neg, .slice x.l.A x.l.n x.l.c]] u (RetNRE u r.1 r.2)) := Lib.hid fun x u h1 h2 => by
    rw [← hr]; exact fAdd_any h1 h2 sa sb.neg
  rw [hr]
  clear hr sa sb
  go_enter Tryz.func77, Tryz.ntmps77
  go_upto_region 1 with fail
  refine wp_new3 fun W hA hBx hO hB => ?_
  replace hf := hf.on hB
  replace hg := hg.on hB
  refine wp_region_suffix (R := Bel) W 6 [Spec.eq (.agg #[.bool f.p.neg, .slice f.p.A f.p.n f.p.c, .bool f.l.neg, .slice f.l.A f.l.n f.l.c]), Spec.eq (.agg #[.bool g.p.neg, .slice g.p.A g.p.n g.p.c, .bool g.l.neg, .slice g.l.A g.l.n g.l.c]), sNR (-b), sNRE r.1 r.2, sNR r.1, Spec.eq (.int .i64 r.2)]
      (by kernel_rfl) (by kernel_rfl) rfl (by kernel_rfl) (by kernel_rfl) (Below.drew (Below.refl _ _)) ?_ ?_
  ·
    refine RegSteps.cons ?_ ?_
    · intro _ az wz hC hF hD _ K hK; have q2 : az.tmps[2]? = some (.pointer (some ⟨w.heap.size, 0, none⟩)) := hF 2 rfl; obtain ⟨l0, l1, l2, l3, _⟩ := (hA.on hC).all4; clear hF hD; refine want_none rfl ?_; go_simp; exact hK _ _ hC (Below.refl _ _) rfl
    refine RegSteps.cons ?_ ?_
    · intro _ az wz hC hF hD _ K hK; have q3 : az.tmps[3]? = some (.pointer (some ⟨w.heap.size + 1, 0, none⟩)) := hF 3 rfl; obtain ⟨l0, l1, l2, l3, _⟩ := (hBx.on hC).all4; clear hF hD; refine want_none rfl ?_; go_simp; exact hK _ _ hC (Below.refl _ _) rfl
    refine RegSteps.cons ?_ ?_
    · intro _ az wz hC hF hD _ K hK; obtain ⟨_, q7, rfl⟩ := dep hD 1 rfl rfl rfl rfl; clear hF hD; refine want_none rfl ?_; go_simp; refine (fNeg_any (hg.on hC)).mono ?_; rintro e wy ⟨x, rfl, k, hx⟩; exact hK _ _ (Below.call hC k) k ⟨x, rfl, hx⟩
    refine RegSteps.cons ?_ ?_
    · intro _ az wz hC hF hD _ K hK; obtain ⟨_, q6, rfl⟩ := dep hD 0 rfl rfl rfl rfl; obtain ⟨_, q8, x8, rfl, hx8⟩ := dep hD 2 rfl rfl rfl rfl; clear hF hD; refine want_none rfl ?_; go_simp; refine (HAd.out _ _ (hf.on hC) hx8).mono ?_; rintro e wy ⟨x, rfl, k, hx⟩; exact hK _ _ (Below.call hC k) k ⟨x, rfl, hx⟩
    refine RegSteps.cons ?_ ?_
    · intro _ az wz hC hF hD _ K hK; obtain ⟨_, q9, x9, rfl, hx9⟩ := dep hD 3 rfl rfl rfl rfl; clear hF hD; refine want_none rfl ?_; go_simp; exact hK _ _ hC (Below.refl _ _) ⟨x9, rfl, hx9⟩
    refine RegSteps.cons ?_ ?_
    · intro _ az wz hC hF hD _ K hK; obtain ⟨_, q9, x9, rfl, hx9⟩ := dep hD 3 rfl rfl rfl rfl; clear hF hD; refine want_none rfl ?_; go_simp; exact hK _ _ hC (Below.refl _ _) rfl
    exact RegSteps.nil
  intro w2 hC
  rintro _ rfl _ rfl _ ⟨y8, rfl, _⟩ _ ⟨y9, rfl, _⟩ _ ⟨y10, rfl, hy10⟩ _ rfl
  simp only [List.take, FinOK, Act.put, List.setIfInBounds_toArray, List.set_cons_zero, List.set_cons_succ]
  simp only [List.drop, TailOK]
  replace hB := Below.call hB hC
  replace hO := hO.on hC
  obtain ⟨z0, z1, z2, z3, f0, f1, f2, f3⟩ := hO.all4
  have HF := Lib.hid (put_nre (err := r.2) hB (by omega) hO (by simp) (by simp) (by simp) (by simp) hy10)
  obtain ⟨q0, q1, q2, q3, _⟩ := (hO.put4 (.bool y10.p.neg) (.slice y10.p.A y10.p.n y10.p.c) (.bool y10.l.neg) (.slice y10.l.A y10.l.n y10.l.c)).all4
  clear hy10 hA hBx hf hg
  intro K hK
  refine want_none rfl ?_
  go_simp
  refine hK _ _ ?_
  clear hK K
  intro K hK
  refine want_none rfl ?_
  go_simp
  refine hK _ _ ?_
  clear hK K
  go_wp2
  exact bodyPost_ret (v := .tuple #[.agg #[.bool y10.p.neg, .slice y10.p.A y10.p.n y10.p.c, .bool y10.l.neg, .slice y10.l.A y10.l.n y10.l.c], .int .i64 r.2]) (by simp [results, Tryz.results77, go_sem, q0, q1, q2, q3]) rfl HF.out
end Go.Proofs.YthafhbogpfggjaaGreatDoor
