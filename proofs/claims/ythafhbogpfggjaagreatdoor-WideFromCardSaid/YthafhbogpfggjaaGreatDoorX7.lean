/-
  The law WideFrom: the walk.
-/
import Derived.Test.YthafhbogpfggjaaGreatDoorX9
import Derived.Test.YthafhbogpfggjaaGreatDoorE13
namespace Go.Proofs.YthafhbogpfggjaaGreatDoor
open Go.RowKit Mag

theorem tdiv_bd {n m : Int} (hm : 1 ≤ m) (n0 : -9223372036854775808 ≤ n) (n1 : n ≤ 9223372036854775807) : -9223372036854775808 ≤ n.tdiv m ∧ n.tdiv m ≤ 9223372036854775807 := by
  rcases Int.lt_or_le n 0 with h | h
  · have e : n.tdiv m = -((-n) / m) := by
      rw [← Int.tdiv_eq_ediv_of_nonneg (by omega), Int.neg_tdiv, Int.neg_neg]
    have h1 : 0 ≤ (-n) / m := Int.ediv_nonneg (by omega) (by omega)
    have h2 : (-n) / m ≤ -n := Int.ediv_le_self _ (by omega)
    omega
  · rw [Int.tdiv_eq_ediv_of_nonneg h]
    have h1 : 0 ≤ n / m := Int.ediv_nonneg h (by omega)
    have h2 : n / m ≤ n := Int.ediv_le_self _ h
    omega
theorem near63 {k z : Int} (hk : k % 4 = 3) (h0 : 0 ≤ k) (h1 : k < 28) (h : z = nearV k ∨ z = -nearV k) : Sm 5 z := by
  have e : nearV k = 9223372036854775808 + (k / 4 - 3) := by
    unfold nearV
    rw [hk]
    rfl
  unfold Sm
  omega
set_option maxRecDepth 100000 in
set_option maxHeartbeats 6400000 in
theorem WideFrom_any {w : World} (n : Int) (hn : in64 n) {A : Option Addr} {l : List Int} {c : Nat} (h : IntsIs w A l c) (k : Int) (hk : in64 k) (ht0 : Tab w) :
    Calls Tryz.prog 5 #[.int .i64 n, .slice A l.length c, .int .i64 k] w (RetBool w true) := by
  obtain ⟨n0, n1⟩ := hn
  obtain ⟨k0, k1⟩ := hk
  go_enter Tryz.func5, Tryz.ntmps5
  go_wp2_with fail
  refine (from_iv n _ n0 n1).mono ?_
  rintro e w1 ⟨x, rfl, u1, hx⟩
  go_upto_region 2 with fail
  refine wp_new1 fun w2' hX u2 => ?_
  have b1 := Below.call u1 u2
  replace hx := hx.on u2
  clear u1 u2
  obtain ⟨x0, x1⟩ := hX.rules2
  have hW := Below.refl w2'.heap.size w2'
  go_wp2_with fail
  refine (small_iv hx).mono ?_
  rintro e w2 ⟨u3, hsm⟩
  rcases hsm with ⟨_, _, rfl⟩ | ⟨hno, _⟩
  case inr => exact absurd hno (by omega)
  clear x0 x1 hW
  replace b1 := Below.call b1 u3
  replace hx := hx.on u3
  replace hX := hX.on u3
  clear u3
  have hn : in64 n := ⟨n0, n1⟩
  go_upto_region 3 with fail
  refine wp_region_specs w2 [Spec.eq (.int .i64 n), Spec.eq (.int .i64 n), Spec.eq (.bool false), Spec.eq (.bool false), Spec.eq (.bool true), Spec.eq (.bool false), Spec.eq (.bool false), Spec.eq (.bool false), Spec.eq (.agg #[.bool x.neg, .slice x.A x.n x.c]), Spec.eq (.int .i64 n), sN n, Spec.eq (.bool true), Spec.eq (.bool false), Spec.eq (.bool false)]
      (by kernel_rfl) (by kernel_rfl) rfl (by kernel_rfl) (Below.drew (Below.refl _ _)) ?_ ?_
  ·
    refine RegSteps.cons ?_ ?_
    · intro _ az wz hC hF hD _ K hK
      have q8 : az.tmps[8]? = some (.int .i64 n) := hF 8 rfl
      clear hF hD
      refine want_none rfl ?_
      go_simp
      exact hK _ _ hC (Below.refl _ _) rfl
    refine RegSteps.cons ?_ ?_
    · intro _ az wz hC hF hD _ K hK
      have q0 : az.tmps[0]? = some (.int .i64 n) := hF 0 rfl
      clear hF hD
      refine want_none rfl ?_
      go_simp
      exact hK _ _ hC (Below.refl _ _) rfl
    refine RegSteps.cons ?_ ?_
    · intro _ az wz hC hF hD _ K hK
      obtain ⟨_, q25, rfl⟩ := dep hD 0 rfl rfl rfl rfl
      obtain ⟨_, q26, rfl⟩ := dep hD 1 rfl rfl rfl rfl
      clear hF hD
      refine want_none rfl ?_
      go_simp
      exact hK _ _ hC (Below.refl _ _) rfl
    refine RegSteps.cons ?_ ?_
    · intro _ az wz hC hF hD _ K hK
      obtain ⟨_, q27, rfl⟩ := dep hD 2 rfl rfl rfl rfl
      clear hF hD
      refine want_none rfl ?_
      go_simp
      exact hK _ _ hC (Below.refl _ _) rfl
    refine RegSteps.cons ?_ ?_
    · intro _ az wz hC hF hD _ K hK
      have q9 : az.tmps[9]? = some (.bool true) := hF 9 rfl
      obtain ⟨_, qg, rfl⟩ := dep hD 3 rfl rfl rfl rfl
      clear hF hD
      refine want_yes rfl rfl rfl qg ?_
      go_simp
      exact hK _ _ hC (Below.refl _ _) rfl
    refine RegSteps.cons ?_ ?_
    · intro _ az wz hC hF hD _ K hK
      obtain ⟨_, q29, rfl⟩ := dep hD 4 rfl rfl rfl rfl
      obtain ⟨_, qg, rfl⟩ := dep hD 3 rfl rfl rfl rfl
      clear hF hD
      refine want_yes rfl rfl rfl qg ?_
      go_simp
      exact hK _ _ hC (Below.refl _ _) rfl
    refine RegSteps.cons ?_ ?_
    · intro _ az wz hC hF hD _ K hK
      obtain ⟨_, q28, rfl⟩ := dep hD 3 rfl rfl rfl rfl
      obtain ⟨_, q30, rfl⟩ := dep hD 5 rfl rfl rfl rfl
      clear hF hD
      refine want_none rfl ?_
      go_simp
      exact hK _ _ hC (Below.refl _ _) rfl
    refine RegSteps.cons ?_ ?_
    · intro _ az wz hC hF hD _ K hK
      obtain ⟨_, q31, rfl⟩ := dep hD 6 rfl rfl rfl rfl
      clear hF hD
      refine want_none rfl ?_
      go_simp
      exact hK _ _ hC (Below.refl _ _) rfl
    refine RegSteps.cons ?_ ?_
    · intro _ az wz hC hF hD _ K hK
      have q7 : az.tmps[7]? = some (.pointer (some ⟨w1.heap.size, 0, none⟩)) := hF 7 rfl
      obtain ⟨_, qg, rfl⟩ := dep hD 7 rfl rfl rfl rfl
      obtain ⟨l0, l1, _⟩ := (hX.on hC).all2
      clear hF hD
      refine want_yes rfl rfl rfl qg ?_
      go_simp
      exact hK _ _ hC (Below.refl _ _) rfl
    refine RegSteps.cons ?_ ?_
    · intro _ az wz hC hF hD _ K hK
      have q0 : az.tmps[0]? = some (.int .i64 n) := hF 0 rfl
      obtain ⟨_, qg, rfl⟩ := dep hD 7 rfl rfl rfl rfl
      clear hF hD
      refine want_yes rfl rfl rfl qg ?_
      go_simp
      exact hK _ _ hC (Below.refl _ _) rfl
    refine RegSteps.cons ?_ ?_
    · intro _ az wz hC hF hD _ K hK
      obtain ⟨_, q34, rfl⟩ := dep hD 9 rfl rfl rfl rfl
      obtain ⟨_, qg, rfl⟩ := dep hD 7 rfl rfl rfl rfl
      clear hF hD
      refine want_yes rfl rfl rfl qg ?_
      go_simp
      refine (rOf_any n _ hn.1 hn.2).mono ?_
      rintro e wy ⟨x, rfl, k, hx⟩
      exact hK _ _ (Below.call hC k) k ⟨x, rfl, hx⟩
    refine RegSteps.cons ?_ ?_
    · intro _ az wz hC hF hD _ K hK
      obtain ⟨_, q33, rfl⟩ := dep hD 8 rfl rfl rfl rfl
      obtain ⟨_, q35, x35, rfl, hx35⟩ := dep hD 10 rfl rfl rfl rfl
      obtain ⟨_, qg, rfl⟩ := dep hD 7 rfl rfl rfl rfl
      clear hF hD
      refine want_yes rfl rfl rfl qg ?_
      go_simp
      refine (equal_same (hx.on hC) hx35 ((ht0.on b1).on hC)).mono ?_
      rintro e wy ⟨rfl, k⟩
      exact hK _ _ (Below.call hC k) k rfl
    refine RegSteps.cons ?_ ?_
    · intro _ az wz hC hF hD _ K hK
      obtain ⟨_, q36, rfl⟩ := dep hD 11 rfl rfl rfl rfl
      obtain ⟨_, qg, rfl⟩ := dep hD 7 rfl rfl rfl rfl
      clear hF hD
      refine want_yes rfl rfl rfl qg ?_
      go_simp
      exact hK _ _ hC (Below.refl _ _) rfl
    refine RegSteps.cons ?_ ?_
    · intro _ az wz hC hF hD _ K hK
      obtain ⟨_, q32, rfl⟩ := dep hD 7 rfl rfl rfl rfl
      obtain ⟨_, q37, rfl⟩ := dep hD 12 rfl rfl rfl rfl
      clear hF hD
      refine want_none rfl ?_
      go_simp
      exact hK _ _ hC (Below.refl _ _) rfl
    exact RegSteps.nil
  intro w3 hC3
  rintro _ rfl _ rfl _ rfl _ rfl _ rfl _ rfl _ rfl _ rfl _ rfl _ rfl _ ⟨y35, rfl, _⟩ _ rfl _ rfl _ rfl
  simp only [FinOK, Act.put, List.setIfInBounds_toArray, List.set_cons_zero, List.set_cons_succ]
  replace b1 := Below.call b1 hC3
  clear hX hx hC3
  obtain ⟨a0, a1⟩ := around_bd k (m := 7) (by omega)
  obtain ⟨t0, t1⟩ := tdiv_bd (m := 7) (by omega) k0 k1
  obtain ⟨c0, c1⟩ := around_bd (k.tdiv 7) (m := 2) (by omega)
  go_wp2_with fail
  refine (Number_sm (h.on b1) 0 (by omega) 0 rfl).mono ?_
  rintro e w4 ⟨X, bX, u, rfl, k4, hu⟩
  go_wp2_with fail
  refine (Around_any k 7 _ k0 k1 (by omega) (by omega)).mono ?_
  rintro e w5 ⟨rfl, k5⟩
  obtain ⟨r, hr⟩ : ∃ r, r = around k 7 := ⟨_, rfl⟩
  rw [← hr] at a0 a1 ⊢
  clear hr
  go_wp2_with fail
  refine (Around_any (k.tdiv 7) 2 _ t0 t1 (by omega) (by omega)).mono ?_
  rintro e w6 ⟨rfl, k6⟩
  obtain ⟨s, hs⟩ : ∃ s, s = around (k.tdiv 7) 2 := ⟨_, rfl⟩
  rw [← hs] at c0 c1 ⊢
  clear hs
  have hi64 : in64 (4 * r + 3 + 28 * s) := by unfold in64; omega
  have har : around (4 * r + 3 + 28 * s) 28 = 4 * r + 3 := by rw [around_pos (by omega)]; omega
  have HN : Hid (∀ w, Calls Tryz.prog 40 #[.int .i64 (4 * r + 3 + 28 * s)] w (fun e w' => ∃ z : Int, Sm 5 z ∧ RetN w z e w')) := Lib.hid fun w => (rNear_any _ hi64 w).mono fun _ _ ⟨z, hz, hq⟩ => by
    rw [har] at hz
    exact ⟨z, near63 (by omega) (by omega) (by omega) hz, hq⟩
  clear hi64 har
  go_wp2_with fail
  refine (HN.out _).mono ?_
  rintro e w7 ⟨Z, bZ, v, rfl, k7, hv⟩
  go_upto_region 6 with fail
  have hL : NList (w7.alloc (.cells #[.bool u.neg, .slice u.A u.n u.c, .bool v.neg, .slice v.A v.n v.c] 44)) w7.heap.size 2 40 := NList.mk2 ⟨X, bX.mono (by omega), ((hu.on k5).on k6).on k7⟩ ⟨Z, bZ.mono (by omega), hv⟩
  have b2 := Below.call (Below.call (Below.call k4 k5) (Below.call k6 k7)) (below_new w7 (.cells #[.bool u.neg, .slice u.A u.n u.c, .bool v.neg, .slice v.A v.n v.c] 44))
  replace b1 := Below.call b1 b2
  clear hu hv k4 k5 k6 k7 b2 HN
  generalize w7.alloc (.cells #[.bool u.neg, .slice u.A u.n u.c, .bool v.neg, .slice v.A v.n v.c] 44) = w8 at hL b1 ⊢
  go_wp2_with fail
  go_loopw [11] (fun s wr => ∃ i : Nat, i ≤ 2 ∧ s = .int .i64 (i : Int) ∧ Below w8.heap.size w8 wr) (fun s _ => 2 - (intOf s).toNat)
  case atStart => exact ⟨0, by omega, rfl, Below.refl _ _⟩
  case round =>
    obtain ⟨i, hi, rfl, hbr⟩ := hrel
    replace hL := hL.on hbr
    rcases Nat.lt_or_eq_of_le hi with h3 | h3
    · obtain ⟨y, z, hN⟩ := hL i h3
      obtain ⟨n0, n1⟩ := hN.rules
      have hW := Below.refl wr.heap.size wr
      have i0 : (0 : Int) ≤ (i : Int) := by omega
      have i3 : (i : Int) < 2 := by omega
      go_wp2_with fail
      refine (wider_any hN.ni (hN.sm.top (by omega))).mono ?_
      rintro e w9 ⟨q, rfl, k1, hq⟩
      clear n0 n1 hW
      go_upto_region 10 with fail
      refine wp_new1 fun w10 hQ k2 => ?_
      have kk := Below.call k1 k2
      replace hq := hq.on k2
      replace hN := hN.on kk
      replace hbr := Below.call hbr kk
      clear k1 k2 kk hL
      obtain ⟨n0, n1⟩ := hN.rules
      obtain ⟨q0, q1⟩ := hQ.rules2
      have hW := Below.refl w10.heap.size w10
      by_cases hz : in64 z
      · go_wp2_with fail
        refine (small_iv hq).mono ?_
        rintro e w11 ⟨k3, hsm⟩
        rcases hsm with ⟨_, _, rfl⟩ | ⟨hno, _⟩
        case inr => unfold in64 at hz; exact absurd hno (by omega)
        go_wp2_with fail
        refine (rSmall_any (hN.on k3).ni).mono ?_
        rintro e w12 ⟨k4, hsm⟩
        rcases hsm with ⟨_, rfl⟩ | ⟨hno, _⟩
        case inr => exact absurd hz hno
        have hb9 := Below.call (Below.call hbr k3) k4
        go_wp2_with fail
        go_roundw
        case rel => exact ⟨i + 1, by omega, by go_num, hb9⟩
        case measure => simp [intOf]; omega
      · go_wp2_with fail
        refine (small_iv hq).mono ?_
        rintro e w11 ⟨k3, hsm⟩
        rcases hsm with ⟨_, _, _⟩ | ⟨_, rfl⟩
        case inl => exact absurd (by unfold in64; omega) hz
        go_wp2_with fail
        refine (rSmall_any (hN.on k3).ni).mono ?_
        rintro e w12 ⟨k4, hsm⟩
        rcases hsm with ⟨hno, _⟩ | ⟨_, rfl⟩
        case inl => exact absurd hno hz
        have hb9 := Below.call (Below.call hbr k3) k4
        go_wp2_with fail
        go_roundw
        case rel => exact ⟨i + 1, by omega, by go_num, hb9⟩
        case measure => simp [intOf]; omega
    · subst h3
      have hb2 := Below.call b1 hbr
      have ht := ht0.on hb2
      go_wp2_with fail
      refine (lives3_any _ ht).mono ?_
      rintro e w9 ⟨rfl, k1⟩
      have HB := Lib.hid (Below.call hb2 k1)
      go_wp2
      go_returns
      exact ⟨rfl, HB.out⟩
end Go.Proofs.YthafhbogpfggjaaGreatDoor
