/-
  Chapter 03's reference: Number.
-/
import Derived.Test.YthafhbogpfggjaaGreatDoorA1
import Derived.Test.YthafhbogpfggjaaGreatDoorE11
namespace Go.Proofs.YthafhbogpfggjaaGreatDoor
open Go.RowKit
open Dig (val Ws Nz)

theorem Pick_int {w : World} {A : Option Addr} {l : List Int} {c : Nat} (h : IntsIs w A l c) (i : Int) (hi : 0 ≤ i) (m : Int) (m0 : 0 < m) (m1 : m ≤ 9223372036854775807) :
    Calls Tryz.prog 112 #[.slice A l.length c, .int .i64 i, .int .i64 m] w (RetInt w (pick l i.toNat m)) := by
  have := Pick_any h i.toNat m m0 m1
  rwa [Int.toNat_of_nonneg hi] at this
theorem rPower_int (k : Int) (w : World) (h0 : 0 ≤ k) (hk : k ≤ 16384) : Calls Tryz.prog 62 #[.int .i64 k] w (RetN w ((2 ^ k.toNat : Nat) : Int)) := by
  have := rPower_any k.toNat w (by omega)
  rwa [Int.toNat_of_nonneg h0] at this
/-- What Number's rounds keep to. -/
structure NumB (M : Nat) : Prop where
  mul : ∀ (k : Nat) (c : Int), k ≤ 224 → -4 ≤ c → c ≤ 4 → (((2 ^ k : Nat) : Int) * c).natAbs + 2 ≤ M
  few : 5 * M < 10000 ^ 18
theorem numB : NumB (2 ^ 227) := by
  refine ⟨fun k c hk h0 h1 => ?_, by decide +kernel⟩
  have h2 : (2 : Nat) ^ k ≤ 2 ^ 224 := Nat.pow_le_pow_right (by omega) hk
  have h3 : (2 : Nat) ^ 227 = 8 * 2 ^ 224 := by decide +kernel
  have h4 : 1 ≤ (2 : Nat) ^ 224 := by decide +kernel
  rw [Int.natAbs_mul, Int.natAbs_natCast, h3]
  have h5 : 2 ^ k * c.natAbs ≤ 2 ^ 224 * 4 := Nat.mul_le_mul h2 (by omega)
  generalize (2 : Nat) ^ 224 = P at *
  generalize 2 ^ k * c.natAbs = Q at *
  omega
/-- The state of Number at a round's head. -/
structure NumSt (w : World) (g : Nat) (M i : Nat) (z : Int) (x : IV) (wr : World) : Prop where
  bel : Below w.heap.size w wr
  own : Own wr g 44 [.bool x.neg, .slice x.A x.n x.c]
  hx : NI x wr z
  le : z.natAbs ≤ i * M
theorem NumSt.on {w : World} {g M i : Nat} {z : Int} {x : IV} {wr w' : World} (h : NumSt w g M i z x wr) (hb : Below wr.heap.size wr w') : NumSt w g M i z x w' :=
  ⟨Below.call h.bel hb, h.own.on hb, h.hx.on hb, h.le⟩
theorem NumSt.n_le {w : World} {g M i : Nat} {z : Int} {x : IV} {wr : World} (h : NumSt w g M i z x wr) (hM : NumB M) (hi : i ≤ 5) : x.n ≤ 18 := by
  refine NI.len h.hx (Nat.lt_of_le_of_lt (Nat.le_trans h.le (Nat.mul_le_mul_right M hi)) hM.few)
set_option maxRecDepth 100000 in
set_option maxHeartbeats 3200000 in
theorem rNumber_any {w : World} {A : Option Addr} {l : List Int} {c : Nat} (h : IntsIs w A l c) (at_ : Nat) (hat : at_ ≤ 100) :
    Calls Tryz.prog 29 #[.slice A l.length c, .int .i64 (at_ : Int)] w (fun e w' => ∃ z : Int, z.natAbs < 10000 ^ 18 ∧ RetN w z e w') := by
  obtain ⟨M, hM⟩ : ∃ M, M = 2 ^ 227 := ⟨_, rfl⟩
  have HM := Lib.hid (show NumB M by rw [hM]; exact numB)
  obtain ⟨T, hT⟩ : ∃ T, T = 10000 ^ 18 := ⟨_, rfl⟩
  have HT := Lib.hid (show 5 * M < T by rw [hT]; exact HM.out.few)
  have HE := Lib.hid hT
  rw [← hT]
  clear hM hT
  go_enter Tryz.func29, Tryz.ntmps29
  go_upto_region 1 with fail
  refine wp_new1 fun W hR hB => ?_
  have hl := h.on hB
  go_upto_region 2 with fail
  refine wp_new1 fun W2 hX hB2 => ?_
  have hst0 : NumSt W W.heap.size M 0 0 nZero W2 := ⟨hB2, hX, NI.zero W2, by simp⟩
  clear hX h
  go_wp2_with fail
  go_loopw [6] (fun s wr => ∃ (i : Nat) (z : Int) (x : IV), i ≤ 5 ∧ s = .int .i64 (i : Int) ∧ NumSt W W.heap.size M i z x wr) (fun s _ => 6 - (intOf s).toNat)
  case atStart => exact ⟨0, 0, nZero, by omega, rfl, hst0⟩
  case round =>
    obtain ⟨i, z, x, hi, rfl, hst⟩ := hrel
    have hlr := hl.on hst.bel
    obtain ⟨b0, b1⟩ := pick_bd l at_ (m := 5) (by omega)
    go_wp2_with fail
    refine (Pick_any hlr at_ 5 (by omega) (by omega)).mono ?_
    rintro e w3 ⟨rfl, k3⟩
    generalize pick l at_ 5 = q at b0 b1 ⊢
    have hst3 := hst.on k3
    have hl3 := hlr.on k3
    have hnx := hst3.n_le HM.out hi
    clear hst hlr hst0
    obtain ⟨a0, a1, a2, a3⟩ := hst3.own.all2
    by_cases hq : (i : Int) < 1 + q
    · clear a0 a1 a2 a3
      have hi4 : i < 5 := by omega
      obtain ⟨c0, c1⟩ := pick_bd l ((at_ : Int) + 1 + (i : Int)).toNat (m := 1000000) (by omega)
      go_wp2_with fail
      refine (Pick_int hl3 ((at_ : Int) + 1 + (i : Int)) (by omega) 1000000 (by omega) (by omega)).mono ?_
      rintro e w4 ⟨rfl, k4⟩
      generalize pick l ((at_ : Int) + 1 + (i : Int)).toNat 1000000 = v at c0 c1 ⊢
      have hk0 : 0 ≤ 32 * (v % 7) + v / 7 % 5 * 8 := by omega
      have hk1 : 32 * (v % 7) + v / 7 % 5 * 8 ≤ 224 := by omega
      go_wp2_with fail
      refine (rPower_int (32 * (v % 7) + v / 7 % 5 * 8) _ hk0 (by omega)).mono ?_
      rintro e w5 ⟨p2, rfl, k5, hp2⟩
      go_wp2_with fail
      refine (rOf_any (v / 35 % 9 - 4) _ (by omega) (by omega)).mono ?_
      rintro e w6 ⟨cc, rfl, k6, hcc⟩
      have hn2 := NI.two_ (j := 18) hp2 (by omega)
      have hnc := NI.len hcc (k := 1) (by omega)
      have hpz := HM.out.mul (32 * (v % 7) + v / 7 % 5 * 8).toNat (v / 35 % 9 - 4) (by omega) (by omega) (by omega)
      go_wp2_with fail
      refine (rMul_any (hp2.on k6) hcc (by unfold many; omega)).mono ?_
      rintro e w7 ⟨p, rfl, k7, hp⟩
      generalize ((2 ^ (32 * (v % 7) + v / 7 % 5 * 8).toNat : Nat) : Int) * (v / 35 % 9 - 4) = pz at hpz hp
      go_upto_region 7 with fail
      refine wp_new1 fun w8 hP k8 => ?_
      have k9 := Below.call (Below.call k4 k5) (Below.call k6 (Below.call k7 k8))
      have hst8 := hst3.on k9
      have hX := hst8.own
      have hx := hst8.hx
      replace hp := hp.on k8
      have h5M := HM.out.few
      have hnp : p.n ≤ 18 := NI.len hp (by omega)
      have hs : (pz + (v / 315 % 5 - 2)).natAbs ≤ M := by omega
      have HPZ := Lib.hid (show (pz + (v / 315 % 5 - 2)).natAbs < 10000 ^ 18 by omega)
      have hle : (z + (pz + (v / 315 % 5 - 2))).natAbs ≤ (i + 1) * M := by
        have := hst8.le
        rw [Nat.add_mul, Nat.one_mul]
        omega
      have HLE := Lib.hid hle
      clear hle hs h5M hp2 hcc hst3 hpz hn2 hnc k3 k4 k5 k6 k7 k8 k9 hl3
      refine wp_region_last w8 [Spec.eq (.agg #[.bool x.neg, .slice x.A x.n x.c]), Spec.eq (.agg #[.bool p.neg, .slice p.A p.n p.c]), Spec.eq (.int .i64 v), Spec.eq (.int .i64 (v / 315)), Spec.eq (.int .i64 (v / 315 % 5)), Spec.eq (.int .i64 (v / 315 % 5 - 2)), sN (v / 315 % 5 - 2), sN (pz + (v / 315 % 5 - 2)), sN (z + (pz + (v / 315 % 5 - 2)))]
          rfl (by kernel_rfl) (by kernel_rfl) rfl (by kernel_rfl) (by kernel_rfl) (Below.drew (Below.refl _ _)) ?_ ?_
      ·
        refine RegSteps.cons ?_ ?_
        · intro _ az wz hC hF hD _ K hK
          have q5 : az.tmps[5]? = some (.pointer (some ⟨W.heap.size, 0, none⟩)) := hF 5 rfl
          obtain ⟨l0, l1, _⟩ := (hX.on hC).all2
          clear hF hD
          refine want_none rfl ?_
          go_simp
          exact hK _ _ hC (Below.refl _ _) rfl
        refine RegSteps.cons ?_ ?_
        · intro _ az wz hC hF hD _ K hK
          have q8 : az.tmps[8]? = some (.pointer (some ⟨w7.heap.size, 0, none⟩)) := hF 8 rfl
          obtain ⟨l0, l1, _⟩ := (hP.on hC).all2
          clear hF hD
          refine want_none rfl ?_
          go_simp
          exact hK _ _ hC (Below.refl _ _) rfl
        refine RegSteps.cons ?_ ?_
        · intro _ az wz hC hF hD _ K hK
          have q7 : az.tmps[7]? = some (.int .i64 v) := hF 7 rfl
          clear hF hD
          refine want_none rfl ?_
          go_simp
          exact hK _ _ hC (Below.refl _ _) rfl
        refine RegSteps.cons ?_ ?_
        · intro _ az wz hC hF hD _ K hK
          obtain ⟨_, q41, rfl⟩ := dep hD 2 rfl rfl rfl rfl
          clear hF hD
          refine want_none rfl ?_
          go_simp
          try go_ints
          exact hK _ _ hC (Below.refl _ _) rfl
        refine RegSteps.cons ?_ ?_
        · intro _ az wz hC hF hD _ K hK
          obtain ⟨_, q42, rfl⟩ := dep hD 3 rfl rfl rfl rfl
          clear hF hD
          refine want_none rfl ?_
          go_simp
          try go_ints
          exact hK _ _ hC (Below.refl _ _) rfl
        refine RegSteps.cons ?_ ?_
        · intro _ az wz hC hF hD _ K hK
          obtain ⟨_, q43, rfl⟩ := dep hD 4 rfl rfl rfl rfl
          clear hF hD
          refine want_none rfl ?_
          go_simp
          try go_ints
          exact hK _ _ hC (Below.refl _ _) rfl
        refine RegSteps.cons ?_ ?_
        · intro _ az wz hC hF hD _ K hK
          obtain ⟨_, q44, rfl⟩ := dep hD 5 rfl rfl rfl rfl
          clear hF hD
          refine want_none rfl ?_
          go_simp
          refine (rOf_any _ _ (by omega) (by omega)).mono ?_
          rintro e wy ⟨x, rfl, k, hx⟩
          exact hK _ _ (Below.call hC k) k ⟨x, rfl, hx⟩
        refine RegSteps.cons ?_ ?_
        · intro _ az wz hC hF hD _ K hK
          obtain ⟨_, q40, rfl⟩ := dep hD 1 rfl rfl rfl rfl
          obtain ⟨_, q45, x45, rfl, hx45⟩ := dep hD 6 rfl rfl rfl rfl
          clear hF hD
          refine want_none rfl ?_
          go_simp
          refine (rAdd_any (hp.on hC) hx45 (by unfold many; omega) (by have := NI.len hx45 (k := 1) (by omega); unfold many; omega)).mono ?_
          rintro e wy ⟨x, rfl, k, hx⟩
          exact hK _ _ (Below.call hC k) k ⟨x, rfl, hx⟩
        refine RegSteps.cons ?_ ?_
        · intro _ az wz hC hF hD _ K hK
          obtain ⟨_, q39, rfl⟩ := dep hD 0 rfl rfl rfl rfl
          obtain ⟨_, q46, x46, rfl, hx46⟩ := dep hD 7 rfl rfl rfl rfl
          clear hF hD
          refine want_none rfl ?_
          go_simp
          refine (rAdd_any (hx.on hC) hx46 (by unfold many; omega) (by have := NI.len hx46 HPZ.out; unfold many; omega)).mono ?_
          rintro e wy ⟨x, rfl, k, hx⟩
          exact hK _ _ (Below.call hC k) k ⟨x, rfl, hx⟩
        exact RegSteps.nil
      intro w9 hC9
      rintro _ rfl _ rfl _ rfl _ rfl _ rfl _ rfl _ ⟨y45, rfl, _⟩ _ ⟨y46, rfl, _⟩ _ ⟨y47, rfl, hy47⟩
      simp only [List.dropLast, FinOK, Act.put, List.setIfInBounds_toArray, List.set_cons_zero, List.set_cons_succ]
      intro K hK
      refine want_none rfl ?_
      obtain ⟨z0, z1, f0, f1⟩ := (hX.on hC9).all2
      go_simp
      refine hK _ _ ?_
      clear hK K
      have hO9 := hX.on hC9
      have HN := Lib.hid (NumSt.mk (Below.put2 (Below.call hst8.bel hC9) (Nat.le_refl _) (.bool y47.neg) (.slice y47.A y47.n y47.c)) (hO9.put2 (.bool y47.neg) (.slice y47.A y47.n y47.c)) (hy47.put2 hO9 (by simp) (by simp) _ _) HLE.out)
      clear hO9 hX hst8 hx hp
      go_wp2_with fail
      go_roundw
      case rel => exact ⟨i + 1, _, y47, by omega, by go_num, HN.out⟩
      case measure => simp [intOf]; omega
    · have hOr := hR.on hst3.bel
      obtain ⟨z0, z1, f0, f1⟩ := hOr.all2
      have HF := Lib.hid (retN_end (Below.call hB hst3.bel) (Nat.le_refl _) hOr (by simp) (by simp) hst3.hx)
      have HZ := Lib.hid (show z.natAbs < T from Nat.lt_of_le_of_lt (Nat.le_trans hst3.le (Nat.mul_le_mul_right M hi)) HT.out)
      have hO6 := hOr.put2 (.bool x.neg) (.slice x.A x.n x.c)
      obtain ⟨q0, q1, _⟩ := hO6.all2
      clear hO6 hOr hst3 hl3 k3
      go_wp2
      exact bodyPost_ret (v := .agg #[.bool x.neg, .slice x.A x.n x.c]) (by simp [results, Tryz.results29, go_sem, q0, q1]) rfl ⟨z, HZ.out, HF.out⟩
end Go.Proofs.YthafhbogpfggjaaGreatDoor
