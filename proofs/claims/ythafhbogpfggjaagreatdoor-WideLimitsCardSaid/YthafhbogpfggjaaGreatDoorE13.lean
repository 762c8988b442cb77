/-
  Chapter 03's reference: Small, Near.
-/
import Derived.Test.YthafhbogpfggjaaGreatDoorE11
import Derived.Test.YthafhbogpfggjaaGreatDoorA1
namespace Go.Proofs.YthafhbogpfggjaaGreatDoor
open Go.RowKit
open Dig (val Ws Nz)

/-- What the reference's Small returns. -/
def RetSm (w : World) (z : Int) (e : Ending) (w' : World) : Prop :=
  Below w.heap.size w w' ∧ ((in64 z ∧ e = .returned (.tuple #[.int .i64 z, .bool true])) ∨ (¬ in64 z ∧ e = .returned (.tuple #[.int .i64 0, .bool false])))
theorem val_drop {l : List Nat} {m : Nat} (h : m < l.length) : val (l.drop m) = val (l.drop (m + 1)) * 10000 + l[m] := by
  rw [List.drop_eq_getElem_cons h]; simp only [val]; omega
theorem val_drop_le (l : List Nat) : ∀ m, m ≤ l.length → val (l.drop m) ≤ val l
  | 0, _ => by simp
  | m + 1, h => by
    have h1 := val_drop_le l m (by omega)
    have h2 := val_drop (l := l) (m := m) (by omega)
    omega
set_option maxRecDepth 100000 in
set_option maxHeartbeats 1600000 in
theorem rSmall_any {x : IV} {w : World} {z : Int} (hx : NI x w z) : Calls Tryz.prog 42 #[.agg #[.bool x.neg, .slice x.A x.n x.c]] w (RetSm w z) := by
  go_enter Tryz.func42, Tryz.ntmps42
  go_upto_region 1 with fail
  refine wp_new1 fun W hA hB => ?_
  replace hx := hx.on hB
  by_cases h1 : 9223372036854775807 < z
  · have hc1 : 0 < cmpI z 9223372036854775807 := by rw [cmpI_gt h1]; omega
    have hfin : ¬ in64 z := fun h => by unfold in64 at h; omega
    have HF := Lib.hid hfin
    clear hfin h1
    refine wp_region_specs W [Spec.eq (.agg #[.bool x.neg, .slice x.A x.n x.c]), sN 9223372036854775807, Spec.eq (.int .i64 (cmpI z 9223372036854775807)), Spec.eq (.bool true), Spec.eq (.bool true), Spec.eq undef, Spec.eq undef, Spec.eq undef, Spec.eq undef, Spec.eq (.bool true)]
        (by kernel_rfl) (by kernel_rfl) rfl (by kernel_rfl) (Below.drew (Below.refl _ _)) ?_ ?_
    ·
      refine RegSteps.cons ?_ ?_
      · intro _ az wz hC hF hD _ K hK
        have q1 : az.tmps[1]? = some (.pointer (some ⟨w.heap.size, 0, none⟩)) := hF 1 rfl
        obtain ⟨l0, l1, _⟩ := (hA.on hC).all2
        clear hF hD
        refine want_none rfl ?_
        go_simp
        exact hK _ _ hC (Below.refl _ _) rfl
      refine RegSteps.cons ?_ ?_
      · intro _ az wz hC hF hD _ K hK
        clear hF hD
        refine want_none rfl ?_
        go_simp
        refine (rOf_any _ _ (by omega) (by omega)).mono ?_
        rintro e wy ⟨x, rfl, k, hx⟩
        exact hK _ _ (Below.call hC k) k ⟨x, rfl, hx⟩
      refine RegSteps.cons ?_ ?_
      · intro _ az wz hC hF hD _ K hK
        obtain ⟨_, q6, rfl⟩ := dep hD 0 rfl rfl rfl rfl
        obtain ⟨_, q7, x7, rfl, hx7⟩ := dep hD 1 rfl rfl rfl rfl
        clear hF hD
        refine want_none rfl ?_
        go_simp
        refine (rCompare_any (hx.on hC) hx7).mono ?_
        rintro e wy ⟨rfl, k⟩
        exact hK _ _ (Below.call hC k) k rfl
      refine RegSteps.cons ?_ ?_
      · intro _ az wz hC hF hD _ K hK
        obtain ⟨_, q8, rfl⟩ := dep hD 2 rfl rfl rfl rfl
        clear hF hD
        refine want_none rfl ?_
        go_simp
        exact hK _ _ hC (Below.refl _ _) rfl
      refine RegSteps.cons ?_ ?_
      · intro _ az wz hC hF hD _ K hK
        obtain ⟨_, q9, rfl⟩ := dep hD 3 rfl rfl rfl rfl
        clear hF hD
        refine want_none rfl ?_
        go_simp
        exact hK _ _ hC (Below.refl _ _) rfl
      refine RegSteps.cons ?_ ?_
      · exact fun _ => step_no (c := true) rfl rfl rfl rfl rfl (fun _ _ h => h) rfl (fun _ => rfl)
      refine RegSteps.cons ?_ ?_
      · exact fun _ => step_no (c := true) rfl rfl rfl rfl rfl (fun _ _ h => h) rfl (fun _ => rfl)
      refine RegSteps.cons ?_ ?_
      · exact fun _ => step_no (c := true) rfl rfl rfl rfl rfl (fun _ _ h => h) rfl (fun _ => rfl)
      refine RegSteps.cons ?_ ?_
      · exact fun _ => step_no (c := true) rfl rfl rfl rfl rfl (fun _ _ h => h) rfl (fun _ => rfl)
      refine RegSteps.cons ?_ ?_
      · intro _ az wz hC hF hD _ K hK
        obtain ⟨_, q10, rfl⟩ := dep hD 4 rfl rfl rfl rfl
        obtain ⟨_, q14, rfl⟩ := dep hD 8 rfl rfl rfl rfl
        clear hF hD
        refine want_none rfl ?_
        go_simp
        exact hK _ _ hC (Below.refl _ _) rfl
      exact RegSteps.nil
    intro w5 hC
    rintro _ rfl _ ⟨y7, rfl, _⟩ _ rfl _ rfl _ rfl _ rfl _ rfl _ rfl _ rfl _ rfl
    simp only [FinOK, Act.put, List.setIfInBounds_toArray, List.set_cons_zero, List.set_cons_succ]
    go_wp2
    go_returns
    exact ⟨Below.call hB hC, .inr ⟨HF.out, rfl⟩⟩
  · have hc1 : ¬ 0 < cmpI z 9223372036854775807 := by
      rcases Int.lt_or_eq_of_le (by omega : z ≤ 9223372036854775807) with h | h
      · rw [cmpI_lt h]; omega
      · rw [cmpI_eq h]; omega
    by_cases h2 : z < -9223372036854775808
    · have hc2 : cmpI z (-9223372036854775808) < 0 := by rw [cmpI_lt h2]; omega
      have hfin : ¬ in64 z := fun h => by unfold in64 at h; omega
      have HF := Lib.hid hfin
      clear hfin h1 h2
      refine wp_region_specs W [Spec.eq (.agg #[.bool x.neg, .slice x.A x.n x.c]), sN 9223372036854775807, Spec.eq (.int .i64 (cmpI z 9223372036854775807)), Spec.eq (.bool false), Spec.eq (.bool false), Spec.eq (.agg #[.bool x.neg, .slice x.A x.n x.c]), sN (-9223372036854775808), Spec.eq (.int .i64 (cmpI z (-9223372036854775808))), Spec.eq (.bool true), Spec.eq (.bool true)]
          (by kernel_rfl) (by kernel_rfl) rfl (by kernel_rfl) (Below.drew (Below.refl _ _)) ?_ ?_
      ·
        refine RegSteps.cons ?_ ?_
        · intro _ az wz hC hF hD _ K hK
          have q1 : az.tmps[1]? = some (.pointer (some ⟨w.heap.size, 0, none⟩)) := hF 1 rfl
          obtain ⟨l0, l1, _⟩ := (hA.on hC).all2
          clear hF hD
          refine want_none rfl ?_
          go_simp
          exact hK _ _ hC (Below.refl _ _) rfl
        refine RegSteps.cons ?_ ?_
        · intro _ az wz hC hF hD _ K hK
          clear hF hD
          refine want_none rfl ?_
          go_simp
          refine (rOf_any _ _ (by omega) (by omega)).mono ?_
          rintro e wy ⟨x, rfl, k, hx⟩
          exact hK _ _ (Below.call hC k) k ⟨x, rfl, hx⟩
        refine RegSteps.cons ?_ ?_
        · intro _ az wz hC hF hD _ K hK
          obtain ⟨_, q6, rfl⟩ := dep hD 0 rfl rfl rfl rfl
          obtain ⟨_, q7, x7, rfl, hx7⟩ := dep hD 1 rfl rfl rfl rfl
          clear hF hD
          refine want_none rfl ?_
          go_simp
          refine (rCompare_any (hx.on hC) hx7).mono ?_
          rintro e wy ⟨rfl, k⟩
          exact hK _ _ (Below.call hC k) k rfl
        refine RegSteps.cons ?_ ?_
        · intro _ az wz hC hF hD _ K hK
          obtain ⟨_, q8, rfl⟩ := dep hD 2 rfl rfl rfl rfl
          clear hF hD
          refine want_none rfl ?_
          go_simp
          exact hK _ _ hC (Below.refl _ _) rfl
        refine RegSteps.cons ?_ ?_
        · intro _ az wz hC hF hD _ K hK
          obtain ⟨_, q9, rfl⟩ := dep hD 3 rfl rfl rfl rfl
          clear hF hD
          refine want_none rfl ?_
          go_simp
          exact hK _ _ hC (Below.refl _ _) rfl
        refine RegSteps.cons ?_ ?_
        · intro _ az wz hC hF hD _ K hK
          have q1 : az.tmps[1]? = some (.pointer (some ⟨w.heap.size, 0, none⟩)) := hF 1 rfl
          obtain ⟨_, qg, rfl⟩ := dep hD 4 rfl rfl rfl rfl
          obtain ⟨l0, l1, _⟩ := (hA.on hC).all2
          clear hF hD
          refine want_yes rfl rfl rfl qg ?_
          go_simp
          exact hK _ _ hC (Below.refl _ _) rfl
        refine RegSteps.cons ?_ ?_
        · intro _ az wz hC hF hD _ K hK
          obtain ⟨_, qg, rfl⟩ := dep hD 4 rfl rfl rfl rfl
          clear hF hD
          refine want_yes rfl rfl rfl qg ?_
          go_simp
          refine (rOf_any _ _ (by omega) (by omega)).mono ?_
          rintro e wy ⟨x, rfl, k, hx⟩
          exact hK _ _ (Below.call hC k) k ⟨x, rfl, hx⟩
        refine RegSteps.cons ?_ ?_
        · intro _ az wz hC hF hD _ K hK
          obtain ⟨_, q11, rfl⟩ := dep hD 5 rfl rfl rfl rfl
          obtain ⟨_, q12, x12, rfl, hx12⟩ := dep hD 6 rfl rfl rfl rfl
          obtain ⟨_, qg, rfl⟩ := dep hD 4 rfl rfl rfl rfl
          clear hF hD
          refine want_yes rfl rfl rfl qg ?_
          go_simp
          refine (rCompare_any (hx.on hC) hx12).mono ?_
          rintro e wy ⟨rfl, k⟩
          exact hK _ _ (Below.call hC k) k rfl
        refine RegSteps.cons ?_ ?_
        · intro _ az wz hC hF hD _ K hK
          obtain ⟨_, q13, rfl⟩ := dep hD 7 rfl rfl rfl rfl
          obtain ⟨_, qg, rfl⟩ := dep hD 4 rfl rfl rfl rfl
          clear hF hD
          refine want_yes rfl rfl rfl qg ?_
          go_simp
          exact hK _ _ hC (Below.refl _ _) rfl
        refine RegSteps.cons ?_ ?_
        · intro _ az wz hC hF hD _ K hK
          obtain ⟨_, q10, rfl⟩ := dep hD 4 rfl rfl rfl rfl
          obtain ⟨_, q14, rfl⟩ := dep hD 8 rfl rfl rfl rfl
          clear hF hD
          refine want_none rfl ?_
          go_simp
          exact hK _ _ hC (Below.refl _ _) rfl
        exact RegSteps.nil
      intro w5 hC
      rintro _ rfl _ ⟨y7, rfl, _⟩ _ rfl _ rfl _ rfl _ rfl _ ⟨y12, rfl, _⟩ _ rfl _ rfl _ rfl
      simp only [FinOK, Act.put, List.setIfInBounds_toArray, List.set_cons_zero, List.set_cons_succ]
      go_wp2
      go_returns
      exact ⟨Below.call hB hC, .inr ⟨HF.out, rfl⟩⟩
    · have hc2 : ¬ cmpI z (-9223372036854775808) < 0 := by
        rcases Int.lt_or_eq_of_le (by omega : -9223372036854775808 ≤ z) with h | h
        · rw [cmpI_gt h]; omega
        · rw [cmpI_eq h.symm]; omega
      have hfin : in64 z := by unfold in64; omega
      have HF := Lib.hid hfin
      refine wp_region_specs W [Spec.eq (.agg #[.bool x.neg, .slice x.A x.n x.c]), sN 9223372036854775807, Spec.eq (.int .i64 (cmpI z 9223372036854775807)), Spec.eq (.bool false), Spec.eq (.bool false), Spec.eq (.agg #[.bool x.neg, .slice x.A x.n x.c]), sN (-9223372036854775808), Spec.eq (.int .i64 (cmpI z (-9223372036854775808))), Spec.eq (.bool false), Spec.eq (.bool false)]
          (by kernel_rfl) (by kernel_rfl) rfl (by kernel_rfl) (Below.drew (Below.refl _ _)) ?_ ?_
      ·
        refine RegSteps.cons ?_ ?_
        · intro _ az wz hC hF hD _ K hK
          have q1 : az.tmps[1]? = some (.pointer (some ⟨w.heap.size, 0, none⟩)) := hF 1 rfl
          obtain ⟨l0, l1, _⟩ := (hA.on hC).all2
          clear hF hD
          refine want_none rfl ?_
          go_simp
          exact hK _ _ hC (Below.refl _ _) rfl
        refine RegSteps.cons ?_ ?_
        · intro _ az wz hC hF hD _ K hK
          clear hF hD
          refine want_none rfl ?_
          go_simp
          refine (rOf_any _ _ (by omega) (by omega)).mono ?_
          rintro e wy ⟨x, rfl, k, hx⟩
          exact hK _ _ (Below.call hC k) k ⟨x, rfl, hx⟩
        refine RegSteps.cons ?_ ?_
        · intro _ az wz hC hF hD _ K hK
          obtain ⟨_, q6, rfl⟩ := dep hD 0 rfl rfl rfl rfl
          obtain ⟨_, q7, x7, rfl, hx7⟩ := dep hD 1 rfl rfl rfl rfl
          clear hF hD
          refine want_none rfl ?_
          go_simp
          refine (rCompare_any (hx.on hC) hx7).mono ?_
          rintro e wy ⟨rfl, k⟩
          exact hK _ _ (Below.call hC k) k rfl
        refine RegSteps.cons ?_ ?_
        · intro _ az wz hC hF hD _ K hK
          obtain ⟨_, q8, rfl⟩ := dep hD 2 rfl rfl rfl rfl
          clear hF hD
          refine want_none rfl ?_
          go_simp
          exact hK _ _ hC (Below.refl _ _) rfl
        refine RegSteps.cons ?_ ?_
        · intro _ az wz hC hF hD _ K hK
          obtain ⟨_, q9, rfl⟩ := dep hD 3 rfl rfl rfl rfl
          clear hF hD
          refine want_none rfl ?_
          go_simp
          exact hK _ _ hC (Below.refl _ _) rfl
        refine RegSteps.cons ?_ ?_
        · intro _ az wz hC hF hD _ K hK
          have q1 : az.tmps[1]? = some (.pointer (some ⟨w.heap.size, 0, none⟩)) := hF 1 rfl
          obtain ⟨_, qg, rfl⟩ := dep hD 4 rfl rfl rfl rfl
          obtain ⟨l0, l1, _⟩ := (hA.on hC).all2
          clear hF hD
          refine want_yes rfl rfl rfl qg ?_
          go_simp
          exact hK _ _ hC (Below.refl _ _) rfl
        refine RegSteps.cons ?_ ?_
        · intro _ az wz hC hF hD _ K hK
          obtain ⟨_, qg, rfl⟩ := dep hD 4 rfl rfl rfl rfl
          clear hF hD
          refine want_yes rfl rfl rfl qg ?_
          go_simp
          refine (rOf_any _ _ (by omega) (by omega)).mono ?_
          rintro e wy ⟨x, rfl, k, hx⟩
          exact hK _ _ (Below.call hC k) k ⟨x, rfl, hx⟩
        refine RegSteps.cons ?_ ?_
        · intro _ az wz hC hF hD _ K hK
          obtain ⟨_, q11, rfl⟩ := dep hD 5 rfl rfl rfl rfl
          obtain ⟨_, q12, x12, rfl, hx12⟩ := dep hD 6 rfl rfl rfl rfl
          obtain ⟨_, qg, rfl⟩ := dep hD 4 rfl rfl rfl rfl
          clear hF hD
          refine want_yes rfl rfl rfl qg ?_
          go_simp
          refine (rCompare_any (hx.on hC) hx12).mono ?_
          rintro e wy ⟨rfl, k⟩
          exact hK _ _ (Below.call hC k) k rfl
        refine RegSteps.cons ?_ ?_
        · intro _ az wz hC hF hD _ K hK
          obtain ⟨_, q13, rfl⟩ := dep hD 7 rfl rfl rfl rfl
          obtain ⟨_, qg, rfl⟩ := dep hD 4 rfl rfl rfl rfl
          clear hF hD
          refine want_yes rfl rfl rfl qg ?_
          go_simp
          exact hK _ _ hC (Below.refl _ _) rfl
        refine RegSteps.cons ?_ ?_
        · intro _ az wz hC hF hD _ K hK
          obtain ⟨_, q10, rfl⟩ := dep hD 4 rfl rfl rfl rfl
          obtain ⟨_, q14, rfl⟩ := dep hD 8 rfl rfl rfl rfl
          clear hF hD
          refine want_none rfl ?_
          go_simp
          exact hK _ _ hC (Below.refl _ _) rfl
        exact RegSteps.nil
      intro w5 hC
      rintro _ rfl _ ⟨y7, rfl, _⟩ _ rfl _ rfl _ rfl _ rfl _ ⟨y12, rfl, _⟩ _ rfl _ rfl _ rfl
      simp only [FinOK, Act.put, List.setIfInBounds_toArray, List.set_cons_zero, List.set_cons_succ]
      replace hx := hx.on hC
      replace hA := hA.on hC
      replace hB := Below.call hB hC
      clear hC hc1 hc2
      obtain ⟨l, e1, e2, e3, e4, e5, e6⟩ := hx.abs
      obtain ⟨a0, a1, _, _⟩ := hA.all2
      obtain ⟨ng, A, n, c⟩ := x
      simp only at e1 e2 e3 e4 e5 e6 a0 a1 ⊢
      subst e1
      have hnm : many = 65536 := rfl
      rw [hnm] at e2
      have hle : val l ≤ 9223372036854775808 := by rw [e5]; unfold in64 at hfin; omega
      have hpos : ng = false → val l ≤ 9223372036854775807 := fun h => by
        rw [e5]
        rw [h] at e6
        have := of_decide_eq_false e6.symm
        unfold in64 at hfin
        omega
      have HP := Lib.hid hpos
      have hws := e3.ws
      have hsl := e3.sl
      have HE := Lib.hid (And.intro e5 e6)
      clear hpos hx e3 e4 e5 e6 hnm hfin
      cases ng with
      | false =>
        have hle7 := HP.out rfl
        go_wp2_with fail
        go_loop [4, 5] (fun s4 s5 => ∃ k : Nat, k ≤ l.length ∧ s5 = .int .i64 ((k : Int) - 1) ∧ s4 = .int .i64 (val (l.drop k) : Int)) (fun _ s5 => (intOf s5 + 1).toNat)
        case atStart => exact ⟨l.length, Nat.le_refl _, rfl, by rw [List.drop_length]; rfl⟩
        case round =>
          obtain ⟨k, hk, rfl, rfl⟩ := hrel
          rcases Nat.eq_zero_or_pos k with h0 | h0
          · subst h0
            have hf : ((val l : Nat) : Int) = z := by
              have h3 := HE.out.1
              have h4 := of_decide_eq_false HE.out.2.symm
              omega
            have HZ := Lib.hid hf
            clear hf
            go_wp2
            go_returns
            exact ⟨hB, .inl ⟨HF.out, by rw [← HZ.out]; simp⟩⟩
          · obtain ⟨m, rfl⟩ : ∃ m, k = m + 1 := ⟨k - 1, by omega⟩
            rw [show (((m + 1 : Nat) : Int) - 1) = (m : Int) by omega]
            obtain ⟨g, off, rfl, hg, hc⟩ := hsl.d64at (i := m) (by omega)
            have hv := val_drop (l := l) (m := m) (by omega)
            have hl2 := val_drop_le l m (by omega)
            have hd := hws.get (i := m) (by omega)
            generalize val (l.drop (m + 1)) = p at hv ⊢
            have HV := Lib.hid hv
            have hp1 : p * 10000 + l[m] ≤ 9223372036854775807 := by omega
            have q1 : (0 : Int) ≤ (m : Int) := by omega
            have q2 : (m : Int) < (l.length : Int) := by omega
            clear hv hl2
            go_wp2
            exact ⟨⟨m, by omega, by go_num, by rw [HV.out]; simp⟩, by simp [intOf] <;> omega⟩
      | true =>
        go_wp2_with fail
        go_loop [4, 5] (fun s4 s5 => ∃ k : Nat, k ≤ l.length ∧ s5 = .int .i64 ((k : Int) - 1) ∧ s4 = .int .i64 (-(val (l.drop k) : Int))) (fun _ s5 => (intOf s5 + 1).toNat)
        case atStart => exact ⟨l.length, Nat.le_refl _, rfl, by rw [List.drop_length]; rfl⟩
        case round =>
          obtain ⟨k, hk, rfl, rfl⟩ := hrel
          rcases Nat.eq_zero_or_pos k with h0 | h0
          · subst h0
            have hf : -((val l : Nat) : Int) = z := by
              have h3 := HE.out.1
              have h4 := of_decide_eq_true HE.out.2.symm
              omega
            have HZ := Lib.hid hf
            clear hf
            go_wp2
            go_returns
            exact ⟨hB, .inl ⟨HF.out, by rw [← HZ.out]; simp⟩⟩
          · obtain ⟨m, rfl⟩ : ∃ m, k = m + 1 := ⟨k - 1, by omega⟩
            rw [show (((m + 1 : Nat) : Int) - 1) = (m : Int) by omega]
            obtain ⟨g, off, rfl, hg, hc⟩ := hsl.d64at (i := m) (by omega)
            have hv := val_drop (l := l) (m := m) (by omega)
            have hl2 := val_drop_le l m (by omega)
            have hd := hws.get (i := m) (by omega)
            generalize val (l.drop (m + 1)) = p at hv ⊢
            have HV := Lib.hid hv
            have hp1 : p * 10000 + l[m] ≤ 9223372036854775808 := by omega
            have q1 : (0 : Int) ≤ (m : Int) := by omega
            have q2 : (m : Int) < (l.length : Int) := by omega
            clear hv hl2
            go_wp2
            exact ⟨⟨m, by omega, by go_num, by rw [HV.out]; simp; omega⟩, by simp [intOf] <;> omega⟩
theorem tdiv_in {n : Int} (n0 : -9223372036854775808 ≤ n) (n1 : n ≤ 9223372036854775807) : -9223372036854775808 ≤ n.tdiv 28 ∧ n.tdiv 28 ≤ 9223372036854775807 := by
  rcases Int.lt_or_le n 0 with h | h
  · have e : n.tdiv 28 = -((-n) / 28) := by
      rw [← Int.tdiv_eq_ediv_of_nonneg (by omega), Int.neg_tdiv, Int.neg_neg]
    omega
  · rw [Int.tdiv_eq_ediv_of_nonneg h]; omega
/-- The powers of two that Near is near to. -/
def nearE (j : Nat) : Nat := match j with
  | 0 => 16384
  | 1 => 16383
  | 2 => 8192
  | _ => 63
def nearV (k : Int) : Int := ((2 ^ nearE (k % 4).toNat : Nat) : Int) + (k / 4 - 3)
theorem rPower_nat (p : Nat) (w : World) (hp : p ≤ 16384) (i : Int) (hi : i = (p : Int)) : Calls Tryz.prog 62 #[.int .i64 i] w (RetN w ((2 ^ p : Nat) : Int)) := by
  subst hi
  exact rPower_any p w hp
set_option maxRecDepth 100000 in
set_option maxHeartbeats 1600000 in
theorem rNear_any (n : Int) (hn : in64 n) (w : World) : Calls Tryz.prog 40 #[.int .i64 n] w (fun e w' => ∃ z : Int, (z = nearV (around n 28) ∨ z = -nearV (around n 28)) ∧ RetN w z e w') := by
  obtain ⟨d0, d1⟩ := around_bd n (m := 28) (by omega)
  obtain ⟨n0, n1⟩ := hn
  go_enter Tryz.func40, Tryz.ntmps40
  go_upto_region 1 with fail
  refine wp_new1 fun W hO hB => ?_
  go_wp2_with fail
  refine (Around_any n 28 _ n0 n1 (by omega) (by omega)).mono ?_
  rintro e w1 ⟨rfl, k1⟩
  obtain ⟨K, hK⟩ : ∃ K, K = around n 28 := ⟨_, rfl⟩
  rw [← hK] at d0 d1 ⊢
  have HK := Lib.hid hK
  clear hK
  obtain ⟨j, hj⟩ : ∃ j : Nat, j = (K % 4).toNat := ⟨_, rfl⟩
  have hp : nearE j ≤ 16384 := by unfold nearE; split <;> omega
  have hPow : ∀ i : Int, i = (nearE j : Int) → ∀ w, Calls Tryz.prog 62 #[.int .i64 i] w (RetN w ((2 ^ nearE j : Nat) : Int)) := fun i hi w => rPower_nat _ w hp i hi
  have HV : Hid (nearV K = ((2 ^ nearE j : Nat) : Int) + (K / 4 - 3)) := Lib.hid (by unfold nearV; rw [← hj])
  obtain ⟨T, hT⟩ : ∃ T : Nat, T = 2 ^ nearE j := ⟨_, rfl⟩
  have hTn : ∀ {x : IV} {w : World}, NI x w (T : Int) → x.n ≤ 1262 := fun h => by
    rw [hT] at h
    exact NI.two_ (j := 1261) h (by omega)
  rw [← hT] at hPow HV
  have HP := Lib.hid hPow
  clear hPow hT hp
  have hjc : (K % 4 = 0 ∧ j = 0) ∨ (K % 4 = 1 ∧ j = 1) ∨ (K % 4 = 2 ∧ j = 2) ∨ (K % 4 = 3 ∧ j = 3) := by omega
  clear hj
  rcases hjc with ⟨hm, rfl⟩ | ⟨hm, rfl⟩ | ⟨hm, rfl⟩ | ⟨hm, rfl⟩
  ·
    go_wp2_with fail
    refine (HP.out 16384 rfl _).mono ?_
    rintro e w2 ⟨p, rfl, k2, hp⟩
    go_wp2_with fail
    refine (rOf_any (K / 4 - 3) _ (by omega) (by omega)).mono ?_
    rintro e w3 ⟨q, rfl, k3, hq⟩
    have hnq := NI.len hq (k := 1) (by omega)
    have hnp := hTn (hp.on k3)
    go_wp2_with fail
    refine (rAdd_any (hp.on k3) hq (by unfold many; omega) (by unfold many; omega)).mono ?_
    rintro e w4 ⟨s, rfl, k4, hs⟩
    rw [← HV.out] at hs
    go_upto_region 3 with fail
    refine wp_new1 fun w5 hS k5 => ?_
    have kk := Below.call (Below.call (Below.call k1 (below_new w1 _)) k2) (Below.call (Below.call k3 k4) k5)
    replace hs := hs.on k5
    clear hp hq k2 k3 k4 k5 hm hTn hnp hnq
    have ht0 : -9223372036854775808 ≤ n.tdiv 28 ∧ n.tdiv 28 ≤ 9223372036854775807 := tdiv_in n0 n1
    obtain ⟨c0, c1⟩ := around_bd (n.tdiv 28) (m := 2) (by omega)
    go_wp2_with fail
    refine (Around_any (n.tdiv 28) 2 _ ht0.1 ht0.2 (by omega) (by omega)).mono ?_
    rintro e w6 ⟨rfl, k6⟩
    have kk2 := Below.call kk k6
    replace hs := hs.on k6
    replace hS := hS.on k6
    have hOr := hO.on kk2
    replace hB := Below.call hB kk2
    clear kk kk2 k6 hO ht0
    obtain ⟨s0, s1⟩ := hS.rules2
    have hW := Below.refl w6.heap.size w6
    by_cases ha : around (n.tdiv 28) 2 = 1
    · go_wp2_with fail
      refine (rNeg_any hs).mono ?_
      rintro e w7 ⟨t, rfl, k7, ht⟩
      have hO7 := hOr.on k7
      obtain ⟨z0, z1, f0, f1⟩ := hO7.all2
      have HF := Lib.hid (retN_end (Below.call hB k7) (Nat.le_refl _) hO7 (by simp) (by simp) ht)
      obtain ⟨q0, q1, _⟩ := (hO7.put2 (.bool t.neg) (.slice t.A t.n t.c)).all2
      clear hO7 hOr hs hS s0 s1 hW
      go_wp2
      exact bodyPost_ret (v := .agg #[.bool t.neg, .slice t.A t.n t.c]) (by simp [results, Tryz.results40, go_sem, q0, q1]) rfl ⟨_, .inr (by rw [HK.out]), HF.out⟩
    · have hb : (around (n.tdiv 28) 2 == 1) = false := by rw [beq_eq_false_iff_ne]; exact ha
      obtain ⟨s0, s1, _, _⟩ := hS.all2
      obtain ⟨z0, z1, f0, f1⟩ := hOr.all2
      have HF := Lib.hid (retN_end hB (Nat.le_refl _) hOr (by simp) (by simp) hs)
      obtain ⟨q0, q1, _⟩ := (hOr.put2 (.bool s.neg) (.slice s.A s.n s.c)).all2
      clear hOr hs hS hW
      go_wp2
      exact bodyPost_ret (v := .agg #[.bool s.neg, .slice s.A s.n s.c]) (by simp [results, Tryz.results40, go_sem, q0, q1]) rfl ⟨_, .inl (by rw [HK.out]), HF.out⟩
  ·
    go_wp2_with fail
    refine (HP.out 16383 rfl _).mono ?_
    rintro e w2 ⟨p, rfl, k2, hp⟩
    go_wp2_with fail
    refine (rOf_any (K / 4 - 3) _ (by omega) (by omega)).mono ?_
    rintro e w3 ⟨q, rfl, k3, hq⟩
    have hnq := NI.len hq (k := 1) (by omega)
    have hnp := hTn (hp.on k3)
    go_wp2_with fail
    refine (rAdd_any (hp.on k3) hq (by unfold many; omega) (by unfold many; omega)).mono ?_
    rintro e w4 ⟨s, rfl, k4, hs⟩
    rw [← HV.out] at hs
    go_upto_region 3 with fail
    refine wp_new1 fun w5 hS k5 => ?_
    have kk := Below.call (Below.call (Below.call k1 (below_new w1 _)) k2) (Below.call (Below.call k3 k4) k5)
    replace hs := hs.on k5
    clear hp hq k2 k3 k4 k5 hm hTn hnp hnq
    have ht0 : -9223372036854775808 ≤ n.tdiv 28 ∧ n.tdiv 28 ≤ 9223372036854775807 := tdiv_in n0 n1
    obtain ⟨c0, c1⟩ := around_bd (n.tdiv 28) (m := 2) (by omega)
    go_wp2_with fail
    refine (Around_any (n.tdiv 28) 2 _ ht0.1 ht0.2 (by omega) (by omega)).mono ?_
    rintro e w6 ⟨rfl, k6⟩
    have kk2 := Below.call kk k6
    replace hs := hs.on k6
    replace hS := hS.on k6
    have hOr := hO.on kk2
    replace hB := Below.call hB kk2
    clear kk kk2 k6 hO ht0
    obtain ⟨s0, s1⟩ := hS.rules2
    have hW := Below.refl w6.heap.size w6
    by_cases ha : around (n.tdiv 28) 2 = 1
    · go_wp2_with fail
      refine (rNeg_any hs).mono ?_
      rintro e w7 ⟨t, rfl, k7, ht⟩
      have hO7 := hOr.on k7
      obtain ⟨z0, z1, f0, f1⟩ := hO7.all2
      have HF := Lib.hid (retN_end (Below.call hB k7) (Nat.le_refl _) hO7 (by simp) (by simp) ht)
      obtain ⟨q0, q1, _⟩ := (hO7.put2 (.bool t.neg) (.slice t.A t.n t.c)).all2
      clear hO7 hOr hs hS s0 s1 hW
      go_wp2
      exact bodyPost_ret (v := .agg #[.bool t.neg, .slice t.A t.n t.c]) (by simp [results, Tryz.results40, go_sem, q0, q1]) rfl ⟨_, .inr (by rw [HK.out]), HF.out⟩
    · have hb : (around (n.tdiv 28) 2 == 1) = false := by rw [beq_eq_false_iff_ne]; exact ha
      obtain ⟨s0, s1, _, _⟩ := hS.all2
      obtain ⟨z0, z1, f0, f1⟩ := hOr.all2
      have HF := Lib.hid (retN_end hB (Nat.le_refl _) hOr (by simp) (by simp) hs)
      obtain ⟨q0, q1, _⟩ := (hOr.put2 (.bool s.neg) (.slice s.A s.n s.c)).all2
      clear hOr hs hS hW
      go_wp2
      exact bodyPost_ret (v := .agg #[.bool s.neg, .slice s.A s.n s.c]) (by simp [results, Tryz.results40, go_sem, q0, q1]) rfl ⟨_, .inl (by rw [HK.out]), HF.out⟩
  ·
    go_wp2_with fail
    refine (HP.out 8192 rfl _).mono ?_
    rintro e w2 ⟨p, rfl, k2, hp⟩
    go_wp2_with fail
    refine (rOf_any (K / 4 - 3) _ (by omega) (by omega)).mono ?_
    rintro e w3 ⟨q, rfl, k3, hq⟩
    have hnq := NI.len hq (k := 1) (by omega)
    have hnp := hTn (hp.on k3)
    go_wp2_with fail
    refine (rAdd_any (hp.on k3) hq (by unfold many; omega) (by unfold many; omega)).mono ?_
    rintro e w4 ⟨s, rfl, k4, hs⟩
    rw [← HV.out] at hs
    go_upto_region 3 with fail
    refine wp_new1 fun w5 hS k5 => ?_
    have kk := Below.call (Below.call (Below.call k1 (below_new w1 _)) k2) (Below.call (Below.call k3 k4) k5)
    replace hs := hs.on k5
    clear hp hq k2 k3 k4 k5 hm hTn hnp hnq
    have ht0 : -9223372036854775808 ≤ n.tdiv 28 ∧ n.tdiv 28 ≤ 9223372036854775807 := tdiv_in n0 n1
    obtain ⟨c0, c1⟩ := around_bd (n.tdiv 28) (m := 2) (by omega)
    go_wp2_with fail
    refine (Around_any (n.tdiv 28) 2 _ ht0.1 ht0.2 (by omega) (by omega)).mono ?_
    rintro e w6 ⟨rfl, k6⟩
    have kk2 := Below.call kk k6
    replace hs := hs.on k6
    replace hS := hS.on k6
    have hOr := hO.on kk2
    replace hB := Below.call hB kk2
    clear kk kk2 k6 hO ht0
    obtain ⟨s0, s1⟩ := hS.rules2
    have hW := Below.refl w6.heap.size w6
    by_cases ha : around (n.tdiv 28) 2 = 1
    · go_wp2_with fail
      refine (rNeg_any hs).mono ?_
      rintro e w7 ⟨t, rfl, k7, ht⟩
      have hO7 := hOr.on k7
      obtain ⟨z0, z1, f0, f1⟩ := hO7.all2
      have HF := Lib.hid (retN_end (Below.call hB k7) (Nat.le_refl _) hO7 (by simp) (by simp) ht)
      obtain ⟨q0, q1, _⟩ := (hO7.put2 (.bool t.neg) (.slice t.A t.n t.c)).all2
      clear hO7 hOr hs hS s0 s1 hW
      go_wp2
      exact bodyPost_ret (v := .agg #[.bool t.neg, .slice t.A t.n t.c]) (by simp [results, Tryz.results40, go_sem, q0, q1]) rfl ⟨_, .inr (by rw [HK.out]), HF.out⟩
    · have hb : (around (n.tdiv 28) 2 == 1) = false := by rw [beq_eq_false_iff_ne]; exact ha
      obtain ⟨s0, s1, _, _⟩ := hS.all2
      obtain ⟨z0, z1, f0, f1⟩ := hOr.all2
      have HF := Lib.hid (retN_end hB (Nat.le_refl _) hOr (by simp) (by simp) hs)
      obtain ⟨q0, q1, _⟩ := (hOr.put2 (.bool s.neg) (.slice s.A s.n s.c)).all2
      clear hOr hs hS hW
      go_wp2
      exact bodyPost_ret (v := .agg #[.bool s.neg, .slice s.A s.n s.c]) (by simp [results, Tryz.results40, go_sem, q0, q1]) rfl ⟨_, .inl (by rw [HK.out]), HF.out⟩
  ·
    go_wp2_with fail
    refine (HP.out 63 rfl _).mono ?_
    rintro e w2 ⟨p, rfl, k2, hp⟩
    go_wp2_with fail
    refine (rOf_any (K / 4 - 3) _ (by omega) (by omega)).mono ?_
    rintro e w3 ⟨q, rfl, k3, hq⟩
    have hnq := NI.len hq (k := 1) (by omega)
    have hnp := hTn (hp.on k3)
    go_wp2_with fail
    refine (rAdd_any (hp.on k3) hq (by unfold many; omega) (by unfold many; omega)).mono ?_
    rintro e w4 ⟨s, rfl, k4, hs⟩
    rw [← HV.out] at hs
    go_upto_region 3 with fail
    refine wp_new1 fun w5 hS k5 => ?_
    have kk := Below.call (Below.call (Below.call k1 (below_new w1 _)) k2) (Below.call (Below.call k3 k4) k5)
    replace hs := hs.on k5
    clear hp hq k2 k3 k4 k5 hm hTn hnp hnq
    have ht0 : -9223372036854775808 ≤ n.tdiv 28 ∧ n.tdiv 28 ≤ 9223372036854775807 := tdiv_in n0 n1
    obtain ⟨c0, c1⟩ := around_bd (n.tdiv 28) (m := 2) (by omega)
    go_wp2_with fail
    refine (Around_any (n.tdiv 28) 2 _ ht0.1 ht0.2 (by omega) (by omega)).mono ?_
    rintro e w6 ⟨rfl, k6⟩
    have kk2 := Below.call kk k6
    replace hs := hs.on k6
    replace hS := hS.on k6
    have hOr := hO.on kk2
    replace hB := Below.call hB kk2
    clear kk kk2 k6 hO ht0
    obtain ⟨s0, s1⟩ := hS.rules2
    have hW := Below.refl w6.heap.size w6
    by_cases ha : around (n.tdiv 28) 2 = 1
    · go_wp2_with fail
      refine (rNeg_any hs).mono ?_
      rintro e w7 ⟨t, rfl, k7, ht⟩
      have hO7 := hOr.on k7
      obtain ⟨z0, z1, f0, f1⟩ := hO7.all2
      have HF := Lib.hid (retN_end (Below.call hB k7) (Nat.le_refl _) hO7 (by simp) (by simp) ht)
      obtain ⟨q0, q1, _⟩ := (hO7.put2 (.bool t.neg) (.slice t.A t.n t.c)).all2
      clear hO7 hOr hs hS s0 s1 hW
      go_wp2
      exact bodyPost_ret (v := .agg #[.bool t.neg, .slice t.A t.n t.c]) (by simp [results, Tryz.results40, go_sem, q0, q1]) rfl ⟨_, .inr (by rw [HK.out]), HF.out⟩
    · have hb : (around (n.tdiv 28) 2 == 1) = false := by rw [beq_eq_false_iff_ne]; exact ha
      obtain ⟨s0, s1, _, _⟩ := hS.all2
      obtain ⟨z0, z1, f0, f1⟩ := hOr.all2
      have HF := Lib.hid (retN_end hB (Nat.le_refl _) hOr (by simp) (by simp) hs)
      obtain ⟨q0, q1, _⟩ := (hOr.put2 (.bool s.neg) (.slice s.A s.n s.c)).all2
      clear hOr hs hS hW
      go_wp2
      exact bodyPost_ret (v := .agg #[.bool s.neg, .slice s.A s.n s.c]) (by simp [results, Tryz.results40, go_sem, q0, q1]) rfl ⟨_, .inl (by rw [HK.out]), HF.out⟩
end Go.Proofs.YthafhbogpfggjaaGreatDoor
