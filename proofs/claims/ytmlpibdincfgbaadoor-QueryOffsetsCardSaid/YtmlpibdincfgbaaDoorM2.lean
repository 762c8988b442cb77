/-
  Chapter 38's reference: class, integer.
-/
import Derived.Test.YtmlpibdincfgbaaDoorM1
namespace Qy
/-- The classes of characters. -/
def cls (n : Nat) : Nat := if n = 32 then 0 else if 97 ≤ n ∧ n ≤ 122 then 1 else if 48 ≤ n ∧ n ≤ 57 then 2 else if n = 45 then 3 else 4
theorem cls_isD {c : UInt8} (h : isD c = true) : cls c.toNat = 2 := by
  simp only [isD, Bool.and_eq_true, decide_eq_true_eq] at h
  unfold cls
  rw [if_neg (by omega), if_neg (by omega), if_pos h]
theorem cls_notD {c : UInt8} (h : isD c = false) : cls c.toNat ≠ 2 := by
  simp only [isD, Bool.and_eq_false_iff, decide_eq_false_iff_not] at h
  unfold cls
  repeat' split
  all_goals omega
theorem cls_lt (n : Nat) : cls n ≤ 4 := by
  unfold cls
  repeat' split
  all_goals omega
theorem digV_take {l : Bs} {i : Nat} {d : UInt8} (h : l[i]? = some d) : digV (l.take (i + 1)) = 10 * digV (l.take i) + (d.toNat - 48) := by
  rw [List.take_add_one, h, Option.toList_some, digV_append]
  simp [digV]
  omega
theorem digV_take_lt {l : Bs} {i : Nat} (h : ∀ d ∈ l, isD d = true) (hi : i ≤ 10) : digV (l.take i) < 10000000000 := by
  have h1 := digV_lt (l := l.take i) (fun d hd => h d (List.mem_of_mem_take hd))
  have h2 : (10 : Nat) ^ (l.take i).length ≤ 10 ^ 10 := Nat.pow_le_pow_right (by omega) (by rw [List.length_take]; omega)
  have h3 : (10 : Nat) ^ 10 = 10000000000 := rfl
  omega
end Qy
namespace Go.Proofs.YtmlpibdincfgbaaDoor
open Go.RowKit
set_option linter.unusedSimpArgs false
set_option linter.unusedVariables false

set_option maxRecDepth 100000 in
theorem class_any (c : UInt8) (w : World) : Calls Tryd.prog 43 #[.int .u8 (c.toNat : Int)] w fun e w' => e = .returned (.int .i64 (Qy.cls c.toNat : Int)) ∧ w' = w := by
  generalize c.toNat = n
  unfold Qy.cls
  by_cases h1 : n = 32
  · subst h1
    go_enter Tryd.func43, Tryd.ntmps43
    go_wp2
    go_returns
    exact ⟨rfl, rfl⟩
  rw [if_neg h1]
  have k1 : ¬ ((n : Int) = 32) := by omega
  by_cases h2 : 97 ≤ n
  · have k2 : (97 : Int) ≤ (n : Int) := by omega
    by_cases h3 : n ≤ 122
    · have k3 : (n : Int) ≤ 122 := by omega
      rw [if_pos ⟨h2, h3⟩]
      clear h1 h2 h3
      go_enter Tryd.func43, Tryd.ntmps43
      go_wp2
      go_returns
      exact ⟨rfl, rfl⟩
    · have k3 : ¬ (n : Int) ≤ 122 := by omega
      rw [if_neg (by omega), if_neg (by omega), if_neg (by omega)]
      have k4 : (48 : Int) ≤ (n : Int) := by omega
      have k5 : ¬ (n : Int) ≤ 57 := by omega
      have k6 : ¬ ((n : Int) = 45) := by omega
      clear h1 h2 h3
      go_enter Tryd.func43, Tryd.ntmps43
      go_wp2
      go_returns
      exact ⟨rfl, rfl⟩
  · have k2 : ¬ (97 : Int) ≤ (n : Int) := by omega
    rw [if_neg (by omega)]
    by_cases h3 : 48 ≤ n
    · have k3 : (48 : Int) ≤ (n : Int) := by omega
      by_cases h4 : n ≤ 57
      · have k4 : (n : Int) ≤ 57 := by omega
        rw [if_pos ⟨h3, h4⟩]
        clear h1 h2 h3 h4
        go_enter Tryd.func43, Tryd.ntmps43
        go_wp2
        go_returns
        exact ⟨rfl, rfl⟩
      · have k4 : ¬ (n : Int) ≤ 57 := by omega
        have k5 : ¬ ((n : Int) = 45) := by omega
        rw [if_neg (by omega), if_neg (by omega)]
        clear h1 h2 h3 h4
        go_enter Tryd.func43, Tryd.ntmps43
        go_wp2
        go_returns
        exact ⟨rfl, rfl⟩
    · have k3 : ¬ (48 : Int) ≤ (n : Int) := by omega
      rw [if_neg (by omega)]
      by_cases h4 : n = 45
      · subst h4
        clear h1 h2 h3
        go_enter Tryd.func43, Tryd.ntmps43
        go_wp2
        go_returns
        exact ⟨rfl, rfl⟩
      · have k4 : ¬ ((n : Int) = 45) := by omega
        rw [if_neg h4]
        clear h1 h2 h3 h4
        go_enter Tryd.func43, Tryd.ntmps43
        go_wp2
        go_returns
        exact ⟨rfl, rfl⟩
def intR (t : Qy.Bs) : Value := .tuple #[.int .i64 (if Qy.numOK t = true then Qy.numV t else 0), .bool (Qy.numOK t)]
set_option maxRecDepth 100000 in
set_option maxHeartbeats 3200000 in
theorem rInt0 (c : UInt8) (u : Qy.Bs) (hc : c.toNat ≠ 45) (hs : Qy.Shape (c :: u)) (w : World) : Calls Tryd.prog 60 #[.string (bs (c :: u))] w fun e w' => e = .returned (intR (c :: u)) ∧ w' = w := by
  obtain ⟨t, ht⟩ : ∃ t, t = c :: u := ⟨_, rfl⟩
  obtain ⟨D, hD⟩ : ∃ D, D = c :: u := ⟨_, rfl⟩
  have hdg : Qy.digs t = D := by
    rw [ht, hD]
    unfold Qy.digs
    split
    · rename_i e
      injection e with e _
      exact absurd (by rw [e]; rfl) hc
    · rfl
  have hvv : Qy.numV t = (Qy.digV D : Int) := by
    unfold Qy.numV
    rw [if_neg (by rw [ht]; simp only [List.headD_cons]; intro e; exact hc (by rw [e]; rfl)), hdg]
  rw [← ht]
  have hlen : t.length = D.length + 0 := by rw [ht, hD]; simp
  have hDat : ∀ i d, D[i]? = some d → t[i + 0]? = some d := fun i d h => by rw [ht]; rw [hD] at h; simpa using h
  have hOK : Qy.numOK t = (decide (1 ≤ D.length) && decide (D.length ≤ 10) && Qy.isD (D.headD 0) && !(D.headD 0 == 48 && !(t == [48]))) := by unfold Qy.numOK; rw [hdg]
  obtain ⟨n, hn⟩ : ∃ n, D.length = n := ⟨_, rfl⟩
  rw [hn] at hlen hOK
  rw [Nat.add_zero] at hlen
  have hsz : (bs t).size = n := by rw [bs_size, hlen]
  have x0 := bs_at t 0 c (by rw [ht]; rfl)
  have xz : (0 : Int) < (n : Int) := by have : 0 < t.length := by { rw [ht]; simp }; omega
  have hc2 : ¬ ((c.toNat : Int) = 45) := by omega
  have hAT : ∀ i d, D[i]? = some d → ∀ hi : i < (bs t).size, (bs t)[i]'hi = d := fun i d h => bs_at t i d (hDat i d h)
  have hne0 : ((bs t).toList == [48]) = (t == [48]) := by rw [bs_toList]
  have hdig : (Qy.isD c = true ∨ c = 45) → ∀ d ∈ u, Qy.isD d = true := hs _ _ rfl
  by_cases hl : 1 ≤ n ∧ n ≤ 10
  · obtain ⟨d0, hd0⟩ : ∃ d0, D[0]? = some d0 := ⟨_, List.getElem?_eq_getElem (by omega)⟩
    have hhd : D.headD 0 = d0 := by
      cases D with
      | nil => cases hd0
      | cons x r => simpa using hd0
    rw [hhd, decide_eq_true hl.1, decide_eq_true hl.2, Bool.true_and, Bool.true_and] at hOK
    have hy := hAT 0 d0 hd0
    have hcd : c = d0 := by rw [hD] at hd0; simpa using hd0
    subst hcd
    have l1 : ¬ ((n : Int) = 0) := by omega
    have l2 : ¬ ((10 : Int) < (n : Int)) := by omega
    have l3 : (n : Int) ≤ 10 := by omega
    have HAT := Lib.hid hAT
    have HN := Lib.hid hn
    have HL := Lib.hid hl
    by_cases hdc : Qy.isD c = true
    · have hdD : ∀ d ∈ D, Qy.isD d = true := by
        rw [hD]
        intro d hd
        rcases List.mem_cons.1 hd with e | e
        · rw [e]; exact hdc
        · exact hdig (.inl hdc) d e
      clear hdc
      have HDg := Lib.hid hdD
      have HH0 := Lib.hid hd0
      obtain ⟨sd, hsd⟩ : ∃ sd, bs t = sd := ⟨_, rfl⟩
      obtain ⟨bz, hbz⟩ : ∃ bz, (t == ([48] : Qy.Bs)) = bz := ⟨_, rfl⟩
      rw [hbz] at hne0
      rw [hsd] at hsz x0 HAT hne0 hy ⊢
      have HV : Hid (∀ b, Qy.numOK t = b → intR t = .tuple #[.int .i64 (if b = true then (Qy.digV D : Int) else 0), .bool b]) := Lib.hid fun b hb => by unfold intR; rw [hb, hvv]
      have HOK : Hid (Qy.numOK t = !(c == 48 && !bz)) := Lib.hid (by rw [hOK, hbz, hdD _ (List.mem_of_getElem? hd0), Bool.true_and])
      clear hsd hbz hvv hOK hdD hd0 hAT hdg hlen hDat hs hdig hn hD hhd hl ht
      go_enter Tryd.func60, Tryd.ntmps60
      go_wp2_with fail
      go_loopw [5, 6] (fun s5 s6 wr => ∃ i : Nat, i ≤ n ∧ s6 = .int .i64 ((i : Int)) ∧ s5 = .int .i64 (Qy.digV (D.take i) : Int) ∧ wr = w) (fun _ s6 _ => n + 0 - (intOf s6).toNat)
      case atStart => exact ⟨0, by omega, by go_num, rfl, rfl⟩
      case round =>
        obtain ⟨i, hi, rfl, rfl, rfl⟩ := hrel
        rcases Nat.lt_or_eq_of_le hi with hlt | heq
        · have i0 : (0 : Int) ≤ (i : Int) := by omega
          have i1 : (i : Int) < (n : Int) := by omega
          have i2 : (i : Int) < (n : Int) := by omega
          have i3 : i ≤ 10 := by have := HL.out; omega
          obtain ⟨d, hd⟩ : ∃ d, D[i]? = some d := ⟨_, List.getElem?_eq_getElem (by have := HN.out; omega)⟩
          have hx := HAT.out i d hd
          have hnx := Lib.hid (Qy.digV_take hd)
          have hbd := Qy.digV_take_lt (i := i) HDg.out i3
          have hdd := HDg.out d (List.mem_of_getElem? hd)
          have HW := Lib.hid (class_any d)
          rw [Qy.cls_isD hdd] at HW
          simp only [Qy.isD, Bool.and_eq_true, decide_eq_true_eq] at hdd
          obtain ⟨V, hV⟩ : ∃ V, Qy.digV (D.take i) = V := ⟨_, rfl⟩
          rw [hV] at hbd hnx ⊢
          clear hd hV
          go_wp2_with fail
          refine (HW.out _).mono ?_
          rintro e w3 ⟨rfl, e_⟩
          subst e_
          go_wp2_with fail
          go_roundw
          case rel => exact ⟨i + 1, by omega, by go_num, by rw [hnx.out]; go_num, by first | rfl | trivial⟩
          case measure => simp [intOf]; omega
        · subst heq
          have hfull : D.take i = D := List.take_of_length_le (by rw [HN.out]; exact Nat.le_refl _)
          rw [hfull]
          have hbd := Qy.digV_take_lt (i := i) HDg.out HL.out.2
          rw [hfull] at hbd
          obtain ⟨V, hV⟩ : ∃ V, Qy.digV D = V := ⟨_, rfl⟩
          rw [hV] at hbd HV ⊢
          clear hfull hV
          have i1 : ¬ ((i : Int) < (i : Int)) := by omega
          by_cases hz : c.toNat = 48
          · have hz2 : ((c.toNat : Int) = 48) := by omega
            have hz3 : (c == 48) = true := by rw [beq_iff_eq]; apply UInt8.toNat.inj; exact hz
            rw [hz3, Bool.true_and] at HOK
            cases bz
            · have HVV := Lib.hid (HV.out _ HOK.out)
              clear HOK HV hz hz3
              go_wp2
              go_returns
              exact ⟨by rw [HVV.out]; rfl, rfl⟩
            · have HVV := Lib.hid (HV.out _ HOK.out)
              clear HOK HV hz hz3
              go_wp2
              go_returns
              exact ⟨by rw [HVV.out]; rfl, rfl⟩
          · have hz2 : ¬ ((c.toNat : Int) = 48) := by omega
            have hz3 : (c == 48) = false := by rw [beq_eq_false_iff_ne]; intro e; exact hz (by rw [e]; rfl)
            rw [hz3, Bool.false_and] at HOK
            have HVV := Lib.hid (HV.out _ HOK.out)
            clear HOK HV hz3
            go_wp2
            go_returns
            exact ⟨by rw [HVV.out]; rfl, rfl⟩
    · have hdf : Qy.isD c = false := by simpa using hdc
      rw [hdf, Bool.false_and] at hOK
      have hr : intR t = .tuple #[.int .i64 0, .bool false] := by unfold intR; rw [hOK]; rfl
      rw [hr]
      have HW := Lib.hid (class_any c)
      have hcl := Qy.cls_notD hdf
      have hc4 := Qy.cls_lt c.toNat
      obtain ⟨k, hk⟩ : ∃ k, Qy.cls c.toNat = k := ⟨_, rfl⟩
      rw [hk] at HW hcl hc4
      have hcl2 : ¬ ((k : Int) = 2) := by omega
      obtain ⟨sd, hsd⟩ : ∃ sd, bs t = sd := ⟨_, rfl⟩
      rw [hsd] at hsz x0 hy ⊢
      clear hsd hr hdf hdc hOK hvv hd0 hAT hdg hlen hDat hs hdig hn hD hhd hl ht hne0 HAT HN hk hcl
      go_enter Tryd.func60, Tryd.ntmps60
      go_wp2_with fail
      go_loopw [5, 6] (fun s5 s6 wr => s6 = .int .i64 0 ∧ s5 = .int .i64 0 ∧ wr = w) (fun _ _ _ => 0)
      case atStart => exact ⟨rfl, rfl, rfl⟩
      case round =>
        obtain ⟨rfl, rfl, rfl⟩ := hrel
        go_wp2_with fail
        refine (HW.out _).mono ?_
        rintro e w3 ⟨rfl, e_⟩
        subst e_
        go_wp2
        go_returns
        exact ⟨rfl, rfl⟩
  · have hr : intR t = .tuple #[.int .i64 0, .bool false] := by
      unfold intR
      rw [hOK, show (decide (1 ≤ n) && decide (n ≤ 10)) = false by rw [Bool.and_eq_false_iff]; simp only [decide_eq_false_iff_not]; omega]
      rfl
    rw [hr]
    have l1 : ¬ ((n : Int) = 0) := by omega
    have l2 : (0 : Int) + 10 < (n : Int) := by omega
    have l3 : (10 : Int) < (n : Int) := by omega
    obtain ⟨sd, hsd⟩ : ∃ sd, bs t = sd := ⟨_, rfl⟩
    rw [hsd] at hsz x0 ⊢
    clear hsd hr hOK hvv hAT hdg hlen hDat hs hdig hn hD hl ht hne0
    go_enter Tryd.func60, Tryd.ntmps60
    go_wp2
    go_returns
    exact ⟨rfl, rfl⟩
set_option maxRecDepth 100000 in
set_option maxHeartbeats 3200000 in
theorem rInt1 (c : UInt8) (u : Qy.Bs) (hc : c.toNat = 45) (hs : Qy.Shape (c :: u)) (w : World) : Calls Tryd.prog 60 #[.string (bs (c :: u))] w fun e w' => e = .returned (intR (c :: u)) ∧ w' = w := by
  obtain ⟨t, ht⟩ : ∃ t, t = c :: u := ⟨_, rfl⟩
  obtain ⟨D, hD⟩ : ∃ D, D = u := ⟨_, rfl⟩
  obtain rfl : c = 45 := by
    apply UInt8.toNat.inj
    exact hc
  have hdg : Qy.digs t = D := by rw [ht, hD]; rfl
  have hvv : Qy.numV t = -(Qy.digV D : Int) := by
    unfold Qy.numV
    rw [if_pos (by rw [ht]; rfl), hdg]
  rw [← ht]
  have hlen : t.length = D.length + 1 := by rw [ht, hD]; simp
  have hDat : ∀ i d, D[i]? = some d → t[i + 1]? = some d := fun i d h => by rw [ht]; rw [hD] at h; simpa using h
  have hOK : Qy.numOK t = (decide (1 ≤ D.length) && decide (D.length ≤ 10) && Qy.isD (D.headD 0) && !(D.headD 0 == 48 && !(t == [48]))) := by unfold Qy.numOK; rw [hdg]
  obtain ⟨n, hn⟩ : ∃ n, D.length = n := ⟨_, rfl⟩
  rw [hn] at hlen hOK
  have hsz : (bs t).size = n + 1 := by rw [bs_size, hlen]
  have x0 := bs_at t 0 45 (by rw [ht]; rfl)
  have xz : (0 : Int) < (n : Int) + 1 := by have : 0 < t.length := by { rw [ht]; simp }; omega
  have hAT : ∀ i d, D[i]? = some d → ∀ hi : i + 1 < (bs t).size, (bs t)[i + 1]'hi = d := fun i d h => bs_at t (i + 1) d (hDat i d h)
  have hne0 : ((bs t).toList == [48]) = (t == [48]) := by rw [bs_toList]
  have hdig : ∀ d ∈ D, Qy.isD d = true := by rw [hD]; exact hs _ _ rfl (.inr rfl)
  by_cases hl : 1 ≤ n ∧ n ≤ 10
  · obtain ⟨d0, hd0⟩ : ∃ d0, D[0]? = some d0 := ⟨_, List.getElem?_eq_getElem (by omega)⟩
    have hhd : D.headD 0 = d0 := by
      cases D with
      | nil => cases hd0
      | cons x r => simpa using hd0
    rw [hhd, decide_eq_true hl.1, decide_eq_true hl.2, Bool.true_and, Bool.true_and] at hOK
    have hy := hAT 0 d0 hd0
    simp only [Nat.zero_add] at hy
    have l1 : ¬ ((n : Int) + 1 = 1) := by omega
    have l2 : ¬ ((11 : Int) < (n : Int) + 1) := by omega
    have l3 : (n : Int) + 1 ≤ 11 := by omega
    have HAT := Lib.hid hAT
    have HN := Lib.hid hn
    have HL := Lib.hid hl
    have hdD := hdig
    have HDg := Lib.hid hdD
    have HH0 := Lib.hid hd0
    obtain ⟨sd, hsd⟩ : ∃ sd, bs t = sd := ⟨_, rfl⟩
    obtain ⟨bz, hbz⟩ : ∃ bz, (t == ([48] : Qy.Bs)) = bz := ⟨_, rfl⟩
    rw [hbz] at hne0
    rw [hsd] at hsz x0 HAT hne0 hy ⊢
    have HV : Hid (∀ b, Qy.numOK t = b → intR t = .tuple #[.int .i64 (if b = true then -(Qy.digV D : Int) else 0), .bool b]) := Lib.hid fun b hb => by unfold intR; rw [hb, hvv]
    have HOK : Hid (Qy.numOK t = !(d0 == 48 && !bz)) := Lib.hid (by rw [hOK, hbz, hdD _ (List.mem_of_getElem? hd0), Bool.true_and])
    clear hsd hbz hvv hOK hdD hd0 hAT hdg hlen hDat hs hdig hn hD hhd hl ht
    go_enter Tryd.func60, Tryd.ntmps60
    go_wp2_with fail
    go_loopw [5, 6] (fun s5 s6 wr => ∃ i : Nat, i ≤ n ∧ s6 = .int .i64 ((i : Int) + 1) ∧ s5 = .int .i64 (Qy.digV (D.take i) : Int) ∧ wr = w) (fun _ s6 _ => n + 1 - (intOf s6).toNat)
    case atStart => exact ⟨0, by omega, by go_num, rfl, rfl⟩
    case round =>
      obtain ⟨i, hi, rfl, rfl, rfl⟩ := hrel
      rcases Nat.lt_or_eq_of_le hi with hlt | heq
      · have i0 : (0 : Int) ≤ (i : Int) + 1 := by omega
        have i1 : (i : Int) + 1 < (n : Int) + 1 := by omega
        have i2 : (i : Int) < (n : Int) := by omega
        have i3 : i ≤ 10 := by have := HL.out; omega
        obtain ⟨d, hd⟩ : ∃ d, D[i]? = some d := ⟨_, List.getElem?_eq_getElem (by have := HN.out; omega)⟩
        have hx := HAT.out i d hd
        have hnx := Lib.hid (Qy.digV_take hd)
        have hbd := Qy.digV_take_lt (i := i) HDg.out i3
        have hdd := HDg.out d (List.mem_of_getElem? hd)
        have HW := Lib.hid (class_any d)
        rw [Qy.cls_isD hdd] at HW
        simp only [Qy.isD, Bool.and_eq_true, decide_eq_true_eq] at hdd
        obtain ⟨V, hV⟩ : ∃ V, Qy.digV (D.take i) = V := ⟨_, rfl⟩
        rw [hV] at hbd hnx ⊢
        clear hd hV
        go_wp2_with fail
        refine (HW.out _).mono ?_
        rintro e w3 ⟨rfl, e_⟩
        subst e_
        go_wp2_with fail
        go_roundw
        case rel => exact ⟨i + 1, by omega, by go_num, by rw [hnx.out]; go_num, by first | rfl | trivial⟩
        case measure => simp [intOf]; omega
      · subst heq
        have hfull : D.take i = D := List.take_of_length_le (by rw [HN.out]; exact Nat.le_refl _)
        rw [hfull]
        have hbd := Qy.digV_take_lt (i := i) HDg.out HL.out.2
        rw [hfull] at hbd
        obtain ⟨V, hV⟩ : ∃ V, Qy.digV D = V := ⟨_, rfl⟩
        rw [hV] at hbd HV ⊢
        clear hfull hV
        have i1 : ¬ ((i : Int) + 1 < (i : Int) + 1) := by omega
        have qq1 : (1 : Int) < (i : Int) + 1 := by have := HL.out; omega
        have qq2 : 0 < i := by have := HL.out; omega
        by_cases hz : d0.toNat = 48
        · have hz2 : ((d0.toNat : Int) = 48) := by omega
          have hz3 : (d0 == 48) = true := by rw [beq_iff_eq]; apply UInt8.toNat.inj; exact hz
          rw [hz3, Bool.true_and] at HOK
          cases bz
          · have HVV := Lib.hid (HV.out _ HOK.out)
            clear HOK HV hz hz3
            go_wp2
            go_returns
            exact ⟨by rw [HVV.out]; rfl, rfl⟩
          · have HVV := Lib.hid (HV.out _ HOK.out)
            clear HOK HV hz hz3
            go_wp2
            go_returns
            exact ⟨by rw [HVV.out]; rfl, rfl⟩
        · have hz2 : ¬ ((d0.toNat : Int) = 48) := by omega
          have hz3 : (d0 == 48) = false := by rw [beq_eq_false_iff_ne]; intro e; exact hz (by rw [e]; rfl)
          rw [hz3, Bool.false_and] at HOK
          have HVV := Lib.hid (HV.out _ HOK.out)
          clear HOK HV hz3
          go_wp2
          go_returns
          exact ⟨by rw [HVV.out]; rfl, rfl⟩
  · have hr : intR t = .tuple #[.int .i64 0, .bool false] := by
      unfold intR
      rw [hOK, show (decide (1 ≤ n) && decide (n ≤ 10)) = false by rw [Bool.and_eq_false_iff]; simp only [decide_eq_false_iff_not]; omega]
      rfl
    rw [hr]
    by_cases hz : n = 0
    · subst hz
      obtain ⟨sd, hsd⟩ : ∃ sd, bs t = sd := ⟨_, rfl⟩
      rw [hsd] at hsz x0 ⊢
      clear hsd hr hOK hvv hAT hdg hlen hDat hs hdig hn hD hl ht hne0
      go_enter Tryd.func60, Tryd.ntmps60
      go_wp2
      go_returns
      exact ⟨rfl, rfl⟩
    · have l1 : ¬ ((n : Int) + 1 = 1) := by omega
      have l2 : (1 : Int) + 10 < (n : Int) + 1 := by omega
      have l3 : (11 : Int) < (n : Int) + 1 := by omega
      obtain ⟨sd, hsd⟩ : ∃ sd, bs t = sd := ⟨_, rfl⟩
      rw [hsd] at hsz x0 ⊢
      clear hsd hr hOK hvv hAT hdg hlen hDat hs hdig hn hD hl ht hne0
      go_enter Tryd.func60, Tryd.ntmps60
      go_wp2
      go_returns
      exact ⟨rfl, rfl⟩
theorem rInt (t : Qy.Bs) (hs : Qy.Shape t) (w : World) : Calls Tryd.prog 60 #[.string (bs t)] w fun e w' => e = .returned (intR t) ∧ w' = w := by
  cases t with
  | nil =>
    go_enter Tryd.func60, Tryd.ntmps60
    have hsz : (bs []).size = 0 := rfl
    have hr : intR [] = .tuple #[.int .i64 0, .bool false] := rfl
    rw [hr]
    go_wp2
    go_returns
    exact ⟨rfl, rfl⟩
  | cons c u =>
    by_cases hc : c.toNat = 45
    · exact rInt1 c u hc hs w
    · exact rInt0 c u hc hs w
end Go.Proofs.YtmlpibdincfgbaaDoor
