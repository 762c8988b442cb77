/-
  Chapter 38's reference: class, integer.
-/
import Derived.Test.YtmlpibdincfgbaaGreatDoorM1
namespace Qy
/-- The classes of characters. -/
def cls (n : Nat) : Nat := if n = 32 then 0 else if 97 ≤ n ∧ n ≤ 122 then 1 else if 48 ≤ n ∧ n ≤ 57 then 2 else if n = 45 then 3 else 4
theorem cls_isD {c : UInt8} (h : isD c = true) : cls c.toNat = 2 := by
 simp only [isD, Bool.and_eq_true, decide_eq_true_eq] at h
 unfold cls
 rw [if_neg (by omega), if_neg (by omega), if_pos h]
theorem cls_notD {c : UInt8} (h : isD c = false) : cls c.toNat ≠ 2 := by
 simp only [isD, Bool.and_eq_false_iff, decide_eq_false_iff_not] at h
 unfold cls
 repeat' split
 all_goals omega
theorem cls_lt (n : Nat) : cls n ≤ 4 := by
 unfold cls
 repeat' split
 all_goals omega
theorem digV_take {l : Bs} {i : Nat} {d : UInt8} (h : l[i]? = some d) : digV (l.take (i + 1)) = 10 * digV (l.take i) + (d.toNat - 48) := by
 rw [List.take_add_one, h, Option.toList_some, digV_append]
 simp [digV]
 omega
theorem digV_take_lt {l : Bs} {i : Nat} (h : ∀ d ∈ l, isD d = true) (hi : i ≤ 10) : digV (l.take i) < 10000000000 := by
 have h1 := digV_lt (l := l.take i) (fun d hd => h d (List.mem_of_mem_take hd))
 have h2 : (10 : Nat) ^ (l.take i).length ≤ 10 ^ 10 := Nat.pow_le_pow_right (by omega) (by rw [List.length_take]; omega)
 have h3 : (10 : Nat) ^ 10 = 10000000000 := rfl
 omega
end Qy
namespace Go.Proofs.YtmlpibdincfgbaaGreatDoor
open Go.RowKit
set_option linter.unusedSimpArgs false
set_option linter.unusedVariables false

set_option maxRecDepth 100000 in
theorem class_any (c : UInt8) (w : World) : Calls Tryz.prog 63 #[.int .u8 (c.toNat : Int)] w fun e w' => e = .returned (.int .i64 (Qy.cls c.toNat : Int)) ∧ w' = w := by
 generalize c.toNat = n
 unfold Qy.cls
 by_cases h1 : n = 32
 ·subst h1
  go_enter Tryz.func63, Tryz.ntmps63
  go_wp2
  go_returns
  exact ⟨rfl, rfl⟩
 rw [if_neg h1]
 have k1 : ¬ ((n : Int) = 32) := by omega
 by_cases h2 : 97 ≤ n
 ·have k2 : (97 : Int) ≤ (n : Int) := by omega
  by_cases h3 : n ≤ 122
  ·have k3 : (n : Int) ≤ 122 := by omega
   rw [if_pos ⟨h2, h3⟩]
   clear h1 h2 h3
   go_enter Tryz.func63, Tryz.ntmps63
   go_wp2
   go_returns
   exact ⟨rfl, rfl⟩
  ·have k3 : ¬ (n : Int) ≤ 122 := by omega
   rw [if_neg (by omega), if_neg (by omega), if_neg (by omega)]
   have k4 : (48 : Int) ≤ (n : Int) := by omega
   have k5 : ¬ (n : Int) ≤ 57 := by omega
   have k6 : ¬ ((n : Int) = 45) := by omega
   clear h1 h2 h3
   go_enter Tryz.func63, Tryz.ntmps63
   go_wp2
   go_returns
   exact ⟨rfl, rfl⟩
 ·have k2 : ¬ (97 : Int) ≤ (n : Int) := by omega
  rw [if_neg (by omega)]
  by_cases h3 : 48 ≤ n
  ·have k3 : (48 : Int) ≤ (n : Int) := by omega
   by_cases h4 : n ≤ 57
   ·have k4 : (n : Int) ≤ 57 := by omega
    rw [if_pos ⟨h3, h4⟩]
    clear h1 h2 h3 h4
    go_enter Tryz.func63, Tryz.ntmps63
    go_wp2
    go_returns
    exact ⟨rfl, rfl⟩
   ·have k4 : ¬ (n : Int) ≤ 57 := by omega
    have k5 : ¬ ((n : Int) = 45) := by omega
    rw [if_neg (by omega), if_neg (by omega)]
    clear h1 h2 h3 h4
    go_enter Tryz.func63, Tryz.ntmps63
    go_wp2
    go_returns
    exact ⟨rfl, rfl⟩
  ·have k3 : ¬ (48 : Int) ≤ (n : Int) := by omega
   rw [if_neg (by omega)]
   by_cases h4 : n = 45
   ·subst h4
    clear h1 h2 h3
    go_enter Tryz.func63, Tryz.ntmps63
    go_wp2
    go_returns
    exact ⟨rfl, rfl⟩
   ·have k4 : ¬ ((n : Int) = 45) := by omega
    rw [if_neg h4]
    clear h1 h2 h3 h4
    go_enter Tryz.func63, Tryz.ntmps63
    go_wp2
    go_returns
    exact ⟨rfl, rfl⟩
def intR (t : Qy.Bs) : Value := .tuple #[.int .i64 (if Qy.numOK t = true then Qy.numV t else 0), .bool (Qy.numOK t)]
set_option maxRecDepth 100000 in
set_option maxHeartbeats 3200000 in
theorem rInt0 (c : UInt8) (u : Qy.Bs) (hc : c.toNat ≠ 45) (hs : Qy.Shape (c :: u)) (w : World) : Calls Tryz.prog 77 #[.string (bs (c :: u))] w fun e w' => e = .returned (intR (c :: u)) ∧ w' = w := by
 obtain ⟨t, ht⟩ : ∃ t, t = c :: u := ⟨_, rfl⟩
 obtain ⟨D, hD⟩ : ∃ D, D = c :: u := ⟨_, rfl⟩
 have hdg : Qy.digs t = D := by
  rw [ht, hD]
  unfold Qy.digs
  split
  ·rename_i e
   injection e with e _
   exact absurd (by rw [e]; rfl) hc
  ·rfl
 have hvv : Qy.numV t = (Qy.digV D : Int) := by
  unfold Qy.numV
  rw [if_neg (by rw [ht]; simp only [List.headD_cons]; intro e; exact hc (by rw [e]; rfl)), hdg]
 rw [← ht]
 have hlen : t.length = D.length + 0 := by rw [ht, hD]; simp
 have hDat : ∀ i d, D[i]? = some d → t[i + 0]? = some d := fun i d h => by rw [ht]; rw [hD] at h; simpa using h
 have hOK : Qy.numOK t = (decide (1 ≤ D.length) && decide (D.length ≤ 10) && Qy.isD (D.headD 0) && !(D.headD 0 == 48 && !(t == [48]))) := by unfold Qy.numOK; rw [hdg]
 obtain ⟨n, hn⟩ : ∃ n, D.length = n := ⟨_, rfl⟩
 rw [hn] at hlen hOK
 rw [Nat.add_zero] at hlen
 have hsz : (bs t).size = n := by rw [bs_size, hlen]
 have x0 := bs_at t 0 c (by rw [ht]; rfl)
 have xz : (0 : Int) < (n : Int) := by have : 0 < t.length := by { rw [ht]; simp }; omega
 have hc2 : ¬ ((c.toNat : Int) = 45) := by omega
 have hAT : ∀ i d, D[i]? = some d → ∀ hi : i < (bs t).size, (bs t)[i]'hi = d := fun i d h => bs_at t i d (hDat i d h)
 have hne0 : ((bs t).toList == [48]) = (t == [48]) := by rw [bs_toList]
 have hdig : (Qy.isD c = true ∨ c = 45) → ∀ d ∈ u, Qy.isD d = true := hs _ _ rfl
 by_cases hl : 1 ≤ n ∧ n ≤ 10
 ·obtain ⟨d0, hd0⟩ : ∃ d0, D[0]? = some d0 := ⟨_, List.getElem?_eq_getElem (by omega)⟩
  have hhd : D.headD 0 = d0 := by
   cases D with
   | nil => cases hd0
   | cons x r => simpa using hd0
  rw [hhd, decide_eq_true hl.1, decide_eq_true hl.2, Bool.true_and, Bool.true_and] at hOK
  have hy := hAT 0 d0 hd0
  have hcd : c = d0 := by rw [hD] at hd0; simpa using hd0
  subst hcd
  have l1 : ¬ ((n : Int) = 0) := by omega
  have l2 : ¬ ((10 : Int) < (n : Int)) := by omega
  have l3 : (n : Int) ≤ 10 := by omega
  have HAT := Lib.hid hAT
  have HN := Lib.hid hn
  have HL := Lib.hid hl
  by_cases hdc : Qy.isD c = true
  ·have hdD : ∀ d ∈ D, Qy.isD d = true := by
    rw [hD]
    intro d hd
    rcases List.mem_cons.1 hd with e | e
    ·rw [e]; exact hdc
    ·exact hdig (.inl hdc) d e
   clear hdc
   have HDg := Lib.hid hdD
   have HH0 := Lib.hid hd0
   obtain ⟨sd, hsd⟩ : ∃ sd, bs t = sd := ⟨_, rfl⟩
   obtain ⟨bz, hbz⟩ : ∃ bz, (t == ([48] : Qy.Bs)) = bz := ⟨_, rfl⟩
   rw [hbz] at hne0
   rw [hsd] at hsz x0 HAT hne0 hy ⊢
   have HV : Hid (∀ b, Qy.numOK t = b → intR t = .tuple #[.int .i64 (if b = true then (Qy.digV D : Int) else 0), .bool b]) := Lib.hid fun b hb => by unfold intR; rw [hb, hvv]
   have HOK : Hid (Qy.numOK t = !(c == 48 && !bz)) := Lib.hid (by rw [hOK, hbz, hdD _ (List.mem_of_getElem? hd0), Bool.true_and])
   clear hsd hbz hvv hOK hdD hd0 hAT hdg hlen hDat hs hdig hn hD hhd hl ht
   go_enter Tryz.func77, Tryz.ntmps77
   go_wp2_with fail
   go_loopw [5, 6] (fun s5 s6 wr => ∃ i : Nat, i ≤ n ∧ s6 = .int .i64 ((i : Int)) ∧ s5 = .int .i64 (Qy.digV (D.take i) : Int) ∧ wr = w) (fun _ s6 _ => n + 0 - (intOf s6).toNat)
   case atStart => exact ⟨0, by omega, by go_num, rfl, rfl⟩
   case round =>
    obtain ⟨i, hi, rfl, rfl, rfl⟩ := hrel
    rcases Nat.lt_or_eq_of_le hi with hlt | heq
    ·have i0 : (0 : Int) ≤ (i : Int) := by omega
     have i1 : (i : Int) < (n : Int) := by omega
     have i2 : (i : Int) < (n : Int) := by omega
     have i3 : i ≤ 10 := by have := HL.out; omega
     obtain ⟨d, hd⟩ : ∃ d, D[i]? = some d := ⟨_, List.getElem?_eq_getElem (by have := HN.out; omega)⟩
     have hx := HAT.out i d hd
     have hnx := Lib.hid (Qy.digV_take hd)
     have hbd := Qy.digV_take_lt (i := i) HDg.out i3
     have hdd := HDg.out d (List.mem_of_getElem? hd)
     have HW := Lib.hid (class_any d)
     rw [Qy.cls_isD hdd] at HW
     simp only [Qy.isD, Bool.and_eq_true, decide_eq_true_eq] at hdd
     obtain ⟨V, hV⟩ : ∃ V, Qy.digV (D.take i) = V := ⟨_, rfl⟩
     rw [hV] at hbd hnx ⊢
     clear hd hV
     go_wp2_with fail
     refine (HW.out _).mono ?_
     rintro e w3 ⟨rfl, e_⟩
     subst e_
     go_wp2_with fail
     go_roundw
     case rel => exact ⟨i + 1, by omega, by go_num, by rw [hnx.out]; go_num, by first | rfl | trivial⟩
     case measure => simp [intOf]; omega
    ·subst heq
     have hfull : D.take i = D := List.take_of_length_le (by rw [HN.out]; exact Nat.le_refl _)
     rw [hfull]
     have hbd := Qy.digV_take_lt (i := i) HDg.out HL.out.2
     rw [hfull] at hbd
     obtain ⟨V, hV⟩ : ∃ V, Qy.digV D = V := ⟨_, rfl⟩
     rw [hV] at hbd HV ⊢
     clear hfull hV
     have i1 : ¬ ((i : Int) < (i : Int)) := by omega
     by_cases hz : c.toNat = 48
     ·have hz2 : ((c.toNat : Int) = 48) := by omega
      have hz3 : (c == 48) = true := by rw [beq_iff_eq]; apply UInt8.toNat.inj; exact hz
      rw [hz3, Bool.true_and] at HOK
      cases bz
      ·have HVV := Lib.hid (HV.out _ HOK.out)
       clear HOK HV hz hz3
       go_wp2
       go_returns
       exact ⟨by rw [HVV.out]; rfl, rfl⟩
      ·have HVV := Lib.hid (HV.out _ HOK.out)
       clear HOK HV hz hz3
       go_wp2
       go_returns
       exact ⟨by rw [HVV.out]; rfl, rfl⟩
     ·have hz2 : ¬ ((c.toNat : Int) = 48) := by omega
      have hz3 : (c == 48) = false := by rw [beq_eq_false_iff_ne]; intro e; exact hz (by rw [e]; rfl)
      rw [hz3, Bool.false_and] at HOK
      have HVV := Lib.hid (HV.out _ HOK.out)
      clear HOK HV hz3
      go_wp2
      go_returns
      exact ⟨by rw [HVV.out]; rfl, rfl⟩
  ·have hdf : Qy.isD c = false := by simpa using hdc
   rw [hdf, Bool.false_and] at hOK
   have hr : intR t = .tuple #[.int .i64 0, .bool false] := by unfold intR; rw [hOK]; rfl
   rw [hr]
   have HW := Lib.hid (class_any c)
   have hcl := Qy.cls_notD hdf
   have hc4 := Qy.cls_lt c.toNat
   obtain ⟨k, hk⟩ : ∃ k, Qy.cls c.toNat = k := ⟨_, rfl⟩
   rw [hk] at HW hcl hc4
   have hcl2 : ¬ ((k : Int) = 2) := by omega
   obtain ⟨sd, hsd⟩ : ∃ sd, bs t = sd := ⟨_, rfl⟩
   rw [hsd] at hsz x0 hy ⊢
   clear hsd hr hdf hdc hOK hvv hd0 hAT hdg hlen hDat hs hdig hn hD hhd hl ht hne0 HAT HN hk hcl
   go_enter Tryz.func77, Tryz.ntmps77
   go_wp2_with fail
   go_loopw [5, 6] (fun s5 s6 wr => s6 = .int .i64 0 ∧ s5 = .int .i64 0 ∧ wr = w) (fun _ _ _ => 0)
   case atStart => exact ⟨rfl, rfl, rfl⟩
   case round =>
    obtain ⟨rfl, rfl, rfl⟩ := hrel
    go_wp2_with fail
    refine (HW.out _).mono ?_
    rintro e w3 ⟨rfl, e_⟩
    subst e_
    go_wp2
    go_returns
    exact ⟨rfl, rfl⟩
 ·have hr : intR t = .tuple #[.int .i64 0, .bool false] := by
   unfold intR
   rw [hOK, show (decide (1 ≤ n) && decide (n ≤ 10)) = false by rw [Bool.and_eq_false_iff]; simp only [decide_eq_false_iff_not]; omega]
   rfl
  rw [hr]
  have l1 : ¬ ((n : Int) = 0) := by omega
  have l2 : (0 : Int) + 10 < (n : Int) := by omega
  have l3 : (10 : Int) < (n : Int) := by omega
  obtain ⟨sd, hsd⟩ : ∃ sd, bs t = sd := ⟨_, rfl⟩
  rw [hsd] at hsz x0 ⊢
  clear hsd hr hOK hvv hAT hdg hlen hDat hs hdig hn hD hl ht hne0
  go_enter Tryz.func77, Tryz.ntmps77
  go_wp2
  go_returns
  exact ⟨rfl, rfl⟩
set_option maxRecDepth 100000 in
set_option maxHeartbeats 3200000 in
theorem rInt1 (c : UInt8) (u : Qy.Bs) (hc : c.toNat = 45) (hs : Qy.Shape (c :: u)) (w : World) : Calls Tryz.prog 77 #[.string (bs (c :: u))] w fun e w' => e = .returned (intR (c :: u)) ∧ w' = w := by
 obtain ⟨t, ht⟩ : ∃ t, t = c :: u := ⟨_, rfl⟩
 obtain ⟨D, hD⟩ : ∃ D, D = u := ⟨_, rfl⟩
 obtain rfl : c = 45 := by
  apply UInt8.toNat.inj
  exact hc
 have hdg : Qy.digs t = D := by rw [ht, hD]; rfl
 have hvv : Qy.numV t = -(Qy.digV D : Int) := by
  unfold Qy.numV
  rw [if_pos (by rw [ht]; rfl), hdg]
 rw [← ht]
 have hlen : t.length = D.length + 1 := by rw [ht, hD]; simp
 have hDat : ∀ i d, D[i]? = some d → t[i + 1]? = some d := fun i d h => by rw [ht]; rw [hD] at h; simpa using h
 have hOK : Qy.numOK t = (decide (1 ≤ D.length) && decide (D.length ≤ 10) && Qy.isD (D.headD 0) && !(D.headD 0 == 48 && !(t == [48]))) := by unfold Qy.numOK; rw [hdg]
 obtain ⟨n, hn⟩ : ∃ n, D.length = n := ⟨_, rfl⟩
 rw [hn] at hlen hOK
 have hsz : (bs t).size = n + 1 := by rw [bs_size, hlen]
 have x0 := bs_at t 0 45 (by rw [ht]; rfl)
 have xz : (0 : Int) < (n : Int) + 1 := by have : 0 < t.length := by { rw [ht]; simp }; omega
 have hAT : ∀ i d, D[i]? = some d → ∀ hi : i + 1 < (bs t).size, (bs t)[i + 1]'hi = d := fun i d h => bs_at t (i + 1) d (hDat i d h)
 have hne0 : ((bs t).toList == [48]) = (t == [48]) := by rw [bs_toList]
 have hdig : ∀ d ∈ D, Qy.isD d = true := by rw [hD]; exact hs _ _ rfl (.inr rfl)
 by_cases hl : 1 ≤ n ∧ n ≤ 10
 ·obtain ⟨d0, hd0⟩ : ∃ d0, D[0]? = some d0 := ⟨_, List.getElem?_eq_getElem (by omega)⟩
  have hhd : D.headD 0 = d0 := by
   cases D with
   | nil => cases hd0
   | cons x r => simpa using hd0
  rw [hhd, decide_eq_true hl.1, decide_eq_true hl.2, Bool.true_and, Bool.true_and] at hOK
  have hy := hAT 0 d0 hd0
  simp only [Nat.zero_add] at hy
  have l1 : ¬ ((n : Int) + 1 = 1) := by omega
  have l2 : ¬ ((11 : Int) < (n : Int) + 1) := by omega
  have l3 : (n : Int) + 1 ≤ 11 := by omega
  have HAT := Lib.hid hAT
  have HN := Lib.hid hn
  have HL := Lib.hid hl
  have hdD := hdig
  have HDg := Lib.hid hdD
  have HH0 := Lib.hid hd0
  obtain ⟨sd, hsd⟩ : ∃ sd, bs t = sd := ⟨_, rfl⟩
  obtain ⟨bz, hbz⟩ : ∃ bz, (t == ([48] : Qy.Bs)) = bz := ⟨_, rfl⟩
  rw [hbz] at hne0
  rw [hsd] at hsz x0 HAT hne0 hy ⊢
  have HV : Hid (∀ b, Qy.numOK t = b → intR t = .tuple #[.int .i64 (if b = true then -(Qy.digV D : Int) else 0), .bool b]) := Lib.hid fun b hb => by unfold intR; rw [hb, hvv]
  have HOK : Hid (Qy.numOK t = !(d0 == 48 && !bz)) := Lib.hid (by rw [hOK, hbz, hdD _ (List.mem_of_getElem? hd0), Bool.true_and])
  clear hsd hbz hvv hOK hdD hd0 hAT hdg hlen hDat hs hdig hn hD hhd hl ht
  go_enter Tryz.func77, Tryz.ntmps77
  go_wp2_with fail
  go_loopw [5, 6] (fun s5 s6 wr => ∃ i : Nat, i ≤ n ∧ s6 = .int .i64 ((i : Int) + 1) ∧ s5 = .int .i64 (Qy.digV (D.take i) : Int) ∧ wr = w) (fun _ s6 _ => n + 1 - (intOf s6).toNat)
  case atStart => exact ⟨0, by omega, by go_num, rfl, rfl⟩
  case round =>
   obtain ⟨i, hi, rfl, rfl, rfl⟩ := hrel
   rcases Nat.lt_or_eq_of_le hi with hlt | heq
   ·have i0 : (0 : Int) ≤ (i : Int) + 1 := by omega
    have i1 : (i : Int) + 1 < (n : Int) + 1 := by omega
    have i2 : (i : Int) < (n : Int) := by omega
    have i3 : i ≤ 10 := by have := HL.out; omega
    obtain ⟨d, hd⟩ : ∃ d, D[i]? = some d := ⟨_, List.getElem?_eq_getElem (by have := HN.out; omega)⟩
    have hx := HAT.out i d hd
    have hnx := Lib.hid (Qy.digV_take hd)
    have hbd := Qy.digV_take_lt (i := i) HDg.out i3
    have hdd := HDg.out d (List.mem_of_getElem? hd)
    have HW := Lib.hid (class_any d)
    rw [Qy.cls_isD hdd] at HW
    simp only [Qy.isD, Bool.and_eq_true, decide_eq_true_eq] at hdd
    obtain ⟨V, hV⟩ : ∃ V, Qy.digV (D.take i) = V := ⟨_, rfl⟩
    rw [hV] at hbd hnx ⊢
    clear hd hV
    go_wp2_with fail
    refine (HW.out _).mono ?_
    rintro e w3 ⟨rfl, e_⟩
    subst e_
    go_wp2_with fail
    go_roundw
    case rel => exact ⟨i + 1, by omega, by go_num, by rw [hnx.out]; go_num, by first | rfl | trivial⟩
    case measure => simp [intOf]; omega
   ·subst heq
    have hfull : D.take i = D := List.take_of_length_le (by rw [HN.out]; exact Nat.le_refl _)
    rw [hfull]
    have hbd := Qy.digV_take_lt (i := i) HDg.out HL.out.2
    rw [hfull] at hbd
    obtain ⟨V, hV⟩ : ∃ V, Qy.digV D = V := ⟨_, rfl⟩
    rw [hV] at hbd HV ⊢
    clear hfull hV
    have i1 : ¬ ((i : Int) + 1 < (i : Int) + 1) := by omega
    have qq1 : (1 : Int) < (i : Int) + 1 := by have := HL.out; omega
    have qq2 : 0 < i := by have := HL.out; omega
    by_cases hz : d0.toNat = 48
    ·have hz2 : ((d0.toNat : Int) = 48) := by omega
     have hz3 : (d0 == 48) = true := by rw [beq_iff_eq]; apply UInt8.toNat.inj; exact hz
     rw [hz3, Bool.true_and] at HOK
     cases bz
     ·have HVV := Lib.hid (HV.out _ HOK.out)
      clear HOK HV hz hz3
      go_wp2
      go_returns
      exact ⟨by rw [HVV.out]; rfl, rfl⟩
     ·have HVV := Lib.hid (HV.out _ HOK.out)
      clear HOK HV hz hz3
      go_wp2
      go_returns
      exact ⟨by rw [HVV.out]; rfl, rfl⟩
    ·have hz2 : ¬ ((d0.toNat : Int) = 48) := by omega
     have hz3 : (d0 == 48) = false := by rw [beq_eq_false_iff_ne]; intro e; exact hz (by rw [e]; rfl)
     rw [hz3, Bool.false_and] at HOK
     have HVV := Lib.hid (HV.out _ HOK.out)
     clear HOK HV hz3
     go_wp2
     go_returns
     exact ⟨by rw [HVV.out]; rfl, rfl⟩
 ·have hr : intR t = .tuple #[.int .i64 0, .bool false] := by
   unfold intR
   rw [hOK, show (decide (1 ≤ n) && decide (n ≤ 10)) = false by rw [Bool.and_eq_false_iff]; simp only [decide_eq_false_iff_not]; omega]
   rfl
  rw [hr]
  by_cases hz : n = 0
  ·subst hz
   obtain ⟨sd, hsd⟩ : ∃ sd, bs t = sd := ⟨_, rfl⟩
   rw [hsd] at hsz x0 ⊢
   clear hsd hr hOK hvv hAT hdg hlen hDat hs hdig hn hD hl ht hne0
   go_enter Tryz.func77, Tryz.ntmps77
   go_wp2
   go_returns
   exact ⟨rfl, rfl⟩
  ·have l1 : ¬ ((n : Int) + 1 = 1) := by omega
   have l2 : (1 : Int) + 10 < (n : Int) + 1 := by omega
   have l3 : (11 : Int) < (n : Int) + 1 := by omega
   obtain ⟨sd, hsd⟩ : ∃ sd, bs t = sd := ⟨_, rfl⟩
   rw [hsd] at hsz x0 ⊢
   clear hsd hr hOK hvv hAT hdg hlen hDat hs hdig hn hD hl ht hne0
   go_enter Tryz.func77, Tryz.ntmps77
   go_wp2
   go_returns
   exact ⟨rfl, rfl⟩
theorem rInt (t : Qy.Bs) (hs : Qy.Shape t) (w : World) : Calls Tryz.prog 77 #[.string (bs t)] w fun e w' => e = .returned (intR t) ∧ w' = w := by
 cases t with
 | nil =>
  go_enter Tryz.func77, Tryz.ntmps77
  have hsz : (bs []).size = 0 := rfl
  have hr : intR [] = .tuple #[.int .i64 0, .bool false] := rfl
  rw [hr]
  go_wp2
  go_returns
  exact ⟨rfl, rfl⟩
 | cons c u =>
  by_cases hc : c.toNat = 45
  ·exact rInt1 c u hc hs w
  ·exact rInt0 c u hc hs w
end Go.Proofs.YtmlpibdincfgbaaGreatDoor

/-
  (second part)
-/
namespace Qy
theorem hd_shape {l : List Tok} (h : Good l) : Shape (hd l) := by
 have h1 := h.shaped
 match l, h1 with
 | [], _ => intro c w e; cases e
 | t :: _, h1 => exact h1 t (by simp)
theorem see_shape {s : St} (h : Good s.1) : Shape (see s) := by
 obtain ⟨l, o⟩ := s
 cases o with
 | none => exact hd_shape h
 | some y =>
  rw [show see (l, some y) = [32] from see_bad]
  intro c w e k
  cases e
  rcases k with k | k
  ·exact absurd k (by decide)
  ·exact absurd k (by decide)
theorem see_none {s : St} (h : see s ≠ [32]) : s.2 = none ∧ see s = hd s.1 := by
 obtain ⟨l, o⟩ := s
 cases o with
 | none => exact ⟨rfl, rfl⟩
 | some y => exact absurd see_bad h
theorem see_ok {s : St} (h : numOK (see s) = true) : s.2 = none ∧ hd s.1 ≠ [] := by
 obtain ⟨h1, h2⟩ := see_none (s := s) (fun e => by rw [e] at h; revert h; decide)
 exact ⟨h1, by rw [← h2]; exact numOK_ne h⟩
end Qy
namespace Go.Proofs.YtmlpibdincfgbaaGreatDoor
open Go.RowKit
set_option linter.unusedSimpArgs false
set_option linter.unusedVariables false

/-- How a reading function of the reference ends. -/
def EndF {α : Type} (B r : Nat) (w : World) (res : α × Qy.St) (val : α → Value → World → Prop) (e : Ending) (w' : World) : Prop :=
 At1 r w w' ∧ (∃ v, e = .returned v ∧ val res.1 v w') ∧ RfAt B r res.2 w'
set_option maxRecDepth 100000 in
set_option maxHeartbeats 3200000 in
theorem rNumber (B r : Nat) (s : Qy.St) (lo hi : Int) (w : World) (h : RfAt B r s w) : Calls Tryz.prog 40 #[.pointer (some ⟨r, 0, none⟩), .int .i64 lo, .int .i64 hi] w (EndF B r w (Qy.numS lo hi s) intV) := by
 have HS := Lib.hid (rSee B r s w h)
 have HI := Lib.hid (rInt (Qy.see s) (Qy.see_shape h.good))
 have HR := Lib.hid h
 by_cases hok : Qy.numOK (Qy.see s) = true
 ·have hN : Qy.numS lo hi s = if lo ≤ Qy.numV (Qy.see s) ∧ Qy.numV (Qy.see s) ≤ hi then (Qy.numV (Qy.see s), Qy.adv s) else (0, Qy.failS 5 s) := by unfold Qy.numS; rw [if_pos hok]
  obtain ⟨hn1, hn2⟩ := Qy.see_ok hok
  unfold intR at HI
  rw [if_pos hok, hok] at HI
  obtain ⟨V, hV⟩ : ∃ V, Qy.numV (Qy.see s) = V := ⟨_, rfl⟩
  rw [hV] at hN HI
  rw [hN]
  clear hN hV hok
  by_cases h1 : lo ≤ V
  ·by_cases h2 : V ≤ hi
   ·rw [if_pos ⟨h1, h2⟩]
    have h3 : ¬ (V < lo) := by omega
    have h4 : ¬ (hi < V) := by omega
    clear h
    go_enter Tryz.func40, Tryz.ntmps40
    go_wp2_with fail
    refine HS.out.mono ?_
    rintro e w1 ⟨rfl, k1⟩
    have HK := Lib.hid k1
    clear k1
    go_wp2_with fail
    refine (HI.out _).mono ?_
    rintro e w2 ⟨rfl, e_⟩
    subst e_
    obtain ⟨n, i, g, off, c, a, b, hl, hii, hgr, hgl, hO, c8, c9, hb, hA, _⟩ := (HR.out.on HK.out).cells
    have q1 := hO.cell 1
    have f1 := hO.frozen 1
    have i0 : (0 : Int) ≤ (i : Int) := by omega
    have i1 : (i : Int) ≤ 5000 := by omega
    have HF := Lib.hid (And.intro (hA hn2) ((At1.of_below (r := r) HK.out).trans (At1.set_ (r := r) w2 (p := ⟨r, 1, none⟩) rfl (.int .i64 ((i : Int) + 1)))))
    clear hO c8 c9 hb hA hn1 hn2 hii hl hgl
    go_wp2
    go_returns
    exact ⟨HF.out.2, ⟨_, rfl, rfl⟩, HF.out.1⟩
   ·rw [if_neg (fun k => h2 k.2)]
    have h3 : ¬ (V < lo) := by omega
    have h4 : hi < V := by omega
    clear h hn1 hn2
    go_enter Tryz.func40, Tryz.ntmps40
    go_wp2_with fail
    refine HS.out.mono ?_
    rintro e w1 ⟨rfl, k1⟩
    have HK := Lib.hid k1
    clear k1
    go_wp2_with fail
    refine (HI.out _).mono ?_
    rintro e w2 ⟨rfl, e_⟩
    subst e_
    go_wp2_with fail
    refine (rFail B r s 5 (by decide) _ (HR.out.on HK.out)).mono ?_
    rintro e w3 ⟨rfl, k2, k3⟩
    have HF := Lib.hid (And.intro ((At1.of_below (r := r) HK.out).trans k2) k3)
    clear k2 k3
    go_wp2
    go_returns
    exact ⟨HF.out.1, ⟨_, rfl, rfl⟩, HF.out.2⟩
  ·rw [if_neg (fun k => h1 k.1)]
   have h3 : V < lo := by omega
   clear h hn1 hn2
   go_enter Tryz.func40, Tryz.ntmps40
   go_wp2_with fail
   refine HS.out.mono ?_
   rintro e w1 ⟨rfl, k1⟩
   have HK := Lib.hid k1
   clear k1
   go_wp2_with fail
   refine (HI.out _).mono ?_
   rintro e w2 ⟨rfl, e_⟩
   subst e_
   go_wp2_with fail
   refine (rFail B r s 5 (by decide) _ (HR.out.on HK.out)).mono ?_
   rintro e w3 ⟨rfl, k2, k3⟩
   have HF := Lib.hid (And.intro ((At1.of_below (r := r) HK.out).trans k2) k3)
   clear k2 k3
   go_wp2
   go_returns
   exact ⟨HF.out.1, ⟨_, rfl, rfl⟩, HF.out.2⟩
 ·have hN : Qy.numS lo hi s = (0, Qy.failS 2 s) := by unfold Qy.numS; rw [if_neg hok]
  have hf : Qy.numOK (Qy.see s) = false := by simpa using hok
  unfold intR at HI
  rw [if_neg hok, hf] at HI
  rw [hN]
  clear hN hok hf h
  go_enter Tryz.func40, Tryz.ntmps40
  go_wp2_with fail
  refine HS.out.mono ?_
  rintro e w1 ⟨rfl, k1⟩
  have HK := Lib.hid k1
  clear k1
  go_wp2_with fail
  refine (HI.out _).mono ?_
  rintro e w2 ⟨rfl, e_⟩
  subst e_
  go_wp2_with fail
  refine (rFail B r s 2 (by decide) _ (HR.out.on HK.out)).mono ?_
  rintro e w3 ⟨rfl, k2, k3⟩
  have HF := Lib.hid (And.intro ((At1.of_below (r := r) HK.out).trans k2) k3)
  clear k2 k3
  go_wp2
  go_returns
  exact ⟨HF.out.1, ⟨_, rfl, rfl⟩, HF.out.2⟩
theorem RfAt.far {B r : Nat} {s : Qy.St} {w : World} (h : RfAt B r s w) {g0 : Nat} (hg : B ≤ g0) (i : Nat) (u : Value) : RfAt B r s (w.setCell ⟨g0, i, none⟩ u) :=
 h.keep ((Below.refl 0 w).setCell (Nat.zero_le _) u).size fun g hgb => Below.heap_setCell w ⟨g0, i, none⟩ u g (show g ≠ g0 by omega)
set_option maxRecDepth 100000 in
set_option maxHeartbeats 3200000 in
theorem rPoint (B r : Nat) (s : Qy.St) (lx ly : Int) (w : World) (h : RfAt B r s w) :
  Calls Tryz.prog 117 #[.pointer (some ⟨r, 0, none⟩), .int .i64 lx, .int .i64 ly] w (EndF B r w (Qy.pointS lx ly s) ptV) := by
 have hr := h.lt
 have HBw := Lib.hid h.2.1
 have H1 : Hid (∀ s u, RfAt B r s u → Calls Tryz.prog 40 #[.pointer (some ⟨r, 0, none⟩), .int .i64 lx, .int .i64 1073741824] u (EndF B r u (Qy.numS lx 1073741824 s) intV)) := Lib.hid fun s u k => rNumber B r s lx 1073741824 u k
 have H2 : Hid (∀ s u, RfAt B r s u → Calls Tryz.prog 39 #[.pointer (some ⟨r, 0, none⟩), .string ⟨#[44]⟩] u fun e w' => e = .returned (.tuple #[]) ∧ At1 r u w' ∧ RfAt B r (Qy.needS [44] s) w') := Lib.hid fun s u k => rNeed B r s [44] (by decide) u k
 have H3 : Hid (∀ s u, RfAt B r s u → Calls Tryz.prog 40 #[.pointer (some ⟨r, 0, none⟩), .int .i64 ly, .int .i64 1073741824] u (EndF B r u (Qy.numS ly 1073741824 s) intV)) := Lib.hid fun s u k => rNumber B r s ly 1073741824 u k
 obtain ⟨p1, hp1⟩ : ∃ p, Qy.numS lx 1073741824 s = p := ⟨_, rfl⟩
 obtain ⟨s2, hs2⟩ : ∃ p, Qy.needS [44] p1.2 = p := ⟨_, rfl⟩
 obtain ⟨p3, hp3⟩ : ∃ p, Qy.numS ly 1073741824 s2 = p := ⟨_, rfl⟩
 have HP : Qy.pointS lx ly s = ((p1.1, p3.1), p3.2) := by unfold Qy.pointS; simp only [hp1, hs2, hp3]
 rw [HP]
 have HN1 : Hid (∀ u, RfAt B r s u → Calls Tryz.prog 40 #[.pointer (some ⟨r, 0, none⟩), .int .i64 lx, .int .i64 1073741824] u (EndF B r u p1 intV)) := Lib.hid fun u k => hp1 ▸ H1.out s u k
 have HN2 : Hid (∀ u, RfAt B r p1.2 u → Calls Tryz.prog 39 #[.pointer (some ⟨r, 0, none⟩), .string ⟨#[44]⟩] u fun e w' => e = .returned (.tuple #[]) ∧ At1 r u w' ∧ RfAt B r s2 w') := Lib.hid fun u k => hs2 ▸ H2.out p1.2 u k
 have HN3 : Hid (∀ u, RfAt B r s2 u → Calls Tryz.prog 40 #[.pointer (some ⟨r, 0, none⟩), .int .i64 ly, .int .i64 1073741824] u (EndF B r u p3 intV)) := Lib.hid fun u k => hp3 ▸ H3.out s2 u k
 clear HP hp1 hs2 hp3 H1 H2 H3
 obtain ⟨x, s1⟩ := p1
 obtain ⟨y, s3⟩ := p3
 go_enter Tryz.func117, Tryz.ntmps117
 go_upto_region 1 with fail
 refine wp_new1 fun W0 hA hB => ?_
 have k1 := h.on hB
 have K0 := Lib.hid (At1.of_below (r := r) hB)
 have gA : w.heap.size ≠ r := by omega
 have gB : B ≤ w.heap.size := HBw.out
 have zA : w.heap.size < W0.heap.size := hA.lt
 clear hB h
 go_wp2_with fail
 refine (HN1.out _ k1).mono ?_
 rintro e2 w1 ⟨k2, ⟨v, rfl, rfl⟩, k3⟩
 have hA1 := hA.at1 k2 gA
 have K1 := Lib.hid (K0.out.trans k2)
 have z1 : w.heap.size < w1.heap.size := Nat.lt_of_lt_of_le zA k2.size
 clear k1 k2 hA
 go_upto_region 2 with fail
 refine wp_new1 fun W1 hP kn => ?_
 obtain ⟨g, hg⟩ : ∃ g, w1.heap.size = g := ⟨_, rfl⟩
 rw [hg] at hP kn z1 ⊢
 have k4 := k3.on (hg ▸ kn)
 have hA2 := hA1.on (hg ▸ kn)
 have K2 := Lib.hid (K1.out.trans (At1.of_below (r := r) (hg ▸ kn)))
 have gR : g ≠ r := by omega
 have gBg : B ≤ g := by omega
 clear k3 hA1 K1 kn hg K0
 go_wp2_with fail
 refine (HN2.out _ k4).mono ?_
 rintro e2 w2 ⟨rfl, k5, k6⟩
 have hA3 := hA2.at1 k5 gA
 have hP3 := hP.at1 k5 gR
 have K3 := Lib.hid (K2.out.trans k5)
 clear k4 k5 hA2 hP
 go_wp2_with fail
 refine (HN3.out _ k6).mono ?_
 rintro e2 w3 ⟨k7, ⟨v, rfl, rfl⟩, k8⟩
 have hA4 := hA3.at1 k7 gA
 have hP4 := hP3.at1 k7 gR
 obtain ⟨c0, c1, f0, f1⟩ := hP4.all2
 obtain ⟨z0, z1_, d0, d1⟩ := hA4.all2
 have HA4 := Lib.hid hA4
 have HP4 := Lib.hid hP4
 have K4 := Lib.hid (K3.out.trans k7)
 have HK8 := Lib.hid k8
 have hne : ¬ (w.heap.size = g) := by omega
 have hne2 : ¬ (g = w.heap.size) := by omega
 clear k6 k7 k8 hA3 hP3 hA4 hP4
 go_wp2
 have hA5 := ((HA4.out.at1 (At1.set_ (r := g) w3 (p := ⟨g, 1, none⟩) rfl (.int .i64 y)) hne).set_ 0 (.int .i64 x)).set_ 1 (.int .i64 y)
 obtain ⟨q0, q1, _⟩ := hA5.all2
 exact bodyPost_ret (v := .agg #[.int .i64 x, .int .i64 y]) (by simp [results, Tryz.results117, go_sem, q0, q1]) rfl ⟨((K4.out.setNew (p := ⟨g, 1, none⟩) (Nat.le_of_lt z1) _).setNew (p := ⟨w.heap.size, 0, none⟩) (Nat.le_refl _) _).setNew (p := ⟨w.heap.size, 1, none⟩) (Nat.le_refl _) _, ⟨_, rfl, rfl⟩, ((HK8.out.far gBg 1 _).far gB 0 _).far gB 1 _⟩
end Go.Proofs.YtmlpibdincfgbaaGreatDoor
