/-
  Chapter 38's reference: names, items.
-/
import Derived.Test.YtmlpibdincfgbaaDoorM5
namespace Qy
theorem eq45 (c : UInt8) : c = 45 ↔ c.toNat = 45 := by
  constructor
  · rintro rfl; rfl
  · intro h
    apply UInt8.toNat.inj
    exact h
theorem cls_isL {c : UInt8} (h : isL c = true) : cls c.toNat = 1 := by
  simp only [isL, Bool.and_eq_true, decide_eq_true_eq] at h
  unfold cls
  rw [if_neg (by omega), if_pos h]
theorem cls_notL {c : UInt8} (h : isL c = false) : cls c.toNat ≠ 1 := by
  simp only [isL, Bool.and_eq_false_iff, decide_eq_false_iff_not] at h
  unfold cls
  repeat' split
  all_goals omega
theorem cls_isW {c : UInt8} (h : isW c = true) : 1 ≤ cls c.toNat ∧ cls c.toNat ≤ 3 := by
  simp only [isW, isL, isD, Bool.or_eq_true, Bool.and_eq_true, decide_eq_true_eq, beq_iff_eq, eq45] at h
  unfold cls
  repeat' split
  all_goals omega
theorem cls_notW {c : UInt8} (h : isW c = false) : cls c.toNat < 1 ∨ 3 < cls c.toNat := by
  simp only [isW, isL, isD, Bool.or_eq_false_iff, Bool.and_eq_false_iff, decide_eq_false_iff_not, beq_eq_false_iff_ne, ne_eq, eq45] at h
  unfold cls
  repeat' split
  all_goals omega
/-- The words of the kinds. -/
def kws : List Bs := [[119, 104, 111, 108, 101], [110, 97, 109, 101, 100], [97, 116], [119, 105, 116, 104, 105, 110], [97, 108, 108], [97, 110, 121], [110, 111, 116]]
def kindOf (t : Bs) : Int := if t = [119, 104, 111, 108, 101] then 0 else if t = [110, 97, 109, 101, 100] then 1 else if t = [97, 116] then 2 else if t = [119, 105, 116, 104, 105, 110] then 3 else if t = [97, 108, 108] then 4 else if t = [97, 110, 121] then 5 else if t = [110, 111, 116] then 6 else -1
theorem kws_lt {i : Nat} {x : Bs} (h : kws[i]? = some x) : i < 7 := (List.getElem?_eq_some_iff.1 h).1
theorem kind_at (t : Bs) (i : Nat) (x : Bs) (hx : kws[i]? = some x) : x = t ↔ kindOf t = (i : Int) := by
  have h := kws_lt hx
  by_cases h0 : t = [119, 104, 111, 108, 101]
  · subst h0; match i, h, hx with | 0, _, hx => cases hx; decide | 1, _, hx => cases hx; decide | 2, _, hx => cases hx; decide | 3, _, hx => cases hx; decide | 4, _, hx => cases hx; decide | 5, _, hx => cases hx; decide | 6, _, hx => cases hx; decide
  by_cases h1 : t = [110, 97, 109, 101, 100]
  · subst h1; match i, h, hx with | 0, _, hx => cases hx; decide | 1, _, hx => cases hx; decide | 2, _, hx => cases hx; decide | 3, _, hx => cases hx; decide | 4, _, hx => cases hx; decide | 5, _, hx => cases hx; decide | 6, _, hx => cases hx; decide
  by_cases h2 : t = [97, 116]
  · subst h2; match i, h, hx with | 0, _, hx => cases hx; decide | 1, _, hx => cases hx; decide | 2, _, hx => cases hx; decide | 3, _, hx => cases hx; decide | 4, _, hx => cases hx; decide | 5, _, hx => cases hx; decide | 6, _, hx => cases hx; decide
  by_cases h3 : t = [119, 105, 116, 104, 105, 110]
  · subst h3; match i, h, hx with | 0, _, hx => cases hx; decide | 1, _, hx => cases hx; decide | 2, _, hx => cases hx; decide | 3, _, hx => cases hx; decide | 4, _, hx => cases hx; decide | 5, _, hx => cases hx; decide | 6, _, hx => cases hx; decide
  by_cases h4 : t = [97, 108, 108]
  · subst h4; match i, h, hx with | 0, _, hx => cases hx; decide | 1, _, hx => cases hx; decide | 2, _, hx => cases hx; decide | 3, _, hx => cases hx; decide | 4, _, hx => cases hx; decide | 5, _, hx => cases hx; decide | 6, _, hx => cases hx; decide
  by_cases h5 : t = [97, 110, 121]
  · subst h5; match i, h, hx with | 0, _, hx => cases hx; decide | 1, _, hx => cases hx; decide | 2, _, hx => cases hx; decide | 3, _, hx => cases hx; decide | 4, _, hx => cases hx; decide | 5, _, hx => cases hx; decide | 6, _, hx => cases hx; decide
  by_cases h6 : t = [110, 111, 116]
  · subst h6; match i, h, hx with | 0, _, hx => cases hx; decide | 1, _, hx => cases hx; decide | 2, _, hx => cases hx; decide | 3, _, hx => cases hx; decide | 4, _, hx => cases hx; decide | 5, _, hx => cases hx; decide | 6, _, hx => cases hx; decide
  have e : kindOf t = -1 := by
    unfold kindOf
    rw [if_neg h0, if_neg h1, if_neg h2, if_neg h3, if_neg h4, if_neg h5, if_neg h6]
  rw [e]
  refine ⟨fun k => ?_, fun k => by omega⟩
  match i, h, hx with
  | 0, _, hx => cases hx; exact absurd k.symm h0
  | 1, _, hx => cases hx; exact absurd k.symm h1
  | 2, _, hx => cases hx; exact absurd k.symm h2
  | 3, _, hx => cases hx; exact absurd k.symm h3
  | 4, _, hx => cases hx; exact absurd k.symm h4
  | 5, _, hx => cases hx; exact absurd k.symm h5
  | 6, _, hx => cases hx; exact absurd k.symm h6
theorem kind_cases (t : Bs) : (kindOf t = 0 ∧ t = [119, 104, 111, 108, 101]) ∨ (kindOf t = 1 ∧ t = [110, 97, 109, 101, 100]) ∨ (kindOf t = 2 ∧ t = [97, 116]) ∨ (kindOf t = 3 ∧ t = [119, 105, 116, 104, 105, 110]) ∨ (kindOf t = 4 ∧ t = [97, 108, 108]) ∨ (kindOf t = 5 ∧ t = [97, 110, 121]) ∨ (kindOf t = 6 ∧ t = [110, 111, 116]) ∨
    (kindOf t = -1 ∧ t ≠ [119, 104, 111, 108, 101] ∧ t ≠ [110, 97, 109, 101, 100] ∧ t ≠ [97, 116] ∧ t ≠ [119, 105, 116, 104, 105, 110] ∧ t ≠ [97, 108, 108] ∧ t ≠ [97, 110, 121] ∧ t ≠ [110, 111, 116]) := by
  by_cases h0 : t = [119, 104, 111, 108, 101]
  · subst h0; exact .inl ⟨by decide, rfl⟩
  by_cases h1 : t = [110, 97, 109, 101, 100]
  · subst h1; exact .inr (.inl ⟨by decide, rfl⟩)
  by_cases h2 : t = [97, 116]
  · subst h2; exact .inr (.inr (.inl ⟨by decide, rfl⟩))
  by_cases h3 : t = [119, 105, 116, 104, 105, 110]
  · subst h3; exact .inr (.inr (.inr (.inl ⟨by decide, rfl⟩)))
  by_cases h4 : t = [97, 108, 108]
  · subst h4; exact .inr (.inr (.inr (.inr (.inl ⟨by decide, rfl⟩))))
  by_cases h5 : t = [97, 110, 121]
  · subst h5; exact .inr (.inr (.inr (.inr (.inr (.inl ⟨by decide, rfl⟩)))))
  by_cases h6 : t = [110, 111, 116]
  · subst h6; exact .inr (.inr (.inr (.inr (.inr (.inr (.inl ⟨by decide, rfl⟩))))))
  refine .inr (.inr (.inr (.inr (.inr (.inr (.inr ⟨?_, h0, h1, h2, h3, h4, h5, h6⟩))))))
  unfold kindOf
  rw [if_neg h0, if_neg h1, if_neg h2, if_neg h3, if_neg h4, if_neg h5, if_neg h6]
theorem kind_bd (t : Bs) : kindOf t < 7 := by
  rcases kind_cases t with h | h | h | h | h | h | h | h <;> rw [h.1] <;> decide
end Qy
namespace Go.Proofs.YtmlpibdincfgbaaDoor
open Go.RowKit
set_option linter.unusedSimpArgs false
set_option linter.unusedVariables false

set_option maxRecDepth 100000 in
set_option maxHeartbeats 3200000 in
theorem named_any (t : Qy.Bs) (w : World) : Calls Tryd.prog 85 #[.string (bs t)] w fun e w' => e = .returned (.bool (Qy.nameOK t)) ∧ w' = w := by
  obtain ⟨n, hn⟩ : ∃ n, t.length = n := ⟨_, rfl⟩
  have hsz : (bs t).size = n := by rw [bs_size, hn]
  have HOK : Qy.nameOK t = (decide (1 ≤ n) && decide (n ≤ 16) && Qy.isL (t.headD 0) && t.all Qy.isW) := by unfold Qy.nameOK; rw [hn]
  by_cases hl : 1 ≤ n ∧ n ≤ 16
  · obtain ⟨h1, h2⟩ := hl
    rw [decide_eq_true h1, decide_eq_true h2] at HOK
    simp only [Bool.true_and] at HOK
    obtain ⟨c, hc0⟩ : ∃ c, t[0]? = some c := ⟨_, List.getElem?_eq_getElem (by omega)⟩
    have hhd : t.headD 0 = c := by
      cases t with
      | nil => cases hc0
      | cons x r => simpa using hc0
    rw [hhd] at HOK
    have hx0 := bs_at t 0 c hc0
    have HCl := Lib.hid fun u => class_any c u
    have hx1 : (0 : Int) < (n : Int) := by omega
    have hx2 : ¬ ((n : Int) < 1) := by omega
    have hx3 : ¬ ((16 : Int) < (n : Int)) := by omega
    have HAt := Lib.hid fun (i : Nat) (c : UInt8) (h : t[i]? = some c) => bs_at t i c h
    have HN := Lib.hid hn
    obtain ⟨sd, hsd⟩ : ∃ sd, bs t = sd := ⟨_, rfl⟩
    rw [hsd] at hsz hx0 HAt ⊢
    clear hsd hhd hc0 hn
    by_cases hL : Qy.isL c = true
    · rw [Qy.cls_isL hL] at HCl
      rw [hL] at HOK
      simp only [Bool.true_and] at HOK
      rw [HOK]
      obtain ⟨b, hb⟩ : ∃ b, t.all Qy.isW = b := ⟨_, rfl⟩
      have HB := Lib.hid hb
      rw [hb]
      clear hb HOK hL
      go_enter Tryd.func85, Tryd.ntmps85
      go_wp2_with fail
      refine (HCl.out _).mono ?_
      rintro e w2 ⟨rfl, e_⟩
      subst e_
      clear HCl hx0
      go_wp2_with fail
      go_loopw [3] (fun s wr => ∃ i : Nat, i ≤ n ∧ s = .int .i64 (i : Int) ∧ (t.take i).all Qy.isW = true ∧ wr = w2) (fun s _ => n - (intOf s).toNat)
      case atStart => exact ⟨0, by omega, rfl, by simp, rfl⟩
      case round =>
        obtain ⟨i, hi, rfl, hal, rfl⟩ := hrel
        rcases Nat.lt_or_eq_of_le hi with hlt | heq
        · have i0 : (0 : Int) ≤ (i : Int) := by omega
          have i1 : (i : Int) < (n : Int) := by omega
          obtain ⟨d, hd⟩ : ∃ d, t[i]? = some d := ⟨_, List.getElem?_eq_getElem (by have := HN.out; omega)⟩
          have hx := HAt.out i d hd
          have HW := Lib.hid fun u => class_any d u
          have HT := Lib.hid (show t.take (i + 1) = t.take i ++ [d] by rw [List.take_add_one, hd]; rfl)
          have HAl := Lib.hid hal
          have HM := Lib.hid (List.mem_of_getElem? hd)
          obtain ⟨k, hk⟩ : ∃ k, Qy.cls d.toNat = k := ⟨_, rfl⟩
          rw [hk] at HW
          clear hal hd
          by_cases hw : Qy.isW d = true
          · have hkk := Qy.cls_isW hw
            rw [hk] at hkk
            have k1 : ¬ ((k : Int) < 1) := by omega
            have k2 : ¬ ((3 : Int) < (k : Int)) := by omega
            have HW2 := Lib.hid hw
            clear hw hkk hk
            go_wp2_with fail
            refine (HW.out _).mono ?_
            rintro e w3 ⟨rfl, e_⟩
            subst e_
            go_wp2_with fail
            go_roundw
            case rel => exact ⟨i + 1, by omega, by go_num, by rw [HT.out, List.all_append, HAl.out]; simp [HW2.out], by first | rfl | trivial⟩
            case measure => simp [intOf]; omega
          · have hwf : Qy.isW d = false := by simpa using hw
            have hbf : b = false := by
              rw [← HB.out, List.all_eq_false]
              exact ⟨d, HM.out, by simp [hwf]⟩
            subst hbf
            have hkk := Qy.cls_notW hwf
            rw [hk] at hkk
            clear hw hwf hk
            rcases hkk with hkk | hkk
            · have k1 : (k : Int) < 1 := by omega
              clear hkk
              go_wp2_with fail
              refine (HW.out _).mono ?_
              rintro e w3 ⟨rfl, e_⟩
              subst e_
              go_wp2
              go_returns
              exact ⟨rfl, rfl⟩
            · have k1 : ¬ ((k : Int) < 1) := by omega
              have k2 : (3 : Int) < (k : Int) := by omega
              clear hkk
              go_wp2_with fail
              refine (HW.out _).mono ?_
              rintro e w3 ⟨rfl, e_⟩
              subst e_
              go_wp2
              go_returns
              exact ⟨rfl, rfl⟩
        · subst heq
          have hbt : b = true := by
            have h1 := HN.out
            rw [List.take_of_length_le (by omega)] at hal
            exact HB.out.symm.trans hal
          subst hbt
          clear hal
          go_wp2
          go_returns
          exact ⟨rfl, rfl⟩
    · have hLf : Qy.isL c = false := by simpa using hL
      have hcl := Qy.cls_notL hLf
      rw [hLf] at HOK
      simp only [Bool.false_and] at HOK
      rw [HOK]
      obtain ⟨k, hk⟩ : ∃ k, Qy.cls c.toNat = k := ⟨_, rfl⟩
      rw [hk] at HCl hcl
      have hk2 : ¬ ((k : Int) = 1) := by omega
      clear HOK hL hLf hk hcl
      go_enter Tryd.func85, Tryd.ntmps85
      go_wp2_with fail
      refine (HCl.out _).mono ?_
      rintro e w2 ⟨rfl, e_⟩
      subst e_
      go_wp2
      go_returns
      exact ⟨rfl, rfl⟩
  · have hno : (decide (1 ≤ n) && decide (n ≤ 16)) = false := by
      rw [Bool.and_eq_false_iff]
      simp only [decide_eq_false_iff_not]
      omega
    rw [hno] at HOK
    simp only [Bool.false_and] at HOK
    rw [HOK]
    by_cases h0 : n < 1
    · have k1 : (n : Int) < 1 := by omega
      clear HOK hno hl hn h0
      go_enter Tryd.func85, Tryd.ntmps85
      go_wp2
      go_returns
      exact ⟨rfl, rfl⟩
    · have k1 : ¬ ((n : Int) < 1) := by omega
      have k2 : (16 : Int) < (n : Int) := by omega
      clear HOK hno hl hn h0
      go_enter Tryd.func85, Tryd.ntmps85
      go_wp2
      go_returns
      exact ⟨rfl, rfl⟩
end Go.Proofs.YtmlpibdincfgbaaDoor
