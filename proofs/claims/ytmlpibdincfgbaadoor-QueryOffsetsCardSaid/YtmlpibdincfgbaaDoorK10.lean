/-
  Package query: names.
-/
import Derived.Test.YtmlpibdincfgbaaDoorK9
namespace Go.Proofs.YtmlpibdincfgbaaDoor
open Go.RowKit

theorem bs_at (t : Qy.Bs) (i : Nat) (c : UInt8) (h : t[i]? = some c) : ∀ hi : i < (bs t).size, (bs t)[i]'hi = c := fun hi => by
  have h2 : i < t.length := (List.getElem?_eq_some_iff.1 h).1
  have h3 : t[i] = c := (List.getElem?_eq_some_iff.1 h).2
  exact h3
set_option maxRecDepth 100000 in
set_option maxHeartbeats 3200000 in
theorem name_any (t : Qy.Bs) (w : World) : Calls Tryd.prog 82 #[.string (bs t)] w fun e w' => e = .returned (.bool (Qy.nameOK t)) ∧ w' = w := by
  obtain ⟨n, hn⟩ : ∃ n, t.length = n := ⟨_, rfl⟩
  have hsz : (bs t).size = n := by rw [bs_size, hn]
  have HIn : Hid (∀ u, Calls Tryd.prog 78 #[.int .i64 (n : Int), .int .i64 1, .int .i64 16] u fun e w' => e = .returned (.bool (decide (1 ≤ n) && decide (n ≤ 16))) ∧ w' = u) := Lib.hid fun u => by
    have := in_any (n : Int) 1 16 u
    rwa [show decide ((1 : Int) ≤ (n : Int)) = decide (1 ≤ n) by rw [decide_eq_decide]; omega, show decide ((n : Int) ≤ 16) = decide (n ≤ 16) by rw [decide_eq_decide]; omega] at this
  have HOK : Qy.nameOK t = (decide (1 ≤ n) && decide (n ≤ 16) && Qy.isL (t.headD 0) && t.all Qy.isW) := by unfold Qy.nameOK; rw [hn]
  by_cases hl : 1 ≤ n ∧ n ≤ 16
  · obtain ⟨h1, h2⟩ := hl
    rw [decide_eq_true h1, decide_eq_true h2] at HIn HOK
    simp only [Bool.true_and] at HIn HOK
    obtain ⟨c, hc0⟩ : ∃ c, t[0]? = some c := ⟨_, List.getElem?_eq_getElem (by omega)⟩
    have hhd : t.headD 0 = c := by
      cases t with
      | nil => cases hc0
      | cons x r => simpa using hc0
    rw [hhd] at HOK
    have hx0 := bs_at t 0 c hc0
    have HLt := Lib.hid fun u => letter_any c u
    have hx1 : (0 : Int) < (n : Int) := by omega
    have HAt := Lib.hid fun (i : Nat) (c : UInt8) (h : t[i]? = some c) => bs_at t i c h
    have HN := Lib.hid hn
    obtain ⟨sd, hsd⟩ : ∃ sd, bs t = sd := ⟨_, rfl⟩
    rw [hsd] at hsz hx0 HAt ⊢
    clear hsd hhd hc0 hn
    by_cases hL : Qy.isL c = true
    · rw [hL] at HLt HOK
      simp only [Bool.true_and] at HOK
      rw [HOK]
      obtain ⟨b, hb⟩ : ∃ b, t.all Qy.isW = b := ⟨_, rfl⟩
      have HB := Lib.hid hb
      rw [hb]
      clear hb HOK hL
      go_enter Tryd.func82, Tryd.ntmps82
      go_wp2_with fail
      refine (HIn.out _).mono ?_
      rintro e w1 ⟨rfl, e_⟩
      subst e_
      go_wp2_with fail
      refine (HLt.out _).mono ?_
      rintro e w2 ⟨rfl, e_⟩
      subst e_
      clear HLt HIn hx0
      go_wp2_with fail
      go_loopw [16] (fun s wr => ∃ i : Nat, i ≤ n ∧ s = .int .i64 (i : Int) ∧ (t.take i).all Qy.isW = true ∧ wr = w2) (fun s _ => n - (intOf s).toNat)
      case atStart => exact ⟨0, by omega, rfl, by simp, rfl⟩
      case round =>
        obtain ⟨i, hi, rfl, hal, rfl⟩ := hrel
        rcases Nat.lt_or_eq_of_le hi with hlt | heq
        · have i0 : (0 : Int) ≤ (i : Int) := by omega
          have i1 : (i : Int) < (n : Int) := by omega
          obtain ⟨d, hd⟩ : ∃ d, t[i]? = some d := ⟨_, List.getElem?_eq_getElem (by have := HN.out; omega)⟩
          have hx := HAt.out i d hd
          have HW := Lib.hid fun u => inWord_any d u
          have HT := Lib.hid (show t.take (i + 1) = t.take i ++ [d] by rw [List.take_add_one, hd]; rfl)
          have HAl := Lib.hid hal
          have HM := Lib.hid (List.mem_of_getElem? hd)
          clear hal hd
          by_cases hw : Qy.isW d = true
          · rw [hw] at HW
            have HW2 := Lib.hid hw
            clear hw
            go_wp2_with fail
            refine (HW.out _).mono ?_
            rintro e w3 ⟨rfl, e_⟩
            subst e_
            go_wp2_with fail
            go_roundw
            case rel => exact ⟨i + 1, by omega, by go_num, by rw [HT.out, List.all_append, HAl.out]; simp [HW2.out], by first | rfl | trivial⟩
            case measure => simp [intOf]; omega
          · have hwf : Qy.isW d = false := by simpa using hw
            have hbf : b = false := by
              rw [← HB.out, List.all_eq_false]
              exact ⟨d, HM.out, by simp [hwf]⟩
            rw [hwf] at HW
            subst hbf
            clear hw hwf
            go_wp2_with fail
            refine (HW.out _).mono ?_
            rintro e w3 ⟨rfl, e_⟩
            subst e_
            go_wp2
            go_returns
            exact ⟨rfl, rfl⟩
        · subst heq
          have hbt : b = true := by
            have h1 := HN.out
            rw [List.take_of_length_le (by omega)] at hal
            exact HB.out.symm.trans hal
          subst hbt
          clear hal
          go_wp2
          go_returns
          exact ⟨rfl, rfl⟩
    · have hLf : Qy.isL c = false := by simpa using hL
      rw [hLf] at HLt HOK
      simp only [Bool.false_and] at HOK
      rw [HOK]
      clear HOK hL hLf
      go_enter Tryd.func82, Tryd.ntmps82
      go_wp2_with fail
      refine (HIn.out _).mono ?_
      rintro e w1 ⟨rfl, e_⟩
      subst e_
      go_wp2_with fail
      refine (HLt.out _).mono ?_
      rintro e w2 ⟨rfl, e_⟩
      subst e_
      go_wp2
      go_returns
      exact ⟨rfl, rfl⟩
  · have hno : (decide (1 ≤ n) && decide (n ≤ 16)) = false := by
      rw [Bool.and_eq_false_iff]
      simp only [decide_eq_false_iff_not]
      omega
    rw [hno] at HIn HOK
    simp only [Bool.false_and] at HOK
    rw [HOK]
    clear HOK hno hl hn
    go_enter Tryd.func82, Tryd.ntmps82
    go_wp2_with fail
    refine (HIn.out _).mono ?_
    rintro e w1 ⟨rfl, e_⟩
    subst e_
    go_wp2
    go_returns
    exact ⟨rfl, rfl⟩
end Go.Proofs.YtmlpibdincfgbaaDoor
