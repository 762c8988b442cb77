/-
  Package query: in, digits, names, numbers, points.
-/
import Derived.Test.YtmlpibdincfgbaaDoorK6
import Derived.Test.YtmlpibdincfgbaaDoorShelf
namespace Go.Proofs.YtmlpibdincfgbaaDoor
open Go.RowKit

set_option maxRecDepth 100000 in
theorem in_any (n lo hi : Int) (w : World) : Calls Tryd.prog 78 #[.int .i64 n, .int .i64 lo, .int .i64 hi] w fun e w' => e = .returned (.bool (decide (lo ≤ n) && decide (n ≤ hi))) ∧ w' = w := by
  by_cases h1 : lo ≤ n
  · by_cases h2 : n ≤ hi
    · rw [decide_eq_true h1, decide_eq_true h2]
      go_enter Tryd.func78, Tryd.ntmps78
      go_wp2
      go_returns
      exact ⟨by simp, rfl⟩
    · rw [decide_eq_true h1, decide_eq_false h2]
      go_enter Tryd.func78, Tryd.ntmps78
      go_wp2
      go_returns
      exact ⟨by simp, rfl⟩
  · rw [decide_eq_false h1]
    go_enter Tryd.func78, Tryd.ntmps78
    go_wp2
    go_returns
    exact ⟨by simp, rfl⟩
set_option maxRecDepth 100000 in
theorem digit_any (c : UInt8) (w : World) : Calls Tryd.prog 51 #[.int .u8 (c.toNat : Int)] w fun e w' => e = .returned (.bool (Qy.isD c)) ∧ w' = w := by
  unfold Qy.isD
  generalize c.toNat = n
  by_cases h1 : 48 ≤ n
  · by_cases h2 : n ≤ 57
    · have k1 : (48 : Int) ≤ (n : Int) := by omega
      have k2 : (n : Int) ≤ 57 := by omega
      rw [decide_eq_true h1, decide_eq_true h2]
      go_enter Tryd.func51, Tryd.ntmps51
      go_wp2
      go_returns
      exact ⟨by simp, rfl⟩
    · have k1 : (48 : Int) ≤ (n : Int) := by omega
      have k2 : ¬ (n : Int) ≤ 57 := by omega
      rw [decide_eq_true h1, decide_eq_false h2]
      go_enter Tryd.func51, Tryd.ntmps51
      go_wp2
      go_returns
      exact ⟨by simp, rfl⟩
  · have k1 : ¬ (48 : Int) ≤ (n : Int) := by omega
    rw [decide_eq_false h1]
    go_enter Tryd.func51, Tryd.ntmps51
    go_wp2
    go_returns
    exact ⟨by simp, rfl⟩
set_option maxRecDepth 100000 in
set_option maxHeartbeats 1600000 in
theorem inWord_any (c : UInt8) (w : World) : Calls Tryd.prog 50 #[.int .u8 (c.toNat : Int)] w fun e w' => e = .returned (.bool (Qy.isW c)) ∧ w' = w := by
  have HL := Lib.hid (fun u => letter_any c u)
  have HD := Lib.hid (fun u => digit_any c u)
  have he : (c == 45) = decide ((c.toNat : Int) = 45) := by
    rw [Bool.eq_iff_iff]
    simp only [beq_iff_eq, decide_eq_true_eq]
    constructor
    · rintro rfl; rfl
    · intro h
      apply UInt8.toNat.inj
      show c.toNat = 45
      omega
  have hw : Qy.isW c = (Qy.isL c || Qy.isD c || decide ((c.toNat : Int) = 45)) := by unfold Qy.isW; rw [he]
  rw [hw]
  clear hw he
  generalize Qy.isL c = a at HL ⊢
  generalize Qy.isD c = b at HD ⊢
  generalize (c.toNat : Int) = n at *
  cases a
  · cases b
    · by_cases h : n = 45
      · rw [decide_eq_true h]
        subst h
        go_enter Tryd.func50, Tryd.ntmps50
        go_wp2_with fail
        refine (HL.out _).mono ?_
        rintro e w1 ⟨rfl, rfl⟩
        go_wp2_with fail
        refine (HD.out _).mono ?_
        rintro e w1 ⟨rfl, rfl⟩
        go_wp2
        go_returns
        exact ⟨by simp, rfl⟩
      · rw [decide_eq_false h]
        go_enter Tryd.func50, Tryd.ntmps50
        go_wp2_with fail
        refine (HL.out _).mono ?_
        rintro e w1 ⟨rfl, rfl⟩
        go_wp2_with fail
        refine (HD.out _).mono ?_
        rintro e w1 ⟨rfl, rfl⟩
        go_wp2
        go_returns
        exact ⟨by simp [h], rfl⟩
    · go_enter Tryd.func50, Tryd.ntmps50
      go_wp2_with fail
      refine (HL.out _).mono ?_
      rintro e w1 ⟨rfl, rfl⟩
      go_wp2_with fail
      refine (HD.out _).mono ?_
      rintro e w1 ⟨rfl, rfl⟩
      go_wp2
      go_returns
      exact ⟨by simp, rfl⟩
  · go_enter Tryd.func50, Tryd.ntmps50
    go_wp2_with fail
    refine (HL.out _).mono ?_
    rintro e w1 ⟨rfl, rfl⟩
    go_wp2
    go_returns
    exact ⟨by simp, rfl⟩
end Go.Proofs.YtmlpibdincfgbaaDoor
