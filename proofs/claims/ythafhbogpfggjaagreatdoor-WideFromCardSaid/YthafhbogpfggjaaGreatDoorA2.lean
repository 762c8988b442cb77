/-
  Contract of the reference model of chapter 01: Decimal.
-/
import Derived.Test.YthafhbogpfggjaaGreatDoorA1
import Derived.Test.YthafhbogpfggjaaGreatDoorT1
namespace Go.Proofs.YthafhbogpfggjaaGreatDoor
open Go.RowKit
open DecM

theorem digit_at (d : Nat) (h : d < 10) : ((⟨#[48, 49, 50, 51, 52, 53, 54, 55, 56, 57]⟩ : ByteArray).extract d (d + 1)) = ⟨#[UInt8.ofNat (48 + d)]⟩ := by
  rcases (by omega : d = 0 ∨ d = 1 ∨ d = 2 ∨ d = 3 ∨ d = 4 ∨ d = 5 ∨ d = 6 ∨ d = 7 ∨ d = 8 ∨ d = 9) with rfl | rfl | rfl | rfl | rfl | rfl | rfl | rfl | rfl | rfl <;> rfl
/-- The digits that are still to be written, ahead of those that are. -/
def DecSt (m j : Nat) (sd : ByteArray) : Prop := (if j = 0 then [] else Lib.decDigits j) ++ sd.data.toList = Lib.decDigits m
theorem DecSt.start {m : Nat} (h : 0 < m) : DecSt m m ⟨#[]⟩ := by unfold DecSt; rw [if_neg (by omega)]; simp
theorem DecSt.done {m : Nat} {sd : ByteArray} (h : DecSt m 0 sd) : sd.data.toList = Lib.decDigits m := h
theorem DecSt.next {m j : Nat} {sd : ByteArray} (h : DecSt m j sd) (hj : 0 < j) : DecSt m (j / 10) (⟨#[UInt8.ofNat (48 + j % 10)]⟩ ++ sd) := by
  have e1 : Lib.decDigits j ++ sd.data.toList = Lib.decDigits m := by
    unfold DecSt at h
    rwa [if_neg (by omega)] at h
  have e2 : (⟨#[UInt8.ofNat (48 + j % 10)]⟩ ++ sd : ByteArray).data.toList = UInt8.ofNat (48 + j % 10) :: sd.data.toList := str_cat _ _
  unfold DecSt
  rw [e2, ← e1]
  by_cases h10 : j < 10
  · rw [if_pos (by omega), dec_small h10, Nat.mod_eq_of_lt h10]; rfl
  · rw [if_neg (by omega), dec_big (by omega : 10 ≤ j), List.append_assoc]; rfl
theorem DecSt.size {m j : Nat} {sd : ByteArray} (h : DecSt m j sd) (hm : m ≤ 9223372036854775808) : sd.size ≤ 19 := by
  have h1 := dec_length_le (k := 19) (n := m) (by omega) (by omega)
  have h2 := congrArg List.length h
  rw [List.length_append] at h2
  rw [str_size (s := sd) rfl]
  omega
theorem DecSt.pos {m j : Nat} {sd : ByteArray} (h : DecSt m j sd) (hj : 0 < j) {a b : Nat} (ha : a = j % 10) (hb : b = j % 10 + 1) :
    DecSt m (j / 10) ((⟨#[48, 49, 50, 51, 52, 53, 54, 55, 56, 57]⟩ : ByteArray).extract a b ++ sd) := by
  subst ha hb
  rw [digit_at _ (by omega)]
  exact h.next hj
theorem DecSt.text {m : Nat} {sd : ByteArray} (h : DecSt m 0 sd) : sd = ⟨(Lib.decDigits m).toArray⟩ := str_eq h.done
theorem itoa_neg {m : Nat} (h : 0 < m) : Lib.itoa (-(m : Int)) = 45 :: Lib.decDigits m := by
  unfold Lib.itoa
  rw [if_pos (by omega), show (-(m : Int)).natAbs = m by omega]
theorem itoa_nat (m : Nat) : Lib.itoa (m : Int) = Lib.decDigits m := by
  unfold Lib.itoa
  rw [if_neg (by omega), Int.toNat_natCast]
set_option maxRecDepth 100000 in
set_option maxHeartbeats 800000 in
theorem Decimal_any (n : Int) (w : World) (n0 : -9223372036854775808 ≤ n) (n1 : n ≤ 9223372036854775807) : Calls Tryz.prog 111 #[.int .i64 n] w (TxtPost w (Lib.itoa n)) := by
  go_enter Tryz.func111, Tryz.ntmps111
  rcases Int.lt_trichotomy n 0 with h | h | h
  · obtain ⟨m, rfl⟩ : ∃ m : Nat, n = -(m : Int) := ⟨n.natAbs, by omega⟩
    have hm : 0 < m := by omega
    have hmx : m ≤ 9223372036854775808 := by omega
    have hst := Lib.hid (DecSt.start hm)
    go_wp2_with fail
    go_loop [4, 5] (fun s4 s5 => ∃ (j : Nat) (sd : ByteArray), j ≤ m ∧ s5 = .int .i64 (-(j : Int)) ∧ s4 = .string sd ∧ Hid (DecSt m j sd)) (fun _ s5 => (intOf s5).natAbs)
    case atStart => exact ⟨m, _, Nat.le_refl _, rfl, rfl, hst⟩
    case round =>
      obtain ⟨j, sd, hj, rfl, rfl, hd⟩ := hrel
      have hsz := hd.out.size hmx
      rcases Nat.eq_zero_or_pos j with h0 | h0
      · subst h0
        have hf : Lib.itoa (-(m : Int)) = 45 :: sd.data.toList := by rw [itoa_neg hm, hd.out.done]
        have HF := Lib.hid hf
        clear hf
        go_wp2
        go_returns
        refine ⟨?_, by go_grown⟩
        rw [HF.out]
        exact congrArg (fun s => Ending.returned (.string s)) (str_eq (str_cat _ _))
      · rcases Nat.eq_zero_or_pos (j % 10) with hz | hz
        · have hz2 : (j : Int) % 10 = 0 := by omega
          have HN := Lib.hid (hd.out.pos h0 (a := 0) (b := 1) hz.symm (by omega))
          clear hz
          go_wp2
          exact ⟨⟨j / 10, _, by omega, by go_num, rfl, HN⟩, by simp [intOf]; omega⟩
        · have hz2 : -((j : Int) % 10) < 0 := by omega
          have HN := Lib.hid (hd.out.pos h0 (a := j % 10) (b := j % 10 + 1) rfl rfl)
          go_wp2
          exact ⟨⟨j / 10, _, by omega, by go_num, rfl, HN⟩, by simp [intOf]; omega⟩
  · subst h
    go_wp2
    go_returns
    exact ⟨by rw [show (0 : Int) = ((0 : Nat) : Int) from rfl, itoa_nat, dec_zero]; rfl, by go_grown⟩
  · obtain ⟨m, rfl⟩ : ∃ m : Nat, n = (m : Int) := ⟨n.natAbs, by omega⟩
    have hm : 0 < m := by omega
    have hmx : m ≤ 9223372036854775808 := by omega
    have hst := Lib.hid (DecSt.start hm)
    go_wp2_with fail
    go_loop [4, 5] (fun s4 s5 => ∃ (j : Nat) (sd : ByteArray), j ≤ m ∧ s5 = .int .i64 (j : Int) ∧ s4 = .string sd ∧ Hid (DecSt m j sd)) (fun _ s5 => (intOf s5).natAbs)
    case atStart => exact ⟨m, _, Nat.le_refl _, rfl, rfl, hst⟩
    case round =>
      obtain ⟨j, sd, hj, rfl, rfl, hd⟩ := hrel
      have hsz := hd.out.size hmx
      rcases Nat.eq_zero_or_pos j with h0 | h0
      · subst h0
        have hf : sd = ⟨(Lib.itoa (m : Int)).toArray⟩ := by rw [itoa_nat]; exact hd.out.text
        have HF := Lib.hid hf
        clear hf
        go_wp2
        go_returns
        exact ⟨congrArg (fun s => Ending.returned (.string s)) HF.out, by go_grown⟩
      · have hz2 : ¬ ((j : Int) % 10) < 0 := by omega
        have HN := Lib.hid (hd.out.pos h0 (a := j % 10) (b := j % 10 + 1) rfl rfl)
        go_wp2
        exact ⟨⟨j / 10, _, by omega, by go_num, rfl, HN⟩, by simp [intOf]; omega⟩
end Go.Proofs.YthafhbogpfggjaaGreatDoor
