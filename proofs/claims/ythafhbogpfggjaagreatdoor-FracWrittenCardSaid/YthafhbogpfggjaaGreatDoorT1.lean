/-
  Plain: the text of an integer, and what a text spells. No program in it.
-/
import Derived.Test.YthafhbogpfggjaaGreatDoorDig
import Derived.Lib.AtoiAll
import Derived.Test.YthafhbogpfggjaaGreatDoorW2
namespace Txt
open Go.Lib DecM

theorem head_mem {c : UInt8} {l : List UInt8} (h : l.head? = some c) : c ∈ l := by
  cases l with
  | nil => simp at h
  | cons x t => simp at h; simp [h]
/-- A minus sign ahead. -/
def neg (l : List UInt8) : Bool := l.head? == some 45
/-- What stands behind the sign. -/
def digs (l : List UInt8) : List UInt8 := if neg l then l.tail else l
/-- It is no integer's text. -/
def bad (l : List UInt8) : Bool := (digs l).isEmpty || ((digs l).head? == some 48 && (neg l || decide (1 < (digs l).length))) || !(digs l).all isDig
def sg (b : Bool) (m : Nat) : Int := if b then -(m : Int) else (m : Int)
/-- The integer that a text spells, and what is wrong: T is one more than the greatest absolute value. -/
def num (T : Nat) (l : List UInt8) : Int × Int :=
  if 5000 < l.length then (0, 4)
  else if bad l then (0, 2)
  else if T ≤ digV (digs l) then (0, 4)
  else (sg (neg l) (digV (digs l)), 0)
theorem num_long {T : Nat} {l : List UInt8} (h : 5000 < l.length) : num T l = (0, 4) := by rw [num, if_pos h]
theorem num_bad {T : Nat} {l : List UInt8} (h : ¬ 5000 < l.length) (hb : bad l = true) : num T l = (0, 2) := by rw [num, if_neg h, if_pos hb]
theorem num_big {T : Nat} {l : List UInt8} (h : ¬ 5000 < l.length) (hb : bad l = false) (ht : T ≤ digV (digs l)) : num T l = (0, 4) := by
  rw [num, if_neg h, if_neg (by simp [hb]), if_pos ht]
theorem num_ok {T : Nat} {l : List UInt8} (h : ¬ 5000 < l.length) (hb : bad l = false) (ht : ¬ T ≤ digV (digs l)) : num T l = (sg (neg l) (digV (digs l)), 0) := by
  rw [num, if_neg h, if_neg (by simp [hb]), if_neg ht]
theorem sg_abs (b : Bool) (m : Nat) : (sg b m).natAbs = m := by cases b <;> simp [sg]
theorem num_lt {T : Nat} (hT : 0 < T) (l : List UInt8) : (num T l).1.natAbs < T := by
  unfold num
  split
  · exact hT
  · split
    · exact hT
    · split
      · exact hT
      · rw [sg_abs]; omega
theorem num_err (T : Nat) (l : List UInt8) : (num T l).2 = 0 ∨ (num T l).2 = 2 ∧ (num T l).1 = 0 ∨ (num T l).2 = 4 ∧ (num T l).1 = 0 := by
  unfold num
  split
  · simp
  · split
    · simp
    · split <;> simp
/-- The text of an integer has no sign but for a negative one's. -/
theorem dec_no45 (n : Nat) : (decDigits n).head? ≠ some 45 := fun h => by
  have := dec_isDig n 45 (head_mem h)
  simp [isDig] at this
theorem neg_itoa (z : Int) : neg (itoa z) = decide (z < 0) := by
  unfold neg itoa
  by_cases h : z < 0
  · rw [if_pos h, decide_eq_true h]; rfl
  · rw [if_neg h, decide_eq_false h, beq_eq_false_iff_ne]; exact dec_no45 _
theorem digs_itoa (z : Int) : digs (itoa z) = decDigits z.natAbs := by
  unfold digs
  rw [neg_itoa]
  unfold itoa
  by_cases h : z < 0
  · rw [if_pos h, decide_eq_true h]; rfl
  · rw [if_neg h, decide_eq_false h, if_neg (by simp), show z.toNat = z.natAbs by omega]
theorem dec_len_big {n : Nat} (h : 10 ≤ n) : 1 < (decDigits n).length := by
  rw [dec_big h, List.length_append, List.length_singleton]
  have := dec_ne (n / 10)
  have : (decDigits (n / 10)).length ≠ 0 := fun e => this (List.eq_nil_of_length_eq_zero e)
  omega
theorem bad_itoa (z : Int) : bad (itoa z) = false := by
  unfold bad
  rw [digs_itoa, neg_itoa]
  have h1 : (decDigits z.natAbs).isEmpty = false := by
    have := dec_ne z.natAbs
    cases h : decDigits z.natAbs with
    | nil => exact absurd h this
    | cons a b => rfl
  have h2 : (decDigits z.natAbs).all isDig = true := List.all_eq_true.2 (dec_isDig _)
  have h3 : ((decDigits z.natAbs).head? == some 48 && (decide (z < 0) || decide (1 < (decDigits z.natAbs).length))) = false := by
    rcases Nat.eq_zero_or_pos z.natAbs with h0 | h0
    · rw [h0, dec_zero]
      have : ¬ z < 0 := by omega
      simp [this]
    · have := dec_head _ h0
      have : ((decDigits z.natAbs).head? == some 48) = false := by rw [beq_eq_false_iff_ne]; exact this
      rw [this]; rfl
  rw [h1, h2, h3]; rfl
theorem sg_self (z : Int) : sg (decide (z < 0)) z.natAbs = z := by
  unfold sg
  by_cases h : z < 0
  · rw [decide_eq_true h, if_pos rfl]; omega
  · rw [decide_eq_false h, if_neg (by simp)]; omega
/-- What the text of an integer spells. -/
theorem num_itoa {T : Nat} {z : Int} (h : z.natAbs < T) (hl : (itoa z).length ≤ 5000) : num T (itoa z) = (z, 0) := by
  have e := num_ok (T := T) (l := itoa z) (by omega) (bad_itoa z) (by rw [digs_itoa, digV_dec]; omega)
  rw [e, digs_itoa, digV_dec, neg_itoa, sg_self]
theorem num_itoa_big {T : Nat} {z : Int} (h : T ≤ z.natAbs) : num T (itoa z) = (0, 4) := by
  rcases Nat.lt_or_ge 5000 (itoa z).length with h1 | h1
  · exact num_long h1
  · exact num_big (by omega) (bad_itoa z) (by rw [digs_itoa, digV_dec]; omega)
theorem itoa_inj {a b : Int} (h : itoa a = itoa b) : a = b := by
  have h1 : decide (a < 0) = decide (b < 0) := by rw [← neg_itoa, ← neg_itoa, h]
  have h2 : a.natAbs = b.natAbs := dec_inj (by rw [← digs_itoa, ← digs_itoa, h])
  rw [← sg_self a, ← sg_self b, h1, h2]
theorem eq_neg_tail {l : List UInt8} (h : neg l = true) : l = 45 :: l.tail := by
  unfold neg at h
  cases l with
  | nil => simp at h
  | cons c t => simp at h; subst h; rfl
/-- A text that spells an integer is that integer's text. -/
theorem itoa_num {T : Nat} {l : List UInt8} (h : (num T l).2 = 0) : itoa (num T l).1 = l := by
  rcases Nat.lt_or_ge 5000 l.length with h1 | h1
  · rw [num_long h1] at h; simp at h
  · cases hb : bad l with
    | true => rw [num_bad (by omega) hb] at h; simp at h
    | false =>
      rcases Nat.lt_or_ge (digV (digs l)) T with h2 | h2
      · rw [num_ok (by omega) hb (by omega)]
        simp only [bad, Bool.or_eq_false_iff] at hb
        obtain ⟨⟨b1, b2⟩, b3⟩ := hb
        have hall : ∀ c ∈ digs l, isDig c = true := by simpa using b3
        have hne : digs l ≠ [] := by intro e; rw [e] at b1; simp at b1
        have h0 : (digs l).head? = some 48 → neg l = false ∧ (digs l).length = 1 := fun e => by
          rw [e] at b2
          simp at b2
          refine ⟨b2.1, ?_⟩
          have : (digs l).length ≠ 0 := fun e => hne (List.eq_nil_of_length_eq_zero e)
          omega
        have hd := dec_digV (digs l) hall hne fun e => (h0 e).2
        cases hn : neg l with
        | false =>
          have e : digs l = l := by unfold digs; rw [hn]; rfl
          rw [e] at hd ⊢
          show itoa (digV l : Int) = l
          unfold itoa
          rw [if_neg (by omega : ¬ (digV l : Int) < 0), Int.toNat_natCast, hd]
        | true =>
          have e : digs l = l.tail := by unfold digs; rw [hn]; rfl
          have hp : 0 < digV (digs l) := by
            rcases Nat.eq_zero_or_pos (digV (digs l)) with hz | hz
            · rw [hz, dec_zero] at hd
              have := (h0 (by rw [← hd]; rfl)).1
              rw [hn] at this; cases this
            · exact hz
          have hlt : -(digV (digs l) : Int) < 0 := by omega
          show itoa (-(digV (digs l) : Int)) = l
          unfold itoa
          rw [if_pos hlt, show (-(digV (digs l) : Int)).natAbs = digV (digs l) by omega, hd, e]
          exact (eq_neg_tail hn).symm
      · rw [num_big (by omega) hb h2] at h; simp at h
theorem itoa_len {z : Int} {k : Nat} (hk : 0 < k) (h : z.natAbs < 10 ^ k) : (itoa z).length ≤ k + 1 := by
  have h1 := dec_length_le hk h
  unfold itoa
  split
  · simp; omega
  · rw [show z.toNat = z.natAbs by omega]; omega
/-- Nine digits more. -/
theorem digV_take_more (l : List UInt8) (i n : Nat) (h : i + n ≤ l.length) : digV (l.take (i + n)) = digV (l.take i) * 10 ^ n + digV ((l.drop i).take n) := by
  rw [List.take_add, digV_append]
  congr 3
  rw [List.length_take, List.length_drop]; omega
/-- Digits are no sign: what Atoi reads. -/
theorem parse_digits : ∀ (l : List UInt8) (acc : Nat), (∀ c ∈ l, isDig c = true) → acc * 10 ^ l.length + 10 ^ l.length ≤ 10 ^ 18 → parseUint10 acc l = .ok (acc * 10 ^ l.length + digV l)
  | [], acc, _, _ => by simp [parseUint10, digV]
  | c :: l, acc, h, hb => by
    have hc := h c (by simp)
    simp only [isDig, Bool.and_eq_true, decide_eq_true_eq] at hc
    rw [List.length_cons, Nat.pow_succ] at hb
    have hp : 0 < 10 ^ l.length := Nat.pow_pos (by decide)
    have h1 : (acc * 10 + 10) * 10 ^ l.length ≤ 10 ^ 18 := by
      have : (acc * 10 + 10) * 10 ^ l.length = acc * (10 ^ l.length * 10) + 10 ^ l.length * 10 := by grind
      omega
    have h2 : (acc * 10 + 10) * 1 ≤ 10 ^ 18 := Nat.le_trans (Nat.mul_le_mul_left _ hp) h1
    rw [parseUint10, if_pos hc, if_neg (by omega), if_neg (by omega)]
    have h3 : (acc * 10 + (c.toNat - 48)) * 10 ^ l.length + 10 ^ l.length ≤ 10 ^ 18 := by
      have : (acc * 10 + (c.toNat - 48)) * 10 ^ l.length + 10 ^ l.length = (acc * 10 + (c.toNat - 48) + 1) * 10 ^ l.length := by grind
      rw [this]
      exact Nat.le_trans (Nat.mul_le_mul_right _ (by omega)) h1
    rw [parse_digits l _ (fun x hx => h x (by simp [hx])) h3, digV_cons, List.length_cons, Nat.pow_succ]
    congr 1
    grind
theorem atoi_digits {l : List UInt8} (hd : ∀ c ∈ l, isDig c = true) (hn : l ≠ []) (hl : l.length ≤ 9) : atoiAll l = .ok (digV l : Int) := by
  have hp : 10 ^ l.length ≤ 10 ^ 9 := Nat.pow_le_pow_right (by decide) hl
  have h1 := parse_digits l 0 hd (by omega)
  rw [Nat.zero_mul, Nat.zero_add] at h1
  have hv := digV_lt hd
  cases l with
  | nil => exact absurd rfl hn
  | cons c r =>
    have hc := hd c (by simp)
    simp only [isDig, Bool.and_eq_true, decide_eq_true_eq] at hc
    have hm : parseMag (c :: r) = .ok (digV (c :: r)) := by
      unfold parseMag; exact h1
    unfold atoiAll
    simp only
    rw [if_neg (by omega), hm]
    simp only
    rw [if_neg (by omega), if_neg (by omega), if_neg (by omega)]
end Txt

/-
  (second part)
-/
namespace Go.Proofs.YthafhbogpfggjaaGreatDoor
open Go.RowKit

def strV (l : List UInt8) : Value := .string ⟨l.toArray⟩
def TxtPost (w : World) (l : List UInt8) (e : Ending) (w' : World) : Prop := e = .returned (.string ⟨l.toArray⟩) ∧ Below w.heap.size w w'
theorem str_eq {s : ByteArray} {l : List UInt8} (h : s.data.toList = l) : s = ⟨l.toArray⟩ := by
  subst h
  cases s
  simp
theorem str_size {s : ByteArray} {l : List UInt8} (h : s.data.toList = l) : s.size = l.length := by
  subst h
  rw [Array.length_toList]; rfl
theorem str_cat (a b : ByteArray) : (a ++ b).data.toList = a.data.toList ++ b.data.toList := by
  simp
end Go.Proofs.YthafhbogpfggjaaGreatDoor
