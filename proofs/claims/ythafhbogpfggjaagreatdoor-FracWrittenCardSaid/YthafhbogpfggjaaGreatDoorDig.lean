/-
  Plain arithmetic of digits (base 10000), as Mag's of words. No program in it.
-/
import Derived.Test.YthafhbogpfggjaaGreatDoorMag
namespace Dig
/-- The number that a list of digits stands for. -/
def val : List Nat → Nat
  | [] => 0
  | x :: l => x + 10000 * val l

/-- All digits are below 2^32. -/
def Ws (l : List Nat) : Prop := ∀ x ∈ l, x < 10000

theorem val_nil : val [] = 0 := rfl
theorem val_cons (x : Nat) (l : List Nat) : val (x :: l) = x + 10000 * val l := rfl
theorem Ws.nil : Ws [] := by intro x hx; simp at hx
theorem Ws.cons {x : Nat} {l : List Nat} (h : x < 10000) (hl : Ws l) : Ws (x :: l) := by
  intro y hy; simp at hy; rcases hy with rfl | hy
  · exact h
  · exact hl y hy
theorem Ws.head {x : Nat} {l : List Nat} (h : Ws (x :: l)) : x < 10000 := h x (by simp)
theorem Ws.tail {x : Nat} {l : List Nat} (h : Ws (x :: l)) : Ws l := fun y hy => h y (by simp [hy])
theorem Ws.append {a b : List Nat} (ha : Ws a) (hb : Ws b) : Ws (a ++ b) := by
  intro x hx; simp at hx; exact hx.elim (ha x) (hb x)
theorem Ws.left {a b : List Nat} (h : Ws (a ++ b)) : Ws a := fun x hx => h x (by simp [hx])
theorem Ws.right {a b : List Nat} (h : Ws (a ++ b)) : Ws b := fun x hx => h x (by simp [hx])
theorem Ws.take {a : List Nat} (h : Ws a) (n : Nat) : Ws (a.take n) := fun x hx => h x (List.mem_of_mem_take hx)
theorem Ws.drop {a : List Nat} (h : Ws a) (n : Nat) : Ws (a.drop n) := fun x hx => h x (List.mem_of_mem_drop hx)
theorem Ws.get {a : List Nat} (h : Ws a) {i : Nat} (hi : i < a.length) : a[i] < 10000 := h _ (List.getElem_mem hi)
theorem Ws.getD {a : List Nat} (h : Ws a) (i : Nat) : a.getD i 0 < 10000 := by
  by_cases hi : i < a.length
  · rw [List.getD_eq_getElem?_getD, List.getElem?_eq_getElem hi]; exact h.get hi
  · rw [List.getD_eq_getElem?_getD, List.getElem?_eq_none (by omega)]; simp
theorem Ws.replicate (n : Nat) : Ws (List.replicate n 0) := by
  intro x hx; rw [List.eq_of_mem_replicate hx]; decide

theorem val_append (a b : List Nat) : val (a ++ b) = val a + 10000 ^ a.length * val b := by
  induction a with
  | nil => simp [val]
  | cons x l ih => simp only [List.cons_append, val, ih, List.length_cons, Nat.pow_succ]; grind
theorem val_snoc (a : List Nat) (x : Nat) : val (a ++ [x]) = val a + 10000 ^ a.length * x := by
  rw [val_append]; simp [val]
theorem val_replicate (n : Nat) : val (List.replicate n 0) = 0 := by
  induction n with
  | zero => rfl
  | succ n ih => simp [List.replicate_succ, val, ih]
theorem val_lt {l : List Nat} (h : Ws l) : val l < 10000 ^ l.length := by
  induction l with
  | nil => simp [val]
  | cons x l ih =>
    have h1 := ih h.tail
    have h2 := h.head
    simp only [val, List.length_cons, Nat.pow_succ]
    generalize 10000 ^ l.length = P at *
    omega
theorem val_take_succ (l : List Nat) (i : Nat) : val (l.take (i + 1)) = val (l.take i) + 10000 ^ i * l.getD i 0 := by
  by_cases hi : i < l.length
  · rw [List.take_succ_eq_append_getElem hi, val_snoc, List.length_take, Nat.min_eq_left (by omega), List.getD_eq_getElem?_getD, List.getElem?_eq_getElem hi]; rfl
  · rw [List.take_of_length_le (by omega), List.take_of_length_le (by omega), List.getD_eq_getElem?_getD, List.getElem?_eq_none (by omega)]; simp
theorem pow_pos (k : Nat) : 0 < 10000 ^ k := Nat.pow_pos (by decide)
theorem pow_mono {a b : Nat} (h : a ≤ b) : 10000 ^ a ≤ 10000 ^ b := Nat.pow_le_pow_right (by decide) h

/-- No zero at the end. -/
def Nz (l : List Nat) : Prop := l.getLast? ≠ some 0
theorem Nz.nil : Nz [] := by simp [Nz]
theorem Nz.snoc {l : List Nat} {x : Nat} (h : x ≠ 0) : Nz (l ++ [x]) := by simp [Nz, h]
theorem Nz.ge {l : List Nat} (h : Nz l) (hn : l ≠ []) : 10000 ^ (l.length - 1) ≤ val l := by
  rcases List.eq_nil_or_concat l with rfl | ⟨k, x, rfl⟩
  · exact absurd rfl hn
  · rw [List.concat_eq_append] at *
    simp only [Nz, List.getLast?_append, List.getLast?_singleton, Option.some_or, ne_eq, Option.some.injEq] at h
    rw [val_snoc]
    simp only [List.length_append, List.length_singleton, Nat.add_sub_cancel]
    have : 10000 ^ k.length * 1 ≤ 10000 ^ k.length * x := Nat.mul_le_mul_left _ (by omega)
    omega
theorem Nz.pos {l : List Nat} (h : Nz l) (hn : l ≠ []) : 0 < val l := Nat.lt_of_lt_of_le (pow_pos _) (h.ge hn)
theorem Nz.eq_nil {l : List Nat} (h : Nz l) (hv : val l = 0) : l = [] := by
  by_cases hn : l = []
  · exact hn
  · have := h.pos hn; omega
/-- A longer normal list stands for a greater number. -/
theorem lt_of_length {a b : List Nat} (ha : Ws a) (hb : Nz b) (h : a.length < b.length) : val a < val b := by
  have h1 := val_lt ha
  have h2 := hb.ge (by intro e; subst e; simp at h)
  have h3 := pow_mono (a := a.length) (b := b.length - 1) (by omega)
  omega
theorem eq_of_val {a b : List Nat} (ha : Ws a) (hb : Ws b) (hl : a.length = b.length) (h : val a = val b) : a = b := by
  induction a generalizing b with
  | nil => cases b with
    | nil => rfl
    | cons y l => simp at hl
  | cons x a ih => cases b with
    | nil => simp at hl
    | cons y b =>
      simp only [val] at h
      have h1 := ha.head
      have h2 := hb.head
      have h3 : x = y := by omega
      have h4 : val a = val b := by omega
      rw [h3, ih ha.tail hb.tail (by simpa using hl) h4]
theorem norm_eq {a b : List Nat} (ha : Ws a) (hb : Ws b) (na : Nz a) (nb : Nz b) (h : val a = val b) : a = b := by
  rcases Nat.lt_trichotomy a.length b.length with hl | hl | hl
  · have := lt_of_length ha nb hl; omega
  · exact eq_of_val ha hb hl h
  · have := lt_of_length hb na hl; omega
/-- The digits of a number. -/
theorem exists_digits (n : Nat) : ∃ l, Ws l ∧ Nz l ∧ val l = n := by
  induction n using Nat.strongRecOn with
  | ind n ih =>
    by_cases h0 : n = 0
    · exact ⟨[], Ws.nil, Nz.nil, by simp [val, h0]⟩
    · obtain ⟨l, h1, h2, h3⟩ := ih (n / 10000) (by omega)
      refine ⟨n % 10000 :: l, Ws.cons (by omega) h1, ?_, by simp only [val, h3]; omega⟩
      intro e
      cases l with
      | nil => simp [val] at h3; simp at e; omega
      | cons y k => rw [List.getLast?_cons_cons] at e; exact h2 e
theorem length_le_of {l : List Nat} (h : Nz l) {k : Nat} (hk : val l < 10000 ^ k) : l.length ≤ k := by
  rcases Nat.lt_or_ge k l.length with hlt | hge
  · have h1 := h.ge (by intro e; subst e; simp at hlt)
    have h2 := pow_mono (a := k) (b := l.length - 1) (by omega)
    omega
  · exact hge
theorem lt_pow_of_length {l : List Nat} (h : Ws l) {k : Nat} (hk : l.length ≤ k) : val l < 10000 ^ k :=
  Nat.lt_of_lt_of_le (val_lt h) (pow_mono hk)

/-- The comparison from the top down: a and b agree above i and differ at i. -/
theorem cmp_top {a b : List Nat} (ha : Ws a) (hl : a.length = b.length) {i : Nat} (hi : i < a.length) (hlt : a.getD i 0 < b.getD i 0) (hd : a.drop (i + 1) = b.drop (i + 1)) : val a < val b := by
  have e1 : a = a.take i ++ (a.getD i 0 :: a.drop (i + 1)) := by
    rw [List.getD_eq_getElem?_getD, List.getElem?_eq_getElem hi]; simp
  have e2 : b = b.take i ++ (b.getD i 0 :: b.drop (i + 1)) := by
    rw [List.getD_eq_getElem?_getD, List.getElem?_eq_getElem (by omega)]; simp
  rw [e1, e2, val_append, val_append, val_cons, val_cons, hd]
  have h1 := val_lt (ha.take i)
  rw [List.length_take, Nat.min_eq_left (by omega)] at *
  rw [List.length_take, Nat.min_eq_left (by omega)]
  generalize a.getD i 0 = x at *
  generalize b.getD i 0 = y at *
  generalize 10000 ^ i = P at *
  generalize val (b.drop (i + 1)) = d
  have h2 : P * (x + 1 + 10000 * d) ≤ P * (y + 10000 * d) := Nat.mul_le_mul_left _ (by omega)
  have h3 : P * (x + 1 + 10000 * d) = P * (x + 10000 * d) + P := by rw [show x + 1 + 10000 * d = (x + 10000 * d) + 1 by omega, Nat.mul_succ]
  omega
end Dig
namespace Dig

theorem val_set (l : List Nat) (i x : Nat) (hi : i < l.length) : val (l.set i x) + 10000 ^ i * l.getD i 0 = val l + 10000 ^ i * x := by
  induction l generalizing i with
  | nil => simp at hi
  | cons y l ih =>
    cases i with
    | zero => simp [val]; omega
    | succ i =>
      have h := ih i (by simpa using hi)
      simp only [List.set_cons_succ, val, List.getD_cons_succ, Nat.pow_succ]
      generalize val (l.set i x) = p at *
      generalize val l = q at *
      generalize l.getD i 0 = g at *
      generalize 10000 ^ i = P at *
      grind
theorem Ws.set {l : List Nat} (h : Ws l) (i : Nat) {x : Nat} (hx : x < 10000) : Ws (l.set i x) := by
  intro y hy
  rcases List.mem_or_eq_of_mem_set hy with h1 | rfl
  · exact h y h1
  · exact hx

/-- One step of an addition. -/
theorem sum_step {a b ds : List Nat} {i c : Nat} (ha : Ws a) (hb : Ws b) (hd : ds.length = i) (hc : c ≤ 1) (h : val ds + c * 10000 ^ i = val (a.take i) + val (b.take i)) :
    (c + (a.getD i 0 + b.getD i 0)) / 10000 ≤ 1 ∧
    val (ds ++ [(c + (a.getD i 0 + b.getD i 0)) % 10000]) + (c + (a.getD i 0 + b.getD i 0)) / 10000 * 10000 ^ (i + 1) = val (a.take (i + 1)) + val (b.take (i + 1)) := by
  have h1 := ha.getD i
  have h2 := hb.getD i
  refine ⟨by omega, ?_⟩
  rw [val_take_succ, val_take_succ, val_snoc, hd, Nat.pow_succ]
  generalize a.getD i 0 = x at *
  generalize b.getD i 0 = y at *
  generalize 10000 ^ i = P at *
  have e : (c + (x + y)) = 10000 * ((c + (x + y)) / 10000) + (c + (x + y)) % 10000 := by omega
  generalize (c + (x + y)) / 10000 = q at *
  generalize (c + (x + y)) % 10000 = r at *
  have e2 : P * c + P * x + P * y = P * (10000 * q) + P * r := by
    rw [← Nat.mul_add, ← Nat.mul_add, ← Nat.mul_add, ← e]; congr 1; omega
  have e3 : q * (P * 10000) = P * (10000 * q) := by grind
  rw [e3]
  rw [Nat.mul_comm c P] at h
  omega
/-- The end of an addition. -/
theorem sum_end {a b ds : List Nat} {c n : Nat} (ha : Ws a) (hb : Ws b) (hl : b.length ≤ a.length) (hn : n = a.length + 1) (h : val ds + c * 10000 ^ n = val (a.take n) + val (b.take n)) :
    val ds = val a + val b := by
  subst hn
  rw [List.take_of_length_le (by omega), List.take_of_length_le (by omega)] at h
  have h1 := val_lt ha
  have h2 := lt_pow_of_length hb hl
  rw [Nat.pow_succ] at h
  generalize 10000 ^ a.length = P at *
  have : c = 0 := by
    rcases Nat.eq_zero_or_pos c with h0 | h0
    · exact h0
    · have : 1 * (P * 10000) ≤ c * (P * 10000) := Nat.mul_le_mul_right _ h0
      omega
  subst this
  omega

/-- One step of a subtraction. -/
theorem sub_step {a b ds : List Nat} {i c : Nat} (hd : ds.length = i) (h : val ds + val (b.take i) = val (a.take i) + c * 10000 ^ i) {c' d : Nat}
    (e : d + (c + b.getD i 0) = a.getD i 0 + c' * 10000) : val (ds ++ [d]) + val (b.take (i + 1)) = val (a.take (i + 1)) + c' * 10000 ^ (i + 1) := by
  rw [val_take_succ, val_take_succ, val_snoc, hd, Nat.pow_succ]
  generalize a.getD i 0 = x at *
  generalize b.getD i 0 = y at *
  generalize 10000 ^ i = P at *
  have e2 : P * d + (P * c + P * y) = P * x + P * (c' * 10000) := by
    rw [← Nat.mul_add, ← Nat.mul_add, ← Nat.mul_add, e]
  have e3 : c' * (P * 10000) = P * (c' * 10000) := by grind
  rw [e3]
  rw [Nat.mul_comm c P] at h
  omega
theorem sub_end {a b ds : List Nat} {c : Nat} (hl : b.length ≤ a.length) (hd : ds.length = a.length) (hw : Ws ds) (h : val ds + val (b.take a.length) = val (a.take a.length) + c * 10000 ^ a.length) (hge : val b ≤ val a) :
    val ds = val a - val b := by
  rw [List.take_of_length_le hl, List.take_of_length_le (Nat.le_refl _)] at h
  have h1 := val_lt hw
  rw [hd] at h1
  generalize 10000 ^ a.length = P at *
  have : c = 0 := by
    rcases Nat.eq_zero_or_pos c with h0 | h0
    · exact h0
    · have : 1 * P ≤ c * P := Nat.mul_le_mul_right _ h0
      omega
  subst this
  omega

/-- One inner step of a product: S is the state of the result. -/
theorem mul_step {S b : List Nat} {i k x c V : Nat} (hi : i + k < S.length) (h : val S + c * 10000 ^ (i + k) = V + x * val (b.take k) * 10000 ^ i) {t : Nat} (ht : t = x * b.getD k 0 + S.getD (i + k) 0 + c) :
    val (S.set (i + k) (t % 10000)) + t / 10000 * 10000 ^ (i + (k + 1)) = V + x * val (b.take (k + 1)) * 10000 ^ i := by
  have h1 := val_set S (i + k) (t % 10000) hi
  rw [val_take_succ]
  generalize b.getD k 0 = y at *
  generalize S.getD (i + k) 0 = s at *
  have e : t = 10000 * (t / 10000) + t % 10000 := by omega
  generalize t / 10000 = q at *
  generalize t % 10000 = r at *
  generalize val (S.set (i + k) r) = S' at *
  generalize val S = S0 at *
  generalize val (b.take k) = B at *
  rw [show i + (k + 1) = (i + k) + 1 from rfl, Nat.pow_succ]
  rw [Nat.pow_add] at *
  generalize 10000 ^ i = P at *
  generalize 10000 ^ k = Q at *
  have e1 : q * (P * Q * 10000) = P * Q * (10000 * q) := by grind
  have e2 : P * Q * t = P * Q * (10000 * q) + P * Q * r := by rw [← Nat.mul_add, ← e]
  have e3 : P * Q * t = P * Q * (x * y) + P * Q * s + P * Q * c := by rw [ht, Nat.mul_add, Nat.mul_add]
  have e4 : x * (B + Q * y) * P = x * B * P + P * Q * (x * y) := by grind
  rw [e1, e4]
  rw [Nat.mul_comm c] at h
  omega
/-- The end of an outer step of a product. -/
theorem mul_row {S b : List Nat} {i m x c V : Nat} (hi : i + m < S.length) (h0 : S.getD (i + m) 0 = 0) (hm : b.length = m) (h : val S + c * 10000 ^ (i + m) = V + x * val (b.take m) * 10000 ^ i) :
    val (S.set (i + m) c) = V + x * val b * 10000 ^ i := by
  have h1 := val_set S (i + m) c hi
  rw [h0] at h1
  rw [List.take_of_length_le (by omega)] at h
  rw [Nat.mul_comm c] at h
  omega

/-- One step of a division by a digit, from the top down: T stands for what was done. -/
theorem val_drop_cons {l : List Nat} {j : Nat} (h : j < l.length) : val (l.drop j) = l.getD j 0 + 10000 * val (l.drop (j + 1)) := by
  rw [List.drop_eq_getElem_cons h, val_cons, List.getD_eq_getElem?_getD, List.getElem?_eq_getElem h]; rfl
theorem val_split (l : List Nat) (j : Nat) (h : j ≤ l.length) : val l = val (l.take j) + 10000 ^ j * val (l.drop j) := by
  conv => lhs; rw [← List.take_append_drop j l]
  rw [val_append, List.length_take, Nat.min_eq_left h]
theorem val_zero_drop {l : List Nat} {n : Nat} (hn : n ≤ l.length) (h : val l < 10000 ^ n) : val (l.drop n) = 0 := by
  have h1 := val_split l n hn
  rcases Nat.eq_zero_or_pos (val (l.drop n)) with h0 | h0
  · exact h0
  · have : 10000 ^ n * 1 ≤ 10000 ^ n * val (l.drop n) := Nat.mul_le_mul_left _ h0
    omega
theorem getD_of_val_zero {l : List Nat} (h : val l = 0) (i : Nat) : l.getD i 0 = 0 := by
  induction l generalizing i with
  | nil => rfl
  | cons x l ih =>
    simp only [val] at h
    cases i with
    | zero => simp; omega
    | succ i => simp only [List.getD_cons_succ]; exact ih (by omega) i
theorem getD_drop' (l : List Nat) (j i : Nat) : (l.drop j).getD i 0 = l.getD (j + i) 0 := by
  rw [List.getD_eq_getElem?_getD, List.getD_eq_getElem?_getD, List.getElem?_drop]
theorem getD_take' (l : List Nat) {n i : Nat} (h : i < n) : (l.take n).getD i 0 = l.getD i 0 := by
  rw [List.getD_eq_getElem?_getD, List.getD_eq_getElem?_getD, List.getElem?_take_of_lt h]

/-- What a digit's window stands for. -/
theorem norm_step {l : List Nat} {k : Nat} (h0 : 0 < k) (hk : k ≤ l.length) (h : l[k - 1] = 0) : val (l.take (k - 1)) = val (l.take k) := by
  obtain ⟨m, rfl⟩ : ∃ m, k = m + 1 := ⟨k - 1, by omega⟩
  rw [val_take_succ, List.getD_eq_getElem?_getD, List.getElem?_eq_getElem (by omega)]
  simp only [Nat.add_sub_cancel] at *
  simp [h]
theorem norm_end {l : List Nat} {k : Nat} (h0 : 0 < k) (hk : k ≤ l.length) (h : l[k - 1] ≠ 0) : Nz (l.take k) := by
  obtain ⟨m, rfl⟩ : ∃ m, k = m + 1 := ⟨k - 1, by omega⟩
  rw [List.take_succ_eq_append_getElem (by omega)]
  exact Nz.snoc h
end Dig
namespace Dig
theorem drop_pred_eq {a b : List Nat} {k : Nat} (h0 : 0 < k) (ha : k ≤ a.length) (hb : k ≤ b.length) (he : a[k - 1] = b[k - 1]) (hd : a.drop k = b.drop k) : a.drop (k - 1) = b.drop (k - 1) := by
  obtain ⟨m, rfl⟩ : ∃ m, k = m + 1 := ⟨k - 1, by omega⟩
  simp only [Nat.add_sub_cancel] at *
  rw [List.drop_eq_getElem_cons (by omega : m < a.length), List.drop_eq_getElem_cons (by omega : m < b.length), he, hd]
theorem cmp_top' {a b : List Nat} {k : Nat} (ha : Ws a) (hl : a.length = b.length) (h0 : 0 < k) (hk : k ≤ a.length) (hlt : a[k - 1] < b[k - 1]) (hd : a.drop k = b.drop k) : val a < val b := by
  obtain ⟨m, rfl⟩ : ∃ m, k = m + 1 := ⟨k - 1, by omega⟩
  simp only [Nat.add_sub_cancel] at *
  refine cmp_top ha hl (i := m) (by omega) ?_ hd
  rw [List.getD_eq_getElem?_getD, List.getD_eq_getElem?_getD, List.getElem?_eq_getElem (by omega), List.getElem?_eq_getElem (by omega)]
  exact hlt
end Dig
namespace Dig
theorem set_mid (ds : List Nat) (k m : Nat) (hk : ds.length = k) (hm : 0 < m) (x : Nat) : (ds ++ List.replicate m 0).set k x = (ds ++ [x]) ++ List.replicate (m - 1) 0 := by
  obtain ⟨m', rfl⟩ : ∃ m', m = m' + 1 := ⟨m - 1, by omega⟩
  rw [List.set_append_right _ _ (by omega), show k - ds.length = 0 by omega, List.replicate_succ, List.set_cons_zero]
  simp
theorem getD_lt {l : List Nat} {k : Nat} (h : k < l.length) : l.getD k 0 = l[k] := by
  rw [List.getD_eq_getElem?_getD, List.getElem?_eq_getElem h]; rfl
theorem getD_ge {l : List Nat} {k : Nat} (h : l.length ≤ k) : l.getD k 0 = 0 := by
  rw [List.getD_eq_getElem?_getD, List.getElem?_eq_none h]; rfl
end Dig
