/-
  Plain arithmetic of magnitudes (base 2^32), the long division, and decimal texts. No program in it.
-/
import Derived.Lib.ItoaNum
namespace Mag

/-- The number that a list of words stands for. -/
def val : List Nat → Nat
  | [] => 0
  | x :: l => x + 4294967296 * val l

/-- All words are below 2^32. -/
def Ws (l : List Nat) : Prop := ∀ x ∈ l, x < 4294967296

theorem val_nil : val [] = 0 := rfl
theorem val_cons (x : Nat) (l : List Nat) : val (x :: l) = x + 4294967296 * val l := rfl
theorem Ws.nil : Ws [] := by intro x hx; simp at hx
theorem Ws.cons {x : Nat} {l : List Nat} (h : x < 4294967296) (hl : Ws l) : Ws (x :: l) := by
  intro y hy; simp at hy; rcases hy with rfl | hy
  · exact h
  · exact hl y hy
theorem Ws.head {x : Nat} {l : List Nat} (h : Ws (x :: l)) : x < 4294967296 := h x (by simp)
theorem Ws.tail {x : Nat} {l : List Nat} (h : Ws (x :: l)) : Ws l := fun y hy => h y (by simp [hy])
theorem Ws.append {a b : List Nat} (ha : Ws a) (hb : Ws b) : Ws (a ++ b) := by
  intro x hx; simp at hx; exact hx.elim (ha x) (hb x)
theorem Ws.left {a b : List Nat} (h : Ws (a ++ b)) : Ws a := fun x hx => h x (by simp [hx])
theorem Ws.right {a b : List Nat} (h : Ws (a ++ b)) : Ws b := fun x hx => h x (by simp [hx])
theorem Ws.take {a : List Nat} (h : Ws a) (n : Nat) : Ws (a.take n) := fun x hx => h x (List.mem_of_mem_take hx)
theorem Ws.drop {a : List Nat} (h : Ws a) (n : Nat) : Ws (a.drop n) := fun x hx => h x (List.mem_of_mem_drop hx)
theorem Ws.get {a : List Nat} (h : Ws a) {i : Nat} (hi : i < a.length) : a[i] < 4294967296 := h _ (List.getElem_mem hi)
theorem Ws.getD {a : List Nat} (h : Ws a) (i : Nat) : a.getD i 0 < 4294967296 := by
  by_cases hi : i < a.length
  · rw [List.getD_eq_getElem?_getD, List.getElem?_eq_getElem hi]; exact h.get hi
  · rw [List.getD_eq_getElem?_getD, List.getElem?_eq_none (by omega)]; simp
theorem Ws.replicate (n : Nat) : Ws (List.replicate n 0) := by
  intro x hx; rw [List.eq_of_mem_replicate hx]; decide

theorem val_append (a b : List Nat) : val (a ++ b) = val a + 4294967296 ^ a.length * val b := by
  induction a with
  | nil => simp [val]
  | cons x l ih => simp only [List.cons_append, val, ih, List.length_cons, Nat.pow_succ]; grind
theorem val_snoc (a : List Nat) (x : Nat) : val (a ++ [x]) = val a + 4294967296 ^ a.length * x := by
  rw [val_append]; simp [val]
theorem val_replicate (n : Nat) : val (List.replicate n 0) = 0 := by
  induction n with
  | zero => rfl
  | succ n ih => simp [List.replicate_succ, val, ih]
theorem val_lt {l : List Nat} (h : Ws l) : val l < 4294967296 ^ l.length := by
  induction l with
  | nil => simp [val]
  | cons x l ih =>
    have h1 := ih h.tail
    have h2 := h.head
    simp only [val, List.length_cons, Nat.pow_succ]
    generalize 4294967296 ^ l.length = P at *
    omega
theorem val_take_succ (l : List Nat) (i : Nat) : val (l.take (i + 1)) = val (l.take i) + 4294967296 ^ i * l.getD i 0 := by
  by_cases hi : i < l.length
  · rw [List.take_succ_eq_append_getElem hi, val_snoc, List.length_take, Nat.min_eq_left (by omega), List.getD_eq_getElem?_getD, List.getElem?_eq_getElem hi]; rfl
  · rw [List.take_of_length_le (by omega), List.take_of_length_le (by omega), List.getD_eq_getElem?_getD, List.getElem?_eq_none (by omega)]; simp
theorem pow_pos (k : Nat) : 0 < 4294967296 ^ k := Nat.pow_pos (by decide)
theorem pow_mono {a b : Nat} (h : a ≤ b) : 4294967296 ^ a ≤ 4294967296 ^ b := Nat.pow_le_pow_right (by decide) h

/-- No zero at the end. -/
def Nz (l : List Nat) : Prop := l.getLast? ≠ some 0
theorem Nz.nil : Nz [] := by simp [Nz]
theorem Nz.snoc {l : List Nat} {x : Nat} (h : x ≠ 0) : Nz (l ++ [x]) := by simp [Nz, h]
theorem Nz.ge {l : List Nat} (h : Nz l) (hn : l ≠ []) : 4294967296 ^ (l.length - 1) ≤ val l := by
  rcases List.eq_nil_or_concat l with rfl | ⟨k, x, rfl⟩
  · exact absurd rfl hn
  · rw [List.concat_eq_append] at *
    simp only [Nz, List.getLast?_append, List.getLast?_singleton, Option.some_or, ne_eq, Option.some.injEq] at h
    rw [val_snoc]
    simp only [List.length_append, List.length_singleton, Nat.add_sub_cancel]
    have : 4294967296 ^ k.length * 1 ≤ 4294967296 ^ k.length * x := Nat.mul_le_mul_left _ (by omega)
    omega
theorem Nz.pos {l : List Nat} (h : Nz l) (hn : l ≠ []) : 0 < val l := Nat.lt_of_lt_of_le (pow_pos _) (h.ge hn)
theorem Nz.eq_nil {l : List Nat} (h : Nz l) (hv : val l = 0) : l = [] := by
  by_cases hn : l = []
  · exact hn
  · have := h.pos hn; omega
/-- A longer normal list stands for a greater number. -/
theorem lt_of_length {a b : List Nat} (ha : Ws a) (hb : Nz b) (h : a.length < b.length) : val a < val b := by
  have h1 := val_lt ha
  have h2 := hb.ge (by intro e; subst e; simp at h)
  have h3 := pow_mono (a := a.length) (b := b.length - 1) (by omega)
  omega
theorem eq_of_val {a b : List Nat} (ha : Ws a) (hb : Ws b) (hl : a.length = b.length) (h : val a = val b) : a = b := by
  induction a generalizing b with
  | nil => cases b with
    | nil => rfl
    | cons y l => simp at hl
  | cons x a ih => cases b with
    | nil => simp at hl
    | cons y b =>
      simp only [val] at h
      have h1 := ha.head
      have h2 := hb.head
      have h3 : x = y := by omega
      have h4 : val a = val b := by omega
      rw [h3, ih ha.tail hb.tail (by simpa using hl) h4]
theorem norm_eq {a b : List Nat} (ha : Ws a) (hb : Ws b) (na : Nz a) (nb : Nz b) (h : val a = val b) : a = b := by
  rcases Nat.lt_trichotomy a.length b.length with hl | hl | hl
  · have := lt_of_length ha nb hl; omega
  · exact eq_of_val ha hb hl h
  · have := lt_of_length hb na hl; omega
/-- The words of a number. -/
theorem exists_words (n : Nat) : ∃ l, Ws l ∧ Nz l ∧ val l = n := by
  induction n using Nat.strongRecOn with
  | ind n ih =>
    by_cases h0 : n = 0
    · exact ⟨[], Ws.nil, Nz.nil, by simp [val, h0]⟩
    · obtain ⟨l, h1, h2, h3⟩ := ih (n / 4294967296) (by omega)
      refine ⟨n % 4294967296 :: l, Ws.cons (by omega) h1, ?_, by simp only [val, h3]; omega⟩
      intro e
      cases l with
      | nil => simp [val] at h3; simp at e; omega
      | cons y k => rw [List.getLast?_cons_cons] at e; exact h2 e
theorem length_le_of {l : List Nat} (h : Nz l) {k : Nat} (hk : val l < 4294967296 ^ k) : l.length ≤ k := by
  rcases Nat.lt_or_ge k l.length with hlt | hge
  · have h1 := h.ge (by intro e; subst e; simp at hlt)
    have h2 := pow_mono (a := k) (b := l.length - 1) (by omega)
    omega
  · exact hge
theorem lt_pow_of_length {l : List Nat} (h : Ws l) {k : Nat} (hk : l.length ≤ k) : val l < 4294967296 ^ k :=
  Nat.lt_of_lt_of_le (val_lt h) (pow_mono hk)

/-- The comparison from the top down: a and b agree above i and differ at i. -/
theorem cmp_top {a b : List Nat} (ha : Ws a) (hl : a.length = b.length) {i : Nat} (hi : i < a.length) (hlt : a.getD i 0 < b.getD i 0) (hd : a.drop (i + 1) = b.drop (i + 1)) : val a < val b := by
  have e1 : a = a.take i ++ (a.getD i 0 :: a.drop (i + 1)) := by
    rw [List.getD_eq_getElem?_getD, List.getElem?_eq_getElem hi]; simp
  have e2 : b = b.take i ++ (b.getD i 0 :: b.drop (i + 1)) := by
    rw [List.getD_eq_getElem?_getD, List.getElem?_eq_getElem (by omega)]; simp
  rw [e1, e2, val_append, val_append, val_cons, val_cons, hd]
  have h1 := val_lt (ha.take i)
  rw [List.length_take, Nat.min_eq_left (by omega)] at *
  rw [List.length_take, Nat.min_eq_left (by omega)]
  generalize a.getD i 0 = x at *
  generalize b.getD i 0 = y at *
  generalize 4294967296 ^ i = P at *
  generalize val (b.drop (i + 1)) = d
  have h2 : P * (x + 1 + 4294967296 * d) ≤ P * (y + 4294967296 * d) := Nat.mul_le_mul_left _ (by omega)
  have h3 : P * (x + 1 + 4294967296 * d) = P * (x + 4294967296 * d) + P := by rw [show x + 1 + 4294967296 * d = (x + 4294967296 * d) + 1 by omega, Nat.mul_succ]
  omega
end Mag
namespace Mag

theorem val_set (l : List Nat) (i x : Nat) (hi : i < l.length) : val (l.set i x) + 4294967296 ^ i * l.getD i 0 = val l + 4294967296 ^ i * x := by
  induction l generalizing i with
  | nil => simp at hi
  | cons y l ih =>
    cases i with
    | zero => simp [val]; omega
    | succ i =>
      have h := ih i (by simpa using hi)
      simp only [List.set_cons_succ, val, List.getD_cons_succ, Nat.pow_succ]
      generalize val (l.set i x) = p at *
      generalize val l = q at *
      generalize l.getD i 0 = g at *
      generalize 4294967296 ^ i = P at *
      grind
theorem Ws.set {l : List Nat} (h : Ws l) (i : Nat) {x : Nat} (hx : x < 4294967296) : Ws (l.set i x) := by
  intro y hy
  rcases List.mem_or_eq_of_mem_set hy with h1 | rfl
  · exact h y h1
  · exact hx

/-- One step of an addition. -/
theorem sum_step {a b ds : List Nat} {i c : Nat} (ha : Ws a) (hb : Ws b) (hd : ds.length = i) (hc : c ≤ 1) (h : val ds + c * 4294967296 ^ i = val (a.take i) + val (b.take i)) :
    (c + (a.getD i 0 + b.getD i 0)) / 4294967296 ≤ 1 ∧
    val (ds ++ [(c + (a.getD i 0 + b.getD i 0)) % 4294967296]) + (c + (a.getD i 0 + b.getD i 0)) / 4294967296 * 4294967296 ^ (i + 1) = val (a.take (i + 1)) + val (b.take (i + 1)) := by
  have h1 := ha.getD i
  have h2 := hb.getD i
  refine ⟨by omega, ?_⟩
  rw [val_take_succ, val_take_succ, val_snoc, hd, Nat.pow_succ]
  generalize a.getD i 0 = x at *
  generalize b.getD i 0 = y at *
  generalize 4294967296 ^ i = P at *
  have e : (c + (x + y)) = 4294967296 * ((c + (x + y)) / 4294967296) + (c + (x + y)) % 4294967296 := by omega
  generalize (c + (x + y)) / 4294967296 = q at *
  generalize (c + (x + y)) % 4294967296 = r at *
  have e2 : P * c + P * x + P * y = P * (4294967296 * q) + P * r := by
    rw [← Nat.mul_add, ← Nat.mul_add, ← Nat.mul_add, ← e]; congr 1; omega
  have e3 : q * (P * 4294967296) = P * (4294967296 * q) := by grind
  rw [e3]
  rw [Nat.mul_comm c P] at h
  omega
/-- The end of an addition. -/
theorem sum_end {a b ds : List Nat} {c n : Nat} (ha : Ws a) (hb : Ws b) (hl : b.length ≤ a.length) (hn : n = a.length + 1) (h : val ds + c * 4294967296 ^ n = val (a.take n) + val (b.take n)) :
    val ds = val a + val b := by
  subst hn
  rw [List.take_of_length_le (by omega), List.take_of_length_le (by omega)] at h
  have h1 := val_lt ha
  have h2 := lt_pow_of_length hb hl
  rw [Nat.pow_succ] at h
  generalize 4294967296 ^ a.length = P at *
  have : c = 0 := by
    rcases Nat.eq_zero_or_pos c with h0 | h0
    · exact h0
    · have : 1 * (P * 4294967296) ≤ c * (P * 4294967296) := Nat.mul_le_mul_right _ h0
      omega
  subst this
  omega

/-- One step of a subtraction. -/
theorem sub_step {a b ds : List Nat} {i c : Nat} (hd : ds.length = i) (h : val ds + val (b.take i) = val (a.take i) + c * 4294967296 ^ i) {c' d : Nat}
    (e : d + (c + b.getD i 0) = a.getD i 0 + c' * 4294967296) : val (ds ++ [d]) + val (b.take (i + 1)) = val (a.take (i + 1)) + c' * 4294967296 ^ (i + 1) := by
  rw [val_take_succ, val_take_succ, val_snoc, hd, Nat.pow_succ]
  generalize a.getD i 0 = x at *
  generalize b.getD i 0 = y at *
  generalize 4294967296 ^ i = P at *
  have e2 : P * d + (P * c + P * y) = P * x + P * (c' * 4294967296) := by
    rw [← Nat.mul_add, ← Nat.mul_add, ← Nat.mul_add, e]
  have e3 : c' * (P * 4294967296) = P * (c' * 4294967296) := by grind
  rw [e3]
  rw [Nat.mul_comm c P] at h
  omega
theorem sub_end {a b ds : List Nat} {c : Nat} (hl : b.length ≤ a.length) (hd : ds.length = a.length) (hw : Ws ds) (h : val ds + val (b.take a.length) = val (a.take a.length) + c * 4294967296 ^ a.length) (hge : val b ≤ val a) :
    val ds = val a - val b := by
  rw [List.take_of_length_le hl, List.take_of_length_le (Nat.le_refl _)] at h
  have h1 := val_lt hw
  rw [hd] at h1
  generalize 4294967296 ^ a.length = P at *
  have : c = 0 := by
    rcases Nat.eq_zero_or_pos c with h0 | h0
    · exact h0
    · have : 1 * P ≤ c * P := Nat.mul_le_mul_right _ h0
      omega
  subst this
  omega

/-- One inner step of a product: S is the state of the result. -/
theorem mul_step {S b : List Nat} {i k x c V : Nat} (hi : i + k < S.length) (h : val S + c * 4294967296 ^ (i + k) = V + x * val (b.take k) * 4294967296 ^ i) {t : Nat} (ht : t = x * b.getD k 0 + S.getD (i + k) 0 + c) :
    val (S.set (i + k) (t % 4294967296)) + t / 4294967296 * 4294967296 ^ (i + (k + 1)) = V + x * val (b.take (k + 1)) * 4294967296 ^ i := by
  have h1 := val_set S (i + k) (t % 4294967296) hi
  rw [val_take_succ]
  generalize b.getD k 0 = y at *
  generalize S.getD (i + k) 0 = s at *
  have e : t = 4294967296 * (t / 4294967296) + t % 4294967296 := by omega
  generalize t / 4294967296 = q at *
  generalize t % 4294967296 = r at *
  generalize val (S.set (i + k) r) = S' at *
  generalize val S = S0 at *
  generalize val (b.take k) = B at *
  rw [show i + (k + 1) = (i + k) + 1 from rfl, Nat.pow_succ]
  rw [Nat.pow_add] at *
  generalize 4294967296 ^ i = P at *
  generalize 4294967296 ^ k = Q at *
  have e1 : q * (P * Q * 4294967296) = P * Q * (4294967296 * q) := by grind
  have e2 : P * Q * t = P * Q * (4294967296 * q) + P * Q * r := by rw [← Nat.mul_add, ← e]
  have e3 : P * Q * t = P * Q * (x * y) + P * Q * s + P * Q * c := by rw [ht, Nat.mul_add, Nat.mul_add]
  have e4 : x * (B + Q * y) * P = x * B * P + P * Q * (x * y) := by grind
  rw [e1, e4]
  rw [Nat.mul_comm c] at h
  omega
/-- The end of an outer step of a product. -/
theorem mul_row {S b : List Nat} {i m x c V : Nat} (hi : i + m < S.length) (h0 : S.getD (i + m) 0 = 0) (hm : b.length = m) (h : val S + c * 4294967296 ^ (i + m) = V + x * val (b.take m) * 4294967296 ^ i) :
    val (S.set (i + m) c) = V + x * val b * 4294967296 ^ i := by
  have h1 := val_set S (i + m) c hi
  rw [h0] at h1
  rw [List.take_of_length_le (by omega)] at h
  rw [Nat.mul_comm c] at h
  omega

/-- One step of a division by a word, from the top down: T stands for what was done. -/
theorem short_step {x T q r w : Nat} (h : T = q * w + r) : x + 4294967296 * T = ((r * 4294967296 + x) / w + 4294967296 * q) * w + (r * 4294967296 + x) % w := by
  have e := Nat.div_add_mod (r * 4294967296 + x) w
  generalize (r * 4294967296 + x) / w = d at *
  generalize (r * 4294967296 + x) % w = s at *
  subst h
  grind
end Mag
namespace Mag

/-- The estimate of a digit: as long as a test holds, the estimate is too great. -/
theorem est_dec {digit q top next num rest u2 V U R : Nat} (hn : digit * top + rest = num) (hU : U < (num * 4294967296 + u2 + 1) * R) (hV : (top * 4294967296 + next) * R ≤ V) (hq : q * V ≤ U) (hq2 : q < 4294967296)
    (h : 4294967296 ≤ digit ∨ rest * 4294967296 + u2 < digit * next) : q < digit := by
  rcases h with h | h
  · omega
  · rcases Nat.lt_or_ge q digit with hlt | hge
    · exact hlt
    · have h1 : digit * V ≤ q * V := Nat.mul_le_mul_right _ hge
      have h2 : digit * ((top * 4294967296 + next) * R) ≤ digit * V := Nat.mul_le_mul_left _ hV
      have h3 : num * 4294967296 + u2 + 1 ≤ digit * (top * 4294967296 + next) := by
        have : digit * (top * 4294967296 + next) = digit * top * 4294967296 + digit * next := by grind
        rw [this]
        have : num * 4294967296 = digit * top * 4294967296 + rest * 4294967296 := by rw [← hn]; grind
        omega
      have h4 : (num * 4294967296 + u2 + 1) * R ≤ digit * (top * 4294967296 + next) * R := Nat.mul_le_mul_right _ h3
      have h5 : digit * (top * 4294967296 + next) * R = digit * ((top * 4294967296 + next) * R) := by grind
      omega
/-- Where the tests fail the estimate is at most one too great. -/
theorem est_end {digit top next num rest u2 V U R : Nat} (hn : digit * top + rest = num) (hU : (num * 4294967296 + u2) * R ≤ U) (hV : V < (top * 4294967296 + next + 1) * R) (hVR : 4294967296 * R ≤ V) (hd : digit < 4294967296)
    (h : digit * next ≤ rest * 4294967296 + u2) : digit * V < U + V := by
  have h1 : digit * V ≤ digit * ((top * 4294967296 + next + 1) * R) := Nat.mul_le_mul_left _ (by omega)
  have e1 : digit * ((top * 4294967296 + next + 1) * R) = (digit * (top * 4294967296 + next)) * R + digit * R := by grind
  have h2 : digit * (top * 4294967296 + next) ≤ num * 4294967296 + u2 := by
    have : digit * (top * 4294967296 + next) = digit * top * 4294967296 + digit * next := by grind
    rw [this]
    have : num * 4294967296 = digit * top * 4294967296 + rest * 4294967296 := by rw [← hn]; grind
    omega
  have h3 : (digit * (top * 4294967296 + next)) * R ≤ (num * 4294967296 + u2) * R := Nat.mul_le_mul_right _ h2
  rcases Nat.eq_zero_or_pos R with h0 | h0
  · subst h0
    simp at hV
  · have h4 : (digit + 1) * R ≤ 4294967296 * R := Nat.mul_le_mul_right _ (by omega)
    rw [Nat.add_mul] at h4
    omega

/-- One step of the subtraction of a multiple: d + B * (what is owed) . -/
theorem take_step {u v ds : List Nat} {i c w : Nat} {q : Nat} (hd : ds.length = i) (h : val ds + q * val (v.take i) = val (u.take i) + (c + w) * 4294967296 ^ i) {c' w' d : Nat}
    (e : d + c + w + q * v.getD i 0 = u.getD i 0 + (c' + w') * 4294967296) : val (ds ++ [d]) + q * val (v.take (i + 1)) = val (u.take (i + 1)) + (c' + w') * 4294967296 ^ (i + 1) := by
  rw [val_take_succ, val_take_succ, val_snoc, hd, Nat.pow_succ]
  generalize u.getD i 0 = x at *
  generalize v.getD i 0 = y at *
  generalize 4294967296 ^ i = P at *
  have e2 : P * d + P * c + P * w + P * (q * y) = P * x + P * ((c' + w') * 4294967296) := by
    rw [← Nat.mul_add, ← Nat.mul_add, ← Nat.mul_add, ← Nat.mul_add, e]
  have e3 : (c' + w') * (P * 4294967296) = P * ((c' + w') * 4294967296) := by grind
  have e4 : (c + w) * P = P * c + P * w := by grind
  have e5 : q * (val (v.take i) + P * y) = q * val (v.take i) + P * (q * y) := by grind
  rw [e3, e5]
  rw [e4] at h
  omega
end Mag
namespace Mag

theorem val_drop_cons {l : List Nat} {j : Nat} (h : j < l.length) : val (l.drop j) = l.getD j 0 + 4294967296 * val (l.drop (j + 1)) := by
  rw [List.drop_eq_getElem_cons h, val_cons, List.getD_eq_getElem?_getD, List.getElem?_eq_getElem h]; rfl
theorem val_split (l : List Nat) (j : Nat) (h : j ≤ l.length) : val l = val (l.take j) + 4294967296 ^ j * val (l.drop j) := by
  conv => lhs; rw [← List.take_append_drop j l]
  rw [val_append, List.length_take, Nat.min_eq_left h]
theorem val_zero_drop {l : List Nat} {n : Nat} (hn : n ≤ l.length) (h : val l < 4294967296 ^ n) : val (l.drop n) = 0 := by
  have h1 := val_split l n hn
  rcases Nat.eq_zero_or_pos (val (l.drop n)) with h0 | h0
  · exact h0
  · have : 4294967296 ^ n * 1 ≤ 4294967296 ^ n * val (l.drop n) := Nat.mul_le_mul_left _ h0
    omega
theorem getD_of_val_zero {l : List Nat} (h : val l = 0) (i : Nat) : l.getD i 0 = 0 := by
  induction l generalizing i with
  | nil => rfl
  | cons x l ih =>
    simp only [val] at h
    cases i with
    | zero => simp; omega
    | succ i => simp only [List.getD_cons_succ]; exact ih (by omega) i
theorem getD_drop' (l : List Nat) (j i : Nat) : (l.drop j).getD i 0 = l.getD (j + i) 0 := by
  rw [List.getD_eq_getElem?_getD, List.getD_eq_getElem?_getD, List.getElem?_drop]
theorem getD_take' (l : List Nat) {n i : Nat} (h : i < n) : (l.take n).getD i 0 = l.getD i 0 := by
  rw [List.getD_eq_getElem?_getD, List.getD_eq_getElem?_getD, List.getElem?_take_of_lt h]

/-- What a digit's window stands for. -/
theorem window {u v : List Nat} {j n : Nat} (hu : Ws u) (hv : Ws v) (hvn : v.length = n) (hj : j + n + 1 ≤ u.length) (hlt : val (u.drop (j + 1)) < val v) :
    val (u.drop j) = val ((u.drop j).take (n + 1)) ∧ val ((u.drop j).take (n + 1)) < 4294967296 * val v ∧ val (u.drop (j + n + 1)) = 0 := by
  have h1 := val_lt hv
  rw [hvn] at h1
  have h2 := val_zero_drop (l := u.drop (j + 1)) (n := n) (by rw [List.length_drop]; omega) (by omega)
  rw [List.drop_drop] at h2
  have e : val (u.drop (j + n + 1)) = 0 := by rw [← h2]; congr 2; omega
  have h3 := val_split (u.drop j) (n + 1) (by rw [List.length_drop]; omega)
  rw [List.drop_drop, show j + (n + 1) = j + n + 1 by omega, e, Nat.mul_zero, Nat.add_zero] at h3
  have h4 := val_drop_cons (l := u) (j := j) (by omega)
  have h5 := hu.getD j
  refine ⟨h3, ?_, e⟩
  rw [← h3, h4]
  generalize val (u.drop (j + 1)) = x at *
  generalize val v = y at *
  generalize u.getD j 0 = z at *
  clear h1 h2 h3 h4
  omega

/-- A digit is put: what it does to the division's equation. -/
theorem digit_put {A V q : Nat} {out u u' : List Nat} {j n : Nat} (hj : j + n + 1 ≤ u.length) (hjo : j < out.length)
    (hd : A = val (out.drop (j + 1)) * 4294967296 ^ (j + 1) * V + val u) (hU' : val ((u'.drop j).take (n + 1)) + q * V = val ((u.drop j).take (n + 1)))
    (hz : val (u.drop (j + n + 1)) = 0) (hl : u'.length = u.length) (ht : u'.take j = u.take j) (hdr : u'.drop (j + n + 1) = u.drop (j + n + 1)) :
    A = val ((out.set j q).drop j) * 4294967296 ^ j * V + val u' ∧ val (u'.drop j) = val ((u'.drop j).take (n + 1)) := by
  have e1 := val_split u j (by omega)
  have e2 := val_split u' j (by omega)
  have e3 := val_split (u.drop j) (n + 1) (by rw [List.length_drop]; omega)
  have e4 := val_split (u'.drop j) (n + 1) (by rw [List.length_drop]; omega)
  rw [List.drop_drop, show j + (n + 1) = j + n + 1 by omega, hz, Nat.mul_zero, Nat.add_zero] at e3
  rw [List.drop_drop, show j + (n + 1) = j + n + 1 by omega, hdr, hz, Nat.mul_zero, Nat.add_zero] at e4
  rw [ht] at e2
  have e5 : val ((out.set j q).drop j) = q + 4294967296 * val (out.drop (j + 1)) := by
    rw [val_drop_cons (by simpa using hjo), List.drop_set_of_lt (by omega)]
    rw [List.getD_eq_getElem?_getD, List.getElem?_set_self (by simpa using hjo)]; rfl
  refine ⟨?_, e4⟩
  rw [e5, hd, e1, e2, Nat.pow_succ]
  have e6 : val (u.drop j) = val (u'.drop j) + q * V := by rw [e3, e4, hU']
  rw [e6]
  generalize val (out.drop (j + 1)) = o
  generalize 4294967296 ^ j = P
  generalize val (u'.drop j) = x
  generalize val (u.take j) = t
  grind

/-- The three words at a window's head. -/
theorem top3 {u : List Nat} {n W : Nat} (hu : Ws u) (hn : 2 ≤ n) (hl : u.length = n + 1) (hW : W = (u.getD n 0 * 4294967296 + u.getD (n - 1) 0) * 4294967296 + u.getD (n - 2) 0) :
    W * 4294967296 ^ (n - 2) ≤ val u ∧ val u < (W + 1) * 4294967296 ^ (n - 2) := by
  obtain ⟨m, rfl⟩ : ∃ m, n = m + 2 := ⟨n - 2, by omega⟩
  simp only [Nat.add_sub_cancel, show m + 2 - 1 = m + 1 by omega] at hW ⊢
  have h1 := val_split u m (by omega)
  have h2 := val_lt (hu.take m)
  rw [List.length_take, Nat.min_eq_left (by omega)] at h2
  have h3 := val_drop_cons (l := u) (j := m) (by omega)
  have h4 := val_drop_cons (l := u) (j := m + 1) (by omega)
  have h5 := val_drop_cons (l := u) (j := m + 1 + 1) (by omega)
  rw [List.drop_of_length_le (by omega : u.length ≤ m + 1 + 1 + 1), val_nil] at h5
  have e : val (u.drop m) = W := by
    rw [show m + 1 + 1 = m + 2 from rfl] at h5 h4; omega
  rw [e] at h1
  generalize 4294967296 ^ m = P at *
  have e7 : P * W = W * P := Nat.mul_comm _ _
  have e8 : (W + 1) * P = W * P + P := by rw [Nat.add_mul, Nat.one_mul]
  rw [e7] at h1
  rw [e8]
  generalize W * P = Z at *
  clear e e7 e8 h3 h4
  constructor <;> omega
/-- The two words at a divisor's head. -/
theorem top2 {v : List Nat} {n W : Nat} (hv : Ws v) (hn : 2 ≤ n) (hl : v.length = n) (hW : W = v.getD (n - 1) 0 * 4294967296 + v.getD (n - 2) 0) :
    W * 4294967296 ^ (n - 2) ≤ val v ∧ val v < (W + 1) * 4294967296 ^ (n - 2) := by
  obtain ⟨m, rfl⟩ : ∃ m, n = m + 2 := ⟨n - 2, by omega⟩
  simp only [Nat.add_sub_cancel, show m + 2 - 1 = m + 1 by omega] at hW ⊢
  have h1 := val_split v m (by omega)
  have h2 := val_lt (hv.take m)
  rw [List.length_take, Nat.min_eq_left (by omega)] at h2
  have h3 := val_drop_cons (l := v) (j := m) (by omega)
  have h4 := val_drop_cons (l := v) (j := m + 1) (by omega)
  rw [List.drop_of_length_le (by omega : v.length ≤ m + 1 + 1), val_nil] at h4
  have e : val (v.drop m) = W := by omega
  rw [e] at h1
  generalize 4294967296 ^ m = P at *
  have e7 : P * W = W * P := Nat.mul_comm _ _
  have e8 : (W + 1) * P = W * P + P := by rw [Nat.add_mul, Nat.one_mul]
  rw [e7] at h1
  rw [e8]
  generalize W * P = Z at *
  clear e e7 e8 h3 h4
  constructor <;> omega

/-- The rest is shifted back: a step. D is 2 to the shift. -/
theorem unshift_step {u ds : List Nat} {i D E d z : Nat} (hd : ds.length = i) (hDE : D * E = 4294967296) (h : val ds * D + z = val (u.take i) + u.getD i 0 % D * 4294967296 ^ i)
    (e : d = u.getD i 0 / D + u.getD (i + 1) 0 % D * E) : val (ds ++ [d]) * D + z = val (u.take (i + 1)) + u.getD (i + 1) 0 % D * 4294967296 ^ (i + 1) := by
  rw [val_snoc, val_take_succ, hd, Nat.pow_succ]
  generalize u.getD i 0 = x at *
  generalize u.getD (i + 1) 0 % D = y at *
  have ex := Nat.div_add_mod x D
  generalize x / D = p at *
  generalize x % D = r at *
  generalize 4294967296 ^ i = P at *
  subst e
  have e1 : P * (p + y * E) * D = P * (D * p) + y * (P * (D * E)) := by grind
  rw [Nat.add_mul, e1, hDE]
  have e2 : P * x = P * (D * p) + P * r := by rw [← Nat.mul_add, ex]
  rw [e2, Nat.mul_comm P r]
  omega
/-- A word times a power of two, put into its two places. -/
theorem shift_step {a O : List Nat} {i D x : Nat} (hi : i + 1 < O.length) (hz : O.getD (i + 1) 0 = 0) (h : val O = val (a.take i) * D) (hx : x = a.getD i 0 * D) {lo : Nat} (hlo : lo = O.getD i 0 + x % 4294967296) :
    val ((O.set i lo).set (i + 1) (x / 4294967296)) = val (a.take (i + 1)) * D := by
  have h1 := val_set O i lo (by omega)
  have h2 := val_set (O.set i lo) (i + 1) (x / 4294967296) (by simpa using hi)
  have e0 : (O.set i lo).getD (i + 1) 0 = 0 := by
    rw [List.getD_eq_getElem?_getD, List.getElem?_set_ne (by omega), ← List.getD_eq_getElem?_getD, hz]
  rw [e0] at h2
  rw [val_take_succ, Nat.pow_succ] at *
  generalize O.getD i 0 = g at *
  generalize a.getD i 0 = y at *
  have ex := Nat.div_add_mod x 4294967296
  generalize x / 4294967296 = p at *
  generalize x % 4294967296 = r at *
  generalize 4294967296 ^ i = P at *
  subst hlo
  have e1 : (val (a.take i) + P * y) * D = val (a.take i) * D + P * x := by rw [Nat.add_mul, hx]; grind
  have e2 : P * x = P * 4294967296 * p + P * r := by rw [← ex]; grind
  have e3 : P * (g + r) = P * g + P * r := by grind
  rw [e1, e2]
  omega
end Mag
namespace Mag
theorem div_start {a b u v : List Nat} {D L n : Nat} (hu : u.length = L + 1) (ha : Ws a) (hL : a.length = L) (hbn : b.length = n) (hb : Nz b) (hn : 1 ≤ n) (hnL : n ≤ L) (hD : 0 < D) (e1 : val u = val a * D) (e2 : val v = val b * D) :
    val (u.drop (L - n + 1)) < val v := by
  have h1 := val_split u (L - n + 1) (by omega)
  have h2 := val_lt ha
  have h3 := hb.ge (by intro e; subst e; simp at hbn; omega)
  rw [hL] at h2
  rw [hbn] at h3
  have e3 : 4294967296 ^ L = 4294967296 ^ (L - n + 1) * 4294967296 ^ (n - 1) := by rw [← Nat.pow_add]; congr 1; omega
  have hP := pow_pos (L - n + 1)
  rw [e3] at h2
  rw [e1] at h1
  generalize val (u.drop (L - n + 1)) = x at *
  generalize val (u.take (L - n + 1)) = y at *
  generalize 4294967296 ^ (L - n + 1) = P at *
  generalize 4294967296 ^ (n - 1) = Q at *
  have h4 : val a * D < P * Q * D := Nat.mul_lt_mul_of_pos_right h2 hD
  have h5 : P * x < P * (Q * D) := by rw [Nat.mul_assoc] at h4; omega
  have h6 : x < Q * D := Nat.lt_of_mul_lt_mul_left h5
  have h7 : Q * D ≤ val b * D := Nat.mul_le_mul_right _ h3
  omega
theorem div_end {A B D q U V : Nat} (hD : 0 < D) (h : A * D = q * V + U) (hV : V = B * D) (hlt : U < V) : ∃ r, U = r * D ∧ A = q * B + r ∧ r < B := by
  subst hV
  have h1 : q * B ≤ A := by
    have : q * B * D ≤ A * D := by rw [Nat.mul_assoc]; omega
    exact Nat.le_of_mul_le_mul_right this hD
  refine ⟨A - q * B, ?_, by omega, ?_⟩
  · rw [Nat.sub_mul, Nat.mul_assoc]; omega
  · have : (A - q * B) * D < B * D := by rw [Nat.sub_mul, Nat.mul_assoc]; omega
    exact Nat.lt_of_mul_lt_mul_right this
theorem unshift_end {u ds : List Nat} {n D E r : Nat} (hD : 0 < D) (hDE : D * E = 4294967296) (hn : 1 ≤ n) (hnu : n ≤ u.length) (hz : val (u.drop n) = 0) (hr : val u = r * D)
    (h : val ds * D + u.getD 0 0 % D = val (u.take n) + u.getD n 0 % D * 4294967296 ^ n) : val ds = r := by
  have h1 := val_split u n hnu
  rw [hz, Nat.mul_zero, Nat.add_zero] at h1
  have h2 : u.getD n 0 = 0 := by have := getD_of_val_zero hz 0; rwa [getD_drop', Nat.add_zero] at this
  rw [h2, Nat.zero_mod, Nat.zero_mul, Nat.add_zero, ← h1, hr] at h
  have h3 : u.getD 0 0 % D = 0 := by
    have h4 := val_drop_cons (l := u) (j := 0) (by omega)
    rw [List.drop_zero, hr] at h4
    generalize u.getD 0 0 = x at *
    generalize val (u.drop (0 + 1)) = y at *
    have h5 : x = D * r - D * (E * y) := by
      rw [← Nat.mul_assoc, hDE, Nat.mul_comm D r, h4]; omega
    rw [h5, ← Nat.mul_sub]
    exact Nat.mul_mod_right _ _
  rw [h3, Nat.add_zero] at h
  exact Nat.eq_of_mul_eq_mul_right hD h
end Mag
namespace DecM
open Go.Lib

/-- k decimal digits of n, zeros ahead. -/
def padD : Nat → Nat → List UInt8
  | 0, _ => []
  | k + 1, n => padD k (n / 10) ++ [UInt8.ofNat (48 + n % 10)]

theorem padD_length (k n : Nat) : (padD k n).length = k := by
  induction k generalizing n with
  | zero => rfl
  | succ k ih => simp [padD, ih]
theorem dec_small {n : Nat} (h : n < 10) : decDigits n = [UInt8.ofNat (48 + n)] := by rw [decDigits, dif_pos h]
theorem dec_big {n : Nat} (h : 10 ≤ n) : decDigits n = decDigits (n / 10) ++ [UInt8.ofNat (48 + n % 10)] := by rw [decDigits, dif_neg (by omega)]
theorem dec_ne (n : Nat) : decDigits n ≠ [] := by
  intro e
  have h := decDigits_length n
  rw [e] at h
  have := nDigits_pos n
  simp at h; omega
theorem dec_glue (k : Nat) : ∀ (q r : Nat), 0 < q → r < 10 ^ k → decDigits (q * 10 ^ k + r) = decDigits q ++ padD k r := by
  induction k with
  | zero => intro q r _ hr; simp at hr; simp [hr, padD]
  | succ k ih =>
    intro q r hq hr
    have e1 : q * 10 ^ (k + 1) = q * 10 ^ k * 10 := by rw [Nat.pow_succ, Nat.mul_assoc]
    have hp : 0 < 10 ^ k := Nat.pow_pos (by decide)
    have h1 : 1 * 1 ≤ q * 10 ^ k := Nat.mul_le_mul hq hp
    rw [Nat.pow_succ] at hr
    rw [e1, dec_big (by omega), show (q * 10 ^ k * 10 + r) / 10 = q * 10 ^ k + r / 10 by omega, ih q (r / 10) hq (by omega), show (q * 10 ^ k * 10 + r) % 10 = r % 10 by omega, padD, List.append_assoc]
theorem padD_zero (k : Nat) : padD k 0 = List.replicate k 48 := by
  induction k with
  | zero => rfl
  | succ k ih => simp only [padD, Nat.zero_div, ih]; rw [List.replicate_succ']; rfl
theorem padD_dec (k : Nat) : ∀ (n : Nat), 0 < k → n < 10 ^ k → padD k n = List.replicate (k - (decDigits n).length) 48 ++ decDigits n := by
  induction k with
  | zero => intro n h; omega
  | succ k ih =>
    intro n _ hn
    rw [Nat.pow_succ] at hn
    by_cases h10 : n < 10
    · rw [dec_small h10, padD, show n / 10 = 0 by omega, padD_zero, Nat.mod_eq_of_lt h10]; simp
    · have hk : 0 < k := by
        rcases Nat.eq_zero_or_pos k with h0 | h0
        · subst h0; simp at hn; omega
        · exact h0
      rw [dec_big (by omega), padD, ih (n / 10) hk (by omega), List.append_assoc, List.length_append, List.length_singleton]
      congr 2; omega
theorem dec_length_le {k n : Nat} (hk : 0 < k) (h : n < 10 ^ k) : (decDigits n).length ≤ k := by
  have h1 := padD_dec k n hk h
  have h2 := congrArg List.length h1
  rw [padD_length] at h2
  simp at h2; omega

/-- The number that digits spell. -/
def digV (l : List UInt8) : Nat := l.foldl (fun a c => a * 10 + (c.toNat - 48)) 0
def isDig (c : UInt8) : Bool := 48 ≤ c.toNat && c.toNat ≤ 57
theorem foldl_dig (l : List UInt8) (a : Nat) : l.foldl (fun a c => a * 10 + (c.toNat - 48)) a = a * 10 ^ l.length + digV l := by
  induction l generalizing a with
  | nil => simp [digV]
  | cons c l ih =>
    simp only [List.foldl_cons, digV, List.length_cons]
    rw [ih, ih (0 * 10 + (c.toNat - 48))]
    simp only [Nat.pow_succ, Nat.zero_mul, Nat.zero_add]
    grind
theorem digV_append (a b : List UInt8) : digV (a ++ b) = digV a * 10 ^ b.length + digV b := by
  conv => lhs; unfold digV
  rw [List.foldl_append, foldl_dig]
  rfl
theorem digV_snoc (a : List UInt8) (c : UInt8) : digV (a ++ [c]) = digV a * 10 + (c.toNat - 48) := by
  rw [digV_append]; simp [digV]
theorem digV_cons (c : UInt8) (a : List UInt8) : digV (c :: a) = (c.toNat - 48) * 10 ^ a.length + digV a := by
  have := digV_append [c] a
  simpa [digV] using this
theorem digV_lt {l : List UInt8} (h : ∀ c ∈ l, isDig c = true) : digV l < 10 ^ l.length := by
  induction l with
  | nil => simp [digV]
  | cons c l ih =>
    rw [digV_cons, List.length_cons, Nat.pow_succ]
    have h1 := ih fun x hx => h x (by simp [hx])
    have h2 := h c (by simp)
    simp [isDig] at h2
    have h3 : (c.toNat - 48) * 10 ^ l.length ≤ 9 * 10 ^ l.length := Nat.mul_le_mul_right _ (by omega)
    omega
theorem ofNat_dig {n : Nat} (h : n < 10) : (UInt8.ofNat (48 + n)).toNat = 48 + n := by
  rw [UInt8.toNat_ofNat']; omega
theorem dec_isDig (n : Nat) : ∀ c ∈ decDigits n, isDig c = true := by
  induction n using Nat.strongRecOn with
  | ind n ih =>
    intro c hc
    by_cases h : n < 10
    · rw [dec_small h] at hc
      simp at hc; subst hc
      have := ofNat_dig h
      simp [isDig]; omega
    · rw [dec_big (by omega), List.mem_append, List.mem_singleton] at hc
      rcases hc with hc | rfl
      · exact ih (n / 10) (by omega) c hc
      · have := ofNat_dig (n := n % 10) (by omega)
        simp [isDig]; omega
theorem padD_isDig (k n : Nat) : ∀ c ∈ padD k n, isDig c = true := by
  induction k generalizing n with
  | zero => intro c hc; simp [padD] at hc
  | succ k ih =>
    intro c hc
    rw [padD, List.mem_append, List.mem_singleton] at hc
    rcases hc with hc | rfl
    · exact ih _ c hc
    · have := ofNat_dig (n := n % 10) (by omega)
      simp [isDig]; omega
theorem digV_dec (n : Nat) : digV (decDigits n) = n := by
  induction n using Nat.strongRecOn with
  | ind n ih =>
    by_cases h : n < 10
    · rw [dec_small h]; have := ofNat_dig h; simp [digV]; omega
    · rw [dec_big (by omega), digV_snoc, ih (n / 10) (by omega)]
      have := ofNat_dig (n := n % 10) (by omega)
      omega
theorem dec_inj {a b : Nat} (h : decDigits a = decDigits b) : a = b := by
  rw [← digV_dec a, h, digV_dec]
/-- Digits without a zero ahead are the text of their number. -/
theorem dec_digV (l : List UInt8) (hd : ∀ c ∈ l, isDig c = true) (hn : l ≠ []) (h0 : l.head? = some 48 → l.length = 1) : decDigits (digV l) = l := by
  induction h : l.length using Nat.strongRecOn generalizing l with
  | ind n ih =>
    rcases List.eq_nil_or_concat l with rfl | ⟨k, c, rfl⟩
    · exact absurd rfl hn
    · rw [List.concat_eq_append] at *
      have hc := hd c (by simp)
      simp only [isDig, Bool.and_eq_true, decide_eq_true_eq] at hc
      rw [digV_snoc]
      have ec : UInt8.ofNat (48 + (c.toNat - 48)) = c := by
        apply UInt8.toNat_inj.1
        rw [ofNat_dig (by omega)]; omega
      by_cases hk : k = []
      · subst hk
        rw [show digV [] = 0 from rfl, Nat.zero_mul, Nat.zero_add, dec_small (by omega), ec]; rfl
      · have hlen : 1 ≤ k.length := by cases k with | nil => exact absurd rfl hk | cons a b => simp
        have hh : k.head? ≠ some 48 := by
          intro e
          have := h0 (by rw [List.head?_append, e]; rfl)
          rw [List.length_append, List.length_singleton] at this; omega
        have hpos : 0 < digV k := by
          cases k with
          | nil => exact absurd rfl hk
          | cons x k' =>
            rw [digV_cons]
            have hx := hd x (by simp)
            simp only [isDig, Bool.and_eq_true, decide_eq_true_eq] at hx
            have : x.toNat ≠ 48 := by intro e; apply hh; simp; exact UInt8.toNat_inj.1 e
            have hp : 0 < 10 ^ k'.length := Nat.pow_pos (by decide)
            have : 1 * 1 ≤ (x.toNat - 48) * 10 ^ k'.length := Nat.mul_le_mul (by omega) hp
            omega
        rw [dec_big (by omega), show (digV k * 10 + (c.toNat - 48)) / 10 = digV k by omega, show (digV k * 10 + (c.toNat - 48)) % 10 = c.toNat - 48 by omega, ec,
          ih k.length (by rw [← h, List.length_append]; simp) k (fun x hx => hd x (by simp [hx])) hk (fun e => absurd e hh) rfl]
theorem digV_padD (k : Nat) : ∀ n, n < 10 ^ k → digV (padD k n) = n := by
  induction k with
  | zero => intro n h; simp at h; simp [padD, digV, h]
  | succ k ih =>
    intro n h
    rw [Nat.pow_succ] at h
    rw [padD, digV_snoc, ih _ (by omega)]
    have := ofNat_dig (n := n % 10) (by omega)
    omega
theorem dec_head (n : Nat) (h : 0 < n) : (decDigits n).head? ≠ some 48 := by
  induction n using Nat.strongRecOn with
  | ind n ih =>
    by_cases h1 : n < 10
    · rw [dec_small h1]
      intro e
      have e1 : UInt8.ofNat (48 + n) = 48 := by simpa only [List.head?_cons, Option.some.injEq] using e
      have h2 := ofNat_dig h1
      rw [e1] at h2
      have h3 : (48 : UInt8).toNat = 48 := rfl
      omega
    · rw [dec_big (by omega), List.head?_append]
      have := ih (n / 10) (by omega) (by omega)
      intro e
      cases hh : (decDigits (n / 10)).head? with
      | none => simp [List.head?_eq_none_iff] at hh; exact dec_ne _ hh
      | some x => rw [hh] at e this; simp at e; subst e; exact this rfl
theorem dec_zero : decDigits 0 = [48] := by rw [dec_small (by decide)]; rfl
end DecM
namespace Mag
theorem norm_step {l : List Nat} {k : Nat} (h0 : 0 < k) (hk : k ≤ l.length) (h : l[k - 1] = 0) : val (l.take (k - 1)) = val (l.take k) := by
  obtain ⟨m, rfl⟩ : ∃ m, k = m + 1 := ⟨k - 1, by omega⟩
  rw [val_take_succ, List.getD_eq_getElem?_getD, List.getElem?_eq_getElem (by omega)]
  simp only [Nat.add_sub_cancel] at *
  simp [h]
theorem norm_end {l : List Nat} {k : Nat} (h0 : 0 < k) (hk : k ≤ l.length) (h : l[k - 1] ≠ 0) : Nz (l.take k) := by
  obtain ⟨m, rfl⟩ : ∃ m, k = m + 1 := ⟨k - 1, by omega⟩
  rw [List.take_succ_eq_append_getElem (by omega)]
  exact Nz.snoc h
end Mag
namespace Mag
theorem drop_pred_eq {a b : List Nat} {k : Nat} (h0 : 0 < k) (ha : k ≤ a.length) (hb : k ≤ b.length) (he : a[k - 1] = b[k - 1]) (hd : a.drop k = b.drop k) : a.drop (k - 1) = b.drop (k - 1) := by
  obtain ⟨m, rfl⟩ : ∃ m, k = m + 1 := ⟨k - 1, by omega⟩
  simp only [Nat.add_sub_cancel] at *
  rw [List.drop_eq_getElem_cons (by omega : m < a.length), List.drop_eq_getElem_cons (by omega : m < b.length), he, hd]
theorem cmp_top' {a b : List Nat} {k : Nat} (ha : Ws a) (hl : a.length = b.length) (h0 : 0 < k) (hk : k ≤ a.length) (hlt : a[k - 1] < b[k - 1]) (hd : a.drop k = b.drop k) : val a < val b := by
  obtain ⟨m, rfl⟩ : ∃ m, k = m + 1 := ⟨k - 1, by omega⟩
  simp only [Nat.add_sub_cancel] at *
  refine cmp_top ha hl (i := m) (by omega) ?_ hd
  rw [List.getD_eq_getElem?_getD, List.getD_eq_getElem?_getD, List.getElem?_eq_getElem (by omega), List.getElem?_eq_getElem (by omega)]
  exact hlt
end Mag
namespace Mag
theorem set_mid (ds : List Nat) (k m : Nat) (hk : ds.length = k) (hm : 0 < m) (x : Nat) : (ds ++ List.replicate m 0).set k x = (ds ++ [x]) ++ List.replicate (m - 1) 0 := by
  obtain ⟨m', rfl⟩ : ∃ m', m = m' + 1 := ⟨m - 1, by omega⟩
  rw [List.set_append_right _ _ (by omega), show k - ds.length = 0 by omega, List.replicate_succ, List.set_cons_zero]
  simp
theorem getD_lt {l : List Nat} {k : Nat} (h : k < l.length) : l.getD k 0 = l[k] := by
  rw [List.getD_eq_getElem?_getD, List.getElem?_eq_getElem h]; rfl
theorem getD_ge {l : List Nat} {k : Nat} (h : l.length ≤ k) : l.getD k 0 = 0 := by
  rw [List.getD_eq_getElem?_getD, List.getElem?_eq_none h]; rfl
end Mag
