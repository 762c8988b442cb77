/-
  Queries, plain: the shapes of tokens; what Atoi reads of them.
-/
import Derived.Test.YtmlpibdincfgbaaDoorK2
namespace Qy
open Go.Lib

theorem foldl_dig (l : List UInt8) (a : Nat) : l.foldl (fun a c => a * 10 + (c.toNat - 48)) a = a * 10 ^ l.length + digV l := by
  induction l generalizing a with
  | nil => simp [digV]
  | cons c l ih =>
    simp only [List.foldl_cons, digV, List.length_cons]
    rw [ih, ih (0 * 10 + (c.toNat - 48))]
    simp only [Nat.pow_succ, Nat.zero_mul, Nat.zero_add]
    grind
theorem digV_append (a b : List UInt8) : digV (a ++ b) = digV a * 10 ^ b.length + digV b := by
  conv => lhs; unfold digV
  rw [List.foldl_append, foldl_dig]
  rfl
theorem digV_cons (c : UInt8) (a : List UInt8) : digV (c :: a) = (c.toNat - 48) * 10 ^ a.length + digV a := by
  have := digV_append [c] a
  simpa [digV] using this
theorem digV_lt {l : List UInt8} (h : ∀ c ∈ l, isD c = true) : digV l < 10 ^ l.length := by
  induction l with
  | nil => simp [digV]
  | cons c l ih =>
    rw [digV_cons, List.length_cons, Nat.pow_succ]
    have h1 := ih fun x hx => h x (by simp [hx])
    have h2 := h c (by simp)
    simp [isD] at h2
    have h3 : (c.toNat - 48) * 10 ^ l.length ≤ 9 * 10 ^ l.length := Nat.mul_le_mul_right _ (by omega)
    omega
theorem parse_digits : ∀ (l : List UInt8) (acc : Nat), (∀ c ∈ l, isD c = true) → acc * 10 ^ l.length + 10 ^ l.length ≤ 10 ^ 18 → parseUint10 acc l = .ok (acc * 10 ^ l.length + digV l)
  | [], acc, _, _ => by simp [parseUint10, digV]
  | c :: l, acc, h, hb => by
    have hc := h c (by simp)
    simp only [isD, Bool.and_eq_true, decide_eq_true_eq] at hc
    rw [List.length_cons, Nat.pow_succ] at hb
    have hp : 0 < 10 ^ l.length := Nat.pow_pos (by decide)
    have h1 : (acc * 10 + 10) * 10 ^ l.length ≤ 10 ^ 18 := by
      have : (acc * 10 + 10) * 10 ^ l.length = acc * (10 ^ l.length * 10) + 10 ^ l.length * 10 := by grind
      omega
    have h2 : (acc * 10 + 10) * 1 ≤ 10 ^ 18 := Nat.le_trans (Nat.mul_le_mul_left _ hp) h1
    rw [parseUint10, if_pos hc, if_neg (by omega), if_neg (by omega)]
    have h3 : (acc * 10 + (c.toNat - 48)) * 10 ^ l.length + 10 ^ l.length ≤ 10 ^ 18 := by
      have : (acc * 10 + (c.toNat - 48)) * 10 ^ l.length + 10 ^ l.length = (acc * 10 + (c.toNat - 48) + 1) * 10 ^ l.length := by grind
      rw [this]
      exact Nat.le_trans (Nat.mul_le_mul_right _ (by omega)) h1
    rw [parse_digits l _ (fun x hx => h x (by simp [hx])) h3, digV_cons, List.length_cons, Nat.pow_succ]
    congr 1
    grind
theorem takeWhile_all {p : UInt8 → Bool} {l : Bs} : ∀ c ∈ l.takeWhile p, p c = true := by
  induction l with
  | nil => intro c h; simp at h
  | cons x l ih =>
    intro c h
    rw [List.takeWhile_cons] at h
    split at h
    · rename_i hx
      rcases List.mem_cons.1 h with rfl | h
      · exact hx
      · exact ih c h
    · cases h
theorem isL_not {c : UInt8} (h : isD c = true ∨ c = 45) : isL c = false := by
  rcases h with h | rfl
  · simp only [isD, isL, Bool.and_eq_true, decide_eq_true_eq] at *
    simp only [Bool.and_eq_false_iff, decide_eq_false_iff_not]
    omega
  · decide
theorem shape_tok (c : UInt8) (s : Bs) : Shape (c :: s.takeWhile (more c)) := by
  intro d w h hd
  injection h with h1 h2
  subst h1
  subst h2
  intro x hx
  have := takeWhile_all x hx
  unfold more at this
  rw [isL_not hd] at this
  have e : (isD c || c == 45) = true := by
    rcases hd with h | h
    · rw [h]; rfl
    · rw [h]; simp
  rw [if_neg (by simp), e] at this
  exact this
theorem toks_good : ∀ (n : Nat) (s : Bs) (i : Nat), s.length ≤ n → Good (toks s i) ∧ ∀ t ∈ toks s i, Shape t.text := by
  intro n
  induction n with
  | zero =>
    intro s i h
    have : s = [] := List.eq_nil_of_length_eq_zero (by omega)
    subst this
    rw [toks]
    refine ⟨⟨[], i, rfl, by simp⟩, fun t ht => ?_⟩
    rw [List.mem_singleton.1 ht]
    intro c w h
    cases h
  | succ n ih =>
    intro s i h
    match s, h with
    | [], _ =>
      rw [toks]
      refine ⟨⟨[], i, rfl, by simp⟩, fun t ht => ?_⟩
      rw [List.mem_singleton.1 ht]
      intro c w h
      cases h
    | c :: s, h =>
      rw [toks]
      simp only [List.length_cons] at h
      split
      · exact ih s (i + 1) (by omega)
      · have hd := drop_le (more c) s
        obtain ⟨⟨pre, m, h1, h2⟩, h3⟩ := ih (s.dropWhile (more c)) (i + 1 + (s.takeWhile (more c)).length) (by omega)
        refine ⟨⟨_ :: pre, m, by rw [h1]; rfl, fun t ht => ?_⟩, fun t ht => ?_⟩
        · rcases List.mem_cons.1 ht with rfl | ht
          · exact ⟨by simp, shape_tok c s⟩
          · exact h2 t ht
        · rcases List.mem_cons.1 ht with rfl | ht
          · exact shape_tok c s
          · exact h3 t ht
theorem numOK_parts {t : Bs} (h : numOK t = true) : 1 ≤ (digs t).length ∧ (digs t).length ≤ 10 ∧ isD ((digs t).headD 0) = true := by
  simp only [numOK, Bool.and_eq_true, decide_eq_true_eq] at h
  exact ⟨h.1.1.1, h.1.1.2, h.1.2⟩
theorem digs_len (t : Bs) : t.length ≤ (digs t).length + 1 := by
  unfold digs
  split
  · simp
  · omega
/-- Digits behind a sign. -/
theorem digs_all {t : Bs} (hs : Shape t) (h : isD ((digs t).headD 0) = true) : ∀ c ∈ digs t, isD c = true := by
  match t, hs, h with
  | [], _, _ => intro c hc; cases hc
  | x :: w, hs, h =>
    by_cases hx : x = 45
    · subst hx
      exact hs 45 w rfl (.inr rfl)
    · have e : digs (x :: w) = x :: w := by
        unfold digs
        split
        · rename_i r e
          injection e with e
          exact absurd e hx
        · rfl
      rw [e] at h ⊢
      intro c hc
      rcases List.mem_cons.1 hc with rfl | hc
      · exact h
      · exact hs x w rfl (.inl h) c hc
theorem atoi_tok {t : Bs} (hs : Shape t) (h : numOK t = true) : atoiAll t = .ok (numV t) ∧ -10000000000 < numV t ∧ numV t < 10000000000 := by
  obtain ⟨h1, h2, h3⟩ := numOK_parts h
  have hd := digs_all hs h3
  have hv := digV_lt hd
  have hp : 10 ^ (digs t).length ≤ 10 ^ 10 := Nat.pow_le_pow_right (by decide) h2
  have hm : parseMag (digs t) = .ok (digV (digs t)) := by
    unfold parseMag
    rw [if_neg (fun e => by rw [e] at h1; simp at h1)]
    have := parse_digits (digs t) 0 hd (by omega)
    rwa [Nat.zero_mul, Nat.zero_add] at this
  match t, h3, hm, hv, hp with
  | [], h3, _, _, _ => simp [digs, isD] at h3
  | x :: w, h3, hm, hv, hp =>
    by_cases hx : x = 45
    · subst hx
      have e : digs (45 :: w) = w := rfl
      rw [e] at hm hv hp
      have en : numV (45 :: w) = -(digV w : Int) := rfl
      rw [en]
      refine ⟨?_, by omega, by omega⟩
      unfold atoiAll
      simp only
      rw [if_pos (by decide), hm]
      simp only
      rw [if_neg (by simp), if_neg (by omega), if_pos (by decide)]
    · have e : digs (x :: w) = x :: w := by
        unfold digs
        split
        · rename_i r e
          injection e with e
          exact absurd e hx
        · rfl
      rw [e] at hm hv hp h3
      have en : numV (x :: w) = (digV (x :: w) : Int) := by
        unfold numV
        rw [if_neg (by simpa using hx), e]
      rw [en]
      have hx3 : isD x = true := h3
      simp only [isD, Bool.and_eq_true, decide_eq_true_eq] at hx3
      refine ⟨?_, by omega, by omega⟩
      unfold atoiAll
      simp only
      rw [if_neg (by omega), hm]
      simp only
      rw [if_neg (by omega), if_neg (by omega), if_neg (by omega)]
end Qy
