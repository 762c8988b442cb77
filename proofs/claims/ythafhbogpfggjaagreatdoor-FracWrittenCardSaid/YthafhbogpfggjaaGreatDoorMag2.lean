/-
  Plain arithmetic: what the long division stands on. No program in it.
-/
import Derived.Test.YthafhbogpfggjaaGreatDoorMag
namespace Mag

theorem top_word {b : List Nat} {k : Nat} (hb : Ws b) (hl : b.length = k + 1) : b.getD k 0 * 4294967296 ^ k ≤ val b ∧ val b < (b.getD k 0 + 1) * 4294967296 ^ k := by
  have h1 := val_split b k (by omega)
  have h2 := val_lt (hb.take k)
  rw [List.length_take, Nat.min_eq_left (by omega)] at h2
  have h3 := val_drop_cons (l := b) (j := k) (by omega)
  rw [List.drop_of_length_le (by omega : b.length ≤ k + 1), val_nil] at h3
  have e : val (b.drop k) = b.getD k 0 := by omega
  rw [e] at h1
  generalize b.getD k 0 = t at *
  generalize 4294967296 ^ k = P at *
  have e1 : P * t = t * P := Nat.mul_comm _ _
  have e2 : (t + 1) * P = t * P + P := by rw [Nat.add_mul, Nat.one_mul]
  rw [e1] at h1
  rw [e2]
  generalize t * P = Z at *
  clear e e1 e2 h3
  constructor <;> omega
/-- The divisor, shifted: its topmost word vanishes, the one below is great. -/
theorem div_setup {b V : List Nat} {k D E t : Nat} (hb : Ws b) (hl : b.length = k + 1) (ht : t = b.getD k 0) (hV : Ws V) (hVl : V.length = k + 2) (hv : val V = val b * D) (hDE : D * E = 4294967296) (hlo : 2147483648 ≤ t * D) (hhi : t * D < 4294967296) :
    val (V.take (k + 1)) = val b * D ∧ 2147483648 ≤ V.getD k 0 := by
  obtain ⟨h1, h2⟩ := top_word hb hl
  rw [← ht] at h1 h2
  have hD : 0 < D := by
    rcases Nat.eq_zero_or_pos D with h | h
    · subst h; simp at hlo
    · exact h
  have h3 : (t + 1) * D ≤ 4294967296 := by
    rw [← hDE] at hhi ⊢
    rw [Nat.mul_comm t D] at hhi
    have h4 : t < E := Nat.lt_of_mul_lt_mul_left hhi
    rw [Nat.mul_comm]
    exact Nat.mul_le_mul_left _ h4
  have h5 : val V < 4294967296 ^ (k + 1) := by
    rw [hv, Nat.pow_succ]
    have h6 : val b * D < (t + 1) * 4294967296 ^ k * D := Nat.mul_lt_mul_of_pos_right h2 hD
    have h7 : (t + 1) * 4294967296 ^ k * D = (t + 1) * D * 4294967296 ^ k := by grind
    have h8 : (t + 1) * D * 4294967296 ^ k ≤ 4294967296 * 4294967296 ^ k := Nat.mul_le_mul_right _ h3
    rw [Nat.mul_comm (4294967296 ^ k)]
    omega
  have h9 := val_zero_drop (l := V) (n := k + 1) (by omega) h5
  have h10 := val_split V (k + 1) (by omega)
  rw [h9, Nat.mul_zero, Nat.add_zero] at h10
  refine ⟨h10 ▸ hv, ?_⟩
  obtain ⟨_, g2⟩ := top_word (b := V.take (k + 1)) (k := k) (hV.take _) (by rw [List.length_take]; omega)
  rw [← h10, getD_take' _ (by omega : k < k + 1), hv] at g2
  have g3 : t * 4294967296 ^ k * D ≤ val b * D := Nat.mul_le_mul_right _ h1
  have g4 : t * 4294967296 ^ k * D = t * D * 4294967296 ^ k := by grind
  have g5 : t * D * 4294967296 ^ k < (V.getD k 0 + 1) * 4294967296 ^ k := by omega
  have g6 := Nat.lt_of_mul_lt_mul_right g5
  omega
theorem pow_split {s : Nat} (hs : s < 32) : 2 ^ s * 2 ^ (32 - s) = 4294967296 := by
  rw [← Nat.pow_add, show s + (32 - s) = 32 by omega]

/-- What the digit's window gives. -/
theorem digit_setup {u v : List Nat} {j k : Nat} (hu : Ws u) (hv : Ws v) (hvl : v.length = k + 2) (hj : j + (k + 2) + 1 ≤ u.length) (hlt : val (u.drop (j + 1)) < val v) :
    ∃ W, W = val ((u.drop j).take (k + 3)) ∧ val (u.drop j) = W ∧ W < 4294967296 * val v ∧ val (u.drop (j + (k + 2) + 1)) = 0 ∧
      ((u.getD (j + (k + 2)) 0 * 4294967296 + u.getD (j + (k + 2) - 1) 0) * 4294967296 + u.getD (j + k) 0) * 4294967296 ^ k ≤ W ∧
      W < ((u.getD (j + (k + 2)) 0 * 4294967296 + u.getD (j + (k + 2) - 1) 0) * 4294967296 + u.getD (j + k) 0 + 1) * 4294967296 ^ k := by
  obtain ⟨h1, h2, h3⟩ := window hu hv hvl hj hlt
  have hl : ((u.drop j).take (k + 3)).length = k + 2 + 1 := by rw [List.length_take, List.length_drop]; omega
  have h4 := top3 (u := (u.drop j).take (k + 3)) (n := k + 2) ((hu.drop j).take _) (by omega) hl rfl
  rw [getD_take' _ (by omega), getD_take' _ (by omega), getD_take' _ (by omega), getD_drop', getD_drop', getD_drop'] at h4
  simp only [Nat.add_sub_cancel] at h4
  rw [show j + (k + 2 - 1) = j + (k + 2) - 1 by omega] at h4
  exact ⟨_, rfl, h1, h2, h3, h4.1, h4.2⟩
end Mag
namespace Mag
/-- What a divisor's two topmost words give. -/
theorem div_top {v : List Nat} {k tp nx : Nat} (hv : Ws v) (hl : v.length = k + 2) (htp : tp = v.getD (k + 1) 0) (hnx : nx = v.getD k 0) (h2 : 2147483648 ≤ tp) :
    (tp * 4294967296 + nx) * 4294967296 ^ k ≤ val v ∧ val v < (tp * 4294967296 + nx + 1) * 4294967296 ^ k ∧ 4294967296 * 4294967296 ^ k ≤ val v := by
  have h := top2 (v := v) (n := k + 2) hv (by omega) hl rfl
  simp only [Nat.add_sub_cancel, show k + 2 - 1 = k + 1 by omega] at h
  rw [← htp, ← hnx] at h
  refine ⟨h.1, h.2, Nat.le_trans (Nat.mul_le_mul_right _ (by omega)) h.1⟩
theorem num_lim {W V num ue tp nx R : Nat} (h1 : (num * 4294967296 + ue) * R ≤ W) (h2 : W < 4294967296 * V) (h3 : V < (tp * 4294967296 + nx + 1) * R) (hnx : nx < 4294967296) : num < tp * 4294967296 + 4294967296 := by
  have h4 : 4294967296 * V < 4294967296 * ((tp * 4294967296 + nx + 1) * R) := by omega
  have h5 : 4294967296 * ((tp * 4294967296 + nx + 1) * R) = (4294967296 * (tp * 4294967296 + nx + 1)) * R := (Nat.mul_assoc _ _ _).symm
  have h6 : (num * 4294967296 + ue) * R < (4294967296 * (tp * 4294967296 + nx + 1)) * R := by omega
  have h7 := Nat.lt_of_mul_lt_mul_right h6
  omega
theorem est_break {d r tp num : Nat} (hn : d * tp + r = num) (hr : 4294967296 ≤ r) (hl : num < tp * 4294967296 + 4294967296) : d < 4294967296 := by
  rcases Nat.lt_or_ge d 4294967296 with h | h
  · exact h
  · have : 4294967296 * tp ≤ d * tp := Nat.mul_le_mul_right _ h
    omega
theorem est_next {d r tp num : Nat} (hn : d * tp + r = num) (hd : 0 < d) : (d - 1) * tp + (r + tp) = num := by
  obtain ⟨e, rfl⟩ : ∃ e, d = e + 1 := ⟨d - 1, by omega⟩
  rw [Nat.add_sub_cancel, Nat.add_mul, Nat.one_mul] at *
  omega
/-- All that the search for a digit wants to know of its window. -/
structure Est (W V num ue tp nx R q : Nat) : Prop where
  w1 : (num * 4294967296 + ue) * R ≤ W
  w2 : W < (num * 4294967296 + ue + 1) * R
  v1 : (tp * 4294967296 + nx) * R ≤ V
  v2 : V < (tp * 4294967296 + nx + 1) * R
  v3 : 4294967296 * R ≤ V
  n1 : num < tp * 4294967296 + 4294967296
  x1 : nx < 4294967296
  q1 : q * V ≤ W
  q2 : q < 4294967296
  p0 : 0 < tp
/-- The state of the search. -/
structure Srch (num tp q d r : Nat) : Prop where
  eq : d * tp + r = num
  le : q ≤ d
theorem Srch.dec {W V num ue tp nx R q d r : Nat} (h : Est W V num ue tp nx R q) (hs : Srch num tp q d r) (ht : 4294967296 ≤ d ∨ r * 4294967296 + ue < d * nx) : 0 < d ∧ Srch num tp q (d - 1) (r + tp) := by
  have h1 := est_dec hs.eq h.w2 h.v1 h.q1 h.q2 ht
  exact ⟨by omega, est_next hs.eq (by omega), by omega⟩
theorem Srch.brk {W V num ue tp nx R q d r : Nat} (h : Est W V num ue tp nx R q) (hs : Srch num tp q d r) (hr : 4294967296 ≤ r) : d < 4294967296 ∧ q ≤ d ∧ d * V < W + V := by
  have h1 := est_break hs.eq hr h.n1
  refine ⟨h1, hs.le, est_end hs.eq h.w1 h.v2 h.v3 h1 ?_⟩
  have h2 : d * nx ≤ 4294967295 * 4294967295 := Nat.mul_le_mul (by omega) (by have := h.x1; omega)
  omega
theorem Srch.fin {W V num ue tp nx R q d r : Nat} (h : Est W V num ue tp nx R q) (hs : Srch num tp q d r) (hd : d < 4294967296) (hle : d * nx ≤ r * 4294967296 + ue) : d < 4294967296 ∧ q ≤ d ∧ d * V < W + V :=
  ⟨hd, hs.le, est_end hs.eq h.w1 h.v2 h.v3 hd hle⟩
end Mag
namespace Mag
theorem Est.start {W V num ue tp nx R q : Nat} (h : Est W V num ue tp nx R q) (hue : ue < 4294967296) : q ≤ num / tp := by
  rw [Nat.le_div_iff_mul_le h.p0]
  have h1 : q * ((tp * 4294967296 + nx) * R) ≤ q * V := Nat.mul_le_mul_left _ h.v1
  have h2 : q * ((tp * 4294967296 + nx) * R) = (q * (tp * 4294967296 + nx)) * R := (Nat.mul_assoc _ _ _).symm
  have h3 := h.w2
  have h4 := h.q1
  have h5 : (q * (tp * 4294967296 + nx)) * R < (num * 4294967296 + ue + 1) * R := by omega
  have h6 := Nat.lt_of_mul_lt_mul_right h5
  have h7 : q * (tp * 4294967296 + nx) = q * tp * 4294967296 + q * nx := by grind
  omega
theorem Srch.start {W V num ue tp nx R q : Nat} (h : Est W V num ue tp nx R q) (hue : ue < 4294967296) : Srch num tp q (num / tp) (num % tp) :=
  ⟨by rw [Nat.mul_comm]; exact Nat.div_add_mod _ _, h.start hue⟩
end Mag
namespace Mag
theorem unshift_word {u0 u1 D E : Nat} (hDE : D * E = 4294967296) (h0 : u0 < 4294967296) : (u1 * 4294967296 + u0) / D % 4294967296 = u0 / D + u1 % D * E ∧ u0 / D + u1 % D * E < 4294967296 := by
  have hD : 0 < D := by
    rcases Nat.eq_zero_or_pos D with h | h
    · subst h; simp at hDE
    · exact h
  have e1 : u1 * 4294967296 + u0 = u0 + u1 * E * D := by rw [← hDE]; grind
  rw [e1, Nat.add_mul_div_right _ _ hD]
  have h1 : u0 / D < E := by rw [Nat.div_lt_iff_lt_mul hD, Nat.mul_comm, hDE]; exact h0
  have h2 := Nat.div_add_mod u1 D
  have h3 := Nat.mod_lt u1 hD
  generalize u1 / D = p at *
  generalize u1 % D = r at *
  generalize u0 / D = z at *
  have h4 : z + r * E < 4294967296 := by
    have : (r + 1) * E ≤ D * E := Nat.mul_le_mul_right _ h3
    rw [hDE, Nat.add_mul, Nat.one_mul] at this
    omega
  refine ⟨?_, h4⟩
  have e2 : z + u1 * E = z + r * E + 4294967296 * p := by rw [← h2, ← hDE]; grind
  rw [e2, Nat.add_mul_mod_self_left, Nat.mod_eq_of_lt h4]
end Mag
