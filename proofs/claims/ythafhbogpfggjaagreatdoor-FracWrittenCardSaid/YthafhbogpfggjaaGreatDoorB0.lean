/-
  Fractions in lowest terms as rational numbers: numerators, denominators, bounds, order. No walk in it.
-/
import Derived.Test.YthafhbogpfggjaaGreatDoorF10
import Derived.Test.YthafhbogpfggjaaGreatDoorX9
import Derived.Test.YthafhbogpfggjaaGreatDoorA4
import Derived.Test.YthafhbogpfggjaaGreatDoorKp
namespace Go.Proofs.YthafhbogpfggjaaGreatDoor
open Go.RowKit Mag

theorem mk_rat {p q : Int} (hq : q ≠ 0) : mkP p q = (Rat.divInt p q).num ∧ mkQ p q = ((Rat.divInt p q).den : Int) := by
  rw [Rat.num_divInt, Rat.den_divInt, if_neg hq]
  unfold mkP mkQ
  rw [Int.gcd_comm p q]
  exact ⟨rfl, (Int.natCast_ediv _ _).symm⟩
theorem rat_pos (a : Rat) : (0 : Int) < a.den := by have := a.den_pos; omega
theorem rat_cop (a : Rat) : Int.gcd a.num a.den = 1 := a.reduced
theorem rat_den_ne (a : Rat) : (a.den : Int) ≠ 0 := by have := rat_pos a; omega
theorem rat_self (a : Rat) : Rat.divInt a.num a.den = a := Rat.num_divInt_den a
theorem rat_ext {a b : Rat} (h : a.num = b.num) (k : (a.den : Int) = b.den) : a = b := Rat.ext h (by omega)
/-- Sums, products and quotients. -/
theorem mk_add (a b : Rat) : mkP (a.num * b.den + b.num * a.den) (a.den * b.den) = (a + b).num ∧ mkQ (a.num * b.den + b.num * a.den) (a.den * b.den) = ((a + b).den : Int) := by
  have h := mk_rat (p := a.num * b.den + b.num * a.den) (q := (a.den : Int) * b.den) (Int.mul_ne_zero (rat_den_ne a) (rat_den_ne b))
  rw [← Rat.divInt_add_divInt _ _ (rat_den_ne a) (rat_den_ne b), rat_self, rat_self] at h
  exact h
theorem mk_mul_rat (a b : Rat) : mkP (a.num * b.num) (a.den * b.den) = (a * b).num ∧ mkQ (a.num * b.num) (a.den * b.den) = ((a * b).den : Int) := by
  have h := mk_rat (p := a.num * b.num) (q := (a.den : Int) * b.den) (Int.mul_ne_zero (rat_den_ne a) (rat_den_ne b))
  rw [← Rat.divInt_mul_divInt, rat_self, rat_self] at h
  exact h
theorem mk_div_rat {a b : Rat} (hb : b ≠ 0) : mkP (a.num * b.den) (a.den * b.num) = (a / b).num ∧ mkQ (a.num * b.den) (a.den * b.num) = ((a / b).den : Int) := by
  have hn : b.num ≠ 0 := fun e => hb (Rat.num_eq_zero.1 e)
  have h := mk_rat (p := a.num * b.den) (q := (a.den : Int) * b.num) (Int.mul_ne_zero (rat_den_ne a) hn)
  rw [← Rat.divInt_mul_divInt, rat_self, ← Rat.inv_divInt b.num b.den, rat_self] at h
  exact h
/-- Bounds. -/
def SmR (k : Nat) (a : Rat) : Prop := Sm k a.num ∧ Sm k (a.den : Int)
theorem SmR.mono {j k : Nat} {a : Rat} (h : SmR j a) (hk : j ≤ k) : SmR k a := ⟨h.1.mono hk, h.2.mono hk⟩
theorem Sm.le {k : Nat} {a b : Int} (h : Sm k a) (hb : b.natAbs ≤ a.natAbs) : Sm k b := Nat.lt_of_le_of_lt hb h
theorem divInt_le {p q : Int} (hq : q ≠ 0) : (Rat.divInt p q).num.natAbs ≤ p.natAbs ∧ ((Rat.divInt p q).den : Int).natAbs ≤ q.natAbs := by
  obtain ⟨h1, h2⟩ := mk_rat (p := p) hq
  rw [← h1, ← h2]
  unfold mkP mkQ
  constructor
  · refine Nat.le_trans (Int.natAbs_ediv_le_natAbs _ _) ?_
    rw [Int.natAbs_mul]
    rcases Int.lt_or_gt_of_ne hq with h | h
    · rw [Int.sign_eq_neg_one_of_neg h]; simp
    · rw [Int.sign_eq_one_of_pos h]; simp
  · exact Nat.le_trans (Int.natAbs_ediv_le_natAbs _ _) (by simp)
theorem SmR.divInt {k : Nat} {p q : Int} (hp : Sm k p) (hq : Sm k q) (h0 : q ≠ 0) : SmR k (Rat.divInt p q) := ⟨hp.le (divInt_le h0).1, hq.le (divInt_le h0).2⟩
theorem add_divInt (a b : Rat) : a + b = Rat.divInt (a.num * b.den + b.num * a.den) (a.den * b.den) := by
  rw [← Rat.divInt_add_divInt _ _ (rat_den_ne a) (rat_den_ne b), rat_self, rat_self]
theorem mul_divInt (a b : Rat) : a * b = Rat.divInt (a.num * b.num) (a.den * b.den) := by
  rw [← Rat.divInt_mul_divInt, rat_self, rat_self]
theorem div_divInt (a b : Rat) : a / b = Rat.divInt (a.num * b.den) (a.den * b.num) := by
  rw [← Rat.divInt_mul_divInt, rat_self, ← Rat.inv_divInt b.num b.den, rat_self, Rat.div_def]
theorem SmR.add {j k : Nat} {a b : Rat} (ha : SmR j a) (hb : SmR k b) : SmR (j + k + 1) (a + b) := by
  rw [add_divInt]
  refine SmR.divInt ?_ ((ha.2.mul hb.2).mono (by omega)) (Int.mul_ne_zero (rat_den_ne a) (rat_den_ne b))
  exact (ha.1.mul hb.2).add ((hb.1.mul ha.2).mono (by omega))
theorem SmR.mul {j k : Nat} {a b : Rat} (ha : SmR j a) (hb : SmR k b) : SmR (j + k) (a * b) := by
  rw [mul_divInt]
  exact SmR.divInt (ha.1.mul hb.1) (ha.2.mul hb.2) (Int.mul_ne_zero (rat_den_ne a) (rat_den_ne b))
theorem SmR.neg {k : Nat} {a : Rat} (ha : SmR k a) : SmR k (-a) := ⟨by rw [Rat.neg_num]; exact ha.1.neg, by rw [Rat.neg_den]; exact ha.2⟩
theorem SmR.sub {j k : Nat} {a b : Rat} (ha : SmR j a) (hb : SmR k b) : SmR (j + k + 1) (a - b) := by
  rw [Rat.sub_eq_add_neg]; exact ha.add hb.neg
theorem SmR.div {j k : Nat} {a b : Rat} (ha : SmR j a) (hb : SmR k b) (h0 : b ≠ 0) : SmR (j + k) (a / b) := by
  rw [div_divInt]
  exact SmR.divInt (ha.1.mul hb.2) (ha.2.mul hb.1) (Int.mul_ne_zero (rat_den_ne a) fun e => h0 (Rat.num_eq_zero.1 e))
theorem SmR.zero : SmR 1 0 := ⟨by simp [Sm], by simp [Sm]⟩
/-- What the operations answer: a fraction and an error. -/
def makeR (p q : Int) : Rat × Int := if q = 0 then (0, 1) else (Rat.divInt p q, 0)
def clipR (a : Rat) : Rat × Int := if inR a.num a.den then (a, 0) else (0, 4)
def addOKR (a b : Rat) : Prop := addOK a.num a.den b.num b.den
instance (a b : Rat) : Decidable (addOKR a b) := inferInstanceAs (Decidable (_ ∧ _))
def addR (a b : Rat) : Rat × Int := if addOKR a b then (a + b, 0) else (0, 4)
def mulR (a b : Rat) : Rat × Int := clipR (a * b)
def divR (a b : Rat) : Rat × Int := if b = 0 then (0, 1) else clipR (a / b)
def cmpR (a b : Rat) : Int := cmpI (a.num * b.den) (b.num * a.den)
theorem clipR_ok {k : Nat} {a : Rat} (h : SmR k a) (hk : k ≤ 1200) : clipR a = (a, 0) := if_pos ⟨h.1.top hk, h.2.top hk⟩
theorem mulR_ok {j k : Nat} {a b : Rat} (ha : SmR j a) (hb : SmR k b) (hk : j + k ≤ 1200) : mulR a b = (a * b, 0) := clipR_ok (ha.mul hb) hk
theorem divR_ok {j k : Nat} {a b : Rat} (ha : SmR j a) (hb : SmR k b) (h0 : b ≠ 0) (hk : j + k ≤ 1200) : divR a b = (a / b, 0) := by
  unfold divR
  rw [if_neg h0]
  exact clipR_ok (ha.div hb h0) hk
theorem divR_zero (a : Rat) : divR a 0 = (0, 1) := if_pos rfl
theorem natAbs_div_le (x : Int) (g : Nat) : (x / (g : Int)).natAbs ≤ x.natAbs := Int.natAbs_ediv_le_natAbs _ _
theorem addR_ok {j k : Nat} {a b : Rat} (ha : SmR j a) (hb : SmR k b) (hk : j + k + 1 ≤ 1200) : addR a b = (a + b, 0) := by
  refine if_pos ?_
  unfold addOKR addOK
  generalize Int.gcd (a.den : Int) b.den = g
  have h1 : Sm (j + k) (a.num * ((b.den : Int) / (g : Int))) := ha.1.mul (hb.2.le (natAbs_div_le _ _))
  have h2 : Sm (j + k) (b.num * ((a.den : Int) / (g : Int))) := (hb.1.mul (ha.2.le (natAbs_div_le _ _))).mono (by omega)
  have h3 : Sm (j + k) ((a.den : Int) / (g : Int) * (b.den : Int)) := (ha.2.le (natAbs_div_le _ _)).mul hb.2
  exact ⟨h1.top (by omega), h2.top (by omega), (h1.add h2).top hk, h3.top (by omega)⟩
theorem subR_ok {j k : Nat} {a b : Rat} (ha : SmR j a) (hb : SmR k b) (hk : j + k + 1 ≤ 1200) : addR a (-b) = (a - b, 0) := by
  rw [addR_ok ha hb.neg hk, Rat.sub_eq_add_neg]
/-- The order. -/
theorem cmpR_lt {a b : Rat} (h : a < b) : cmpR a b = -1 := cmpI_lt ((Rat.lt_iff a b).1 h)
theorem cmpR_gt {a b : Rat} (h : b < a) : cmpR a b = 1 := cmpI_gt ((Rat.lt_iff b a).1 h)
theorem cmpR_eq {a b : Rat} (h : a = b) : cmpR a b = 0 := by rw [h]; exact cmpI_eq rfl
theorem cmpR_tri (a b : Rat) : (a < b ∧ cmpR a b = -1) ∨ (a = b ∧ cmpR a b = 0) ∨ (b < a ∧ cmpR a b = 1) := by
  rcases Rat.le_total (a := a) (b := b) with h | h
  · rcases Rat.le_iff_lt_or_eq.1 h with h | h
    · exact .inl ⟨h, cmpR_lt h⟩
    · exact .inr (.inl ⟨h, cmpR_eq h⟩)
  · rcases Rat.le_iff_lt_or_eq.1 h with h | h
    · exact .inr (.inr ⟨h, cmpR_gt h⟩)
    · exact .inr (.inl ⟨h.symm, cmpR_eq h.symm⟩)
theorem cmpR_self (a : Rat) : cmpR a a = 0 := cmpR_eq rfl
theorem cmpR_neg (a b : Rat) : cmpR b a = -cmpR a b := by
  rcases cmpR_tri a b with ⟨h, e⟩ | ⟨h, e⟩ | ⟨h, e⟩
  · rw [e, cmpR_gt h]; rfl
  · rw [e, cmpR_eq h.symm]; rfl
  · rw [e, cmpR_lt h]
theorem cmpR_zero {a b : Rat} : cmpR a b = 0 ↔ a = b := by
  rcases cmpR_tri a b with ⟨h, e⟩ | ⟨h, e⟩ | ⟨h, e⟩
  · rw [e]; exact ⟨fun k => absurd k (by omega), fun k => absurd (k ▸ h) Rat.lt_irrefl⟩
  · rw [e]; exact ⟨fun _ => h, fun _ => rfl⟩
  · rw [e]; exact ⟨fun k => absurd k (by omega), fun k => absurd (k ▸ h) Rat.lt_irrefl⟩
theorem cmpR_le {a b : Rat} : cmpR a b ≤ 0 ↔ a ≤ b := by
  rcases cmpR_tri a b with ⟨h, e⟩ | ⟨h, e⟩ | ⟨h, e⟩
  · rw [e]; exact ⟨fun _ => Rat.le_of_lt h, fun _ => by omega⟩
  · rw [e, h]; exact ⟨fun _ => Rat.le_refl, fun _ => by omega⟩
  · rw [e]; exact ⟨fun k => absurd k (by omega), fun k => absurd h (Rat.not_lt.2 k)⟩
theorem cmpR_trans {a b c : Rat} (h : cmpR a b ≤ 0) (k : cmpR b c ≤ 0) : cmpR a c ≤ 0 := cmpR_le.2 (Rat.le_trans (cmpR_le.1 h) (cmpR_le.1 k))
theorem cmpR_add (a b c : Rat) : cmpR (a + c) (b + c) = cmpR a b := by
  rcases cmpR_tri a b with ⟨h, e⟩ | ⟨h, e⟩ | ⟨h, e⟩
  · rw [e, cmpR_lt (Rat.add_lt_add_right.2 h)]
  · rw [e, h, cmpR_self]
  · rw [e, cmpR_gt (Rat.add_lt_add_right.2 h)]
/-- The sign. -/
def sgnR (a : Rat) : Int := cmpI a.num 0
theorem sgnR_tri (a : Rat) : (a < 0 ∧ sgnR a = -1) ∨ (a = 0 ∧ sgnR a = 0) ∨ (0 < a ∧ sgnR a = 1) := by
  have e : sgnR a = cmpR a 0 := by unfold sgnR cmpR; simp
  rw [e]
  rcases cmpR_tri a 0 with h | h | h
  · exact .inl h
  · exact .inr (.inl h)
  · exact .inr (.inr h)
theorem cmpR_mul (a b c : Rat) : cmpR (a * c) (b * c) = cmpR a b * sgnR c := by
  rcases sgnR_tri c with ⟨h, e⟩ | ⟨h, e⟩ | ⟨h, e⟩
  · have hc : 0 < -c := by
      have := Rat.neg_lt_neg h
      rwa [Rat.neg_zero] at this
    have e1 : ∀ x y : Rat, x < y → y * c < x * c := fun x y hxy => by
      have := Rat.mul_lt_mul_of_pos_right hxy hc
      rw [Rat.mul_neg, Rat.mul_neg] at this
      exact Rat.neg_lt_neg_iff.1 this
    rw [e]
    rcases cmpR_tri a b with ⟨h, e⟩ | ⟨h, e⟩ | ⟨h, e⟩
    · rw [e, cmpR_gt (e1 _ _ h)]; rfl
    · rw [e, h, cmpR_self]; rfl
    · rw [e, cmpR_lt (e1 _ _ h)]; rfl
  · rw [e, h, Rat.mul_zero, Rat.mul_zero, cmpR_self, Int.mul_zero]
  · rw [e, Int.mul_one]
    rcases cmpR_tri a b with ⟨h', e⟩ | ⟨h', e⟩ | ⟨h', e⟩
    · rw [e, cmpR_lt (Rat.mul_lt_mul_of_pos_right h' h)]
    · rw [e, h', cmpR_self]
    · rw [e, cmpR_gt (Rat.mul_lt_mul_of_pos_right h' h)]
/-- The mediant lies between. -/
def medR (a b : Rat) : Rat := Rat.divInt (a.num + b.num) ((a.den : Int) + b.den)
theorem cmpI_of {a b c d : Int} (h1 : a < b ↔ c < d) (h2 : b < a ↔ d < c) : cmpI a b = cmpI c d := by
  unfold cmpI
  simp only [h1, h2]
theorem cmpR_mk {p q r s : Int} (hq : 0 < q) (hs : 0 < s) : cmpR (Rat.divInt p q) (Rat.divInt r s) = cmpI (p * s) (r * q) := by
  obtain ⟨h1, h2⟩ := mk_rat (p := p) (q := q) (by omega)
  obtain ⟨h3, h4⟩ := mk_rat (p := r) (q := s) (by omega)
  have k1 : (0 : Int) < (Int.gcd p q : Nat) := by have := Int.gcd_pos_of_ne_zero_right p (show q ≠ 0 by omega); omega
  have k2 : (0 : Int) < (Int.gcd r s : Nat) := by have := Int.gcd_pos_of_ne_zero_right r (show s ≠ 0 by omega); omega
  have e1 : (Rat.divInt p q).num * (Int.gcd p q : Nat) = p := by
    rw [← h1, mkP, Int.sign_eq_one_of_pos hq, Int.one_mul]; exact Int.ediv_mul_cancel (Int.gcd_dvd_left _ _)
  have e2 : ((Rat.divInt p q).den : Int) * (Int.gcd p q : Nat) = q := by
    rw [← h2, mkQ, show (q.natAbs : Int) = q by omega]; exact Int.ediv_mul_cancel (Int.gcd_dvd_right _ _)
  have e3 : (Rat.divInt r s).num * (Int.gcd r s : Nat) = r := by
    rw [← h3, mkP, Int.sign_eq_one_of_pos hs, Int.one_mul]; exact Int.ediv_mul_cancel (Int.gcd_dvd_left _ _)
  have e4 : ((Rat.divInt r s).den : Int) * (Int.gcd r s : Nat) = s := by
    rw [← h4, mkQ, show (s.natAbs : Int) = s by omega]; exact Int.ediv_mul_cancel (Int.gcd_dvd_right _ _)
  unfold cmpR
  generalize (Rat.divInt p q).num = P at *
  generalize ((Rat.divInt p q).den : Int) = Q at *
  generalize (Rat.divInt r s).num = R at *
  generalize ((Rat.divInt r s).den : Int) = S at *
  generalize ((Int.gcd p q : Nat) : Int) = g at *
  generalize ((Int.gcd r s : Nat) : Int) = h at *
  have f1 : p * s = P * S * (g * h) := by rw [← e1, ← e4]; simp only [Int.mul_left_comm, Int.mul_comm]
  have f2 : r * q = R * Q * (g * h) := by rw [← e3, ← e2]; simp only [Int.mul_left_comm, Int.mul_comm]
  have hg : 0 < g * h := Int.mul_pos k1 k2
  rw [f1, f2]
  exact cmpI_of (Int.mul_lt_mul_right hg).symm (Int.mul_lt_mul_right hg).symm
theorem cmpI_dif (x y z w : Int) (h : x - y = z - w) : cmpI x y = cmpI z w := cmpI_of (by omega) (by omega)
theorem cmpR_med (a b : Rat) : cmpR a (medR a b) = cmpR a b ∧ cmpR (medR a b) b = cmpR a b := by
  have ha := rat_pos a
  have hb := rat_pos b
  constructor
  · have := cmpR_mk (p := a.num) (q := a.den) (r := a.num + b.num) (s := (a.den : Int) + b.den) ha (by omega)
    rw [rat_self] at this
    rw [medR, this]
    exact cmpI_dif _ _ _ _ (by rw [Int.mul_add, Int.add_mul]; omega)
  · have := cmpR_mk (p := a.num + b.num) (q := (a.den : Int) + b.den) (r := b.num) (s := b.den) (by omega) hb
    rw [rat_self] at this
    rw [medR, this]
    exact cmpI_dif _ _ _ _ (by rw [Int.mul_add, Int.add_mul]; omega)
end Go.Proofs.YthafhbogpfggjaaGreatDoor

/-
  (second part)
-/
namespace Go.Proofs.YthafhbogpfggjaaGreatDoor
open Go.RowKit Mag
open Dig (val Ws Nz)

/-- The reference's fraction stands for r. -/
def NR (f : FV) (w : World) (r : Rat) : Prop := NI f.p w r.num ∧ NI f.l w (r.den : Int)
theorem NR.on {f : FV} {w w' : World} {r : Rat} (h : NR f w r) (hb : Below w.heap.size w w') : NR f w' r := ⟨h.1.on hb, h.2.on hb⟩
/-- The program's fraction stands for r. -/
def FR (f : FV) (w : World) (r : Rat) : Prop := f.is w r.num (r.den : Int)
theorem FR.on {f : FV} {w w' : World} {r : Rat} (h : FR f w r) (hb : Below w.heap.size w w') : FR f w' r := FV.is.on h hb
theorem FR.is {f : FV} {w : World} {r : Rat} (h : FR f w r) : f.is w r.num (r.den : Int) := h
def RetNR (w : World) (r : Rat) (e : Ending) (w' : World) : Prop := ∃ f : FV, e = .returned (.agg #[.bool f.p.neg, .slice f.p.A f.p.n f.p.c, .bool f.l.neg, .slice f.l.A f.l.n f.l.c]) ∧ Below w.heap.size w w' ∧ NR f w' r
def RetNRE (w : World) (r : Rat) (err : Int) (e : Ending) (w' : World) : Prop := ∃ f : FV, e = .returned (.tuple #[.agg #[.bool f.p.neg, .slice f.p.A f.p.n f.p.c, .bool f.l.neg, .slice f.l.A f.l.n f.l.c], .int .i64 err]) ∧ Below w.heap.size w w' ∧ NR f w' r
def RetFR (w : World) (r : Rat) (e : Ending) (w' : World) : Prop := ∃ f : FV, e = .returned (.agg #[.bool f.p.neg, .slice f.p.A f.p.n f.p.c, .bool f.l.neg, .slice f.l.A f.l.n f.l.c]) ∧ Below w.heap.size w w' ∧ FR f w' r
def RetFRE (w : World) (r : Rat) (err : Int) (e : Ending) (w' : World) : Prop := ∃ f : FV, e = .returned (.tuple #[.agg #[.bool f.p.neg, .slice f.p.A f.p.n f.p.c, .bool f.l.neg, .slice f.l.A f.l.n f.l.c], .int .i64 err]) ∧ Below w.heap.size w w' ∧ FR f w' r
theorem NR.keeps {f : FV} {w w' : World} {r : Rat} (h : NR f w r) (k : Keeps w w') : NR f w' r := ⟨h.1.keeps k, h.2.keeps k⟩
theorem FR.keeps {f : FV} {w w' : World} {r : Rat} (h : FR f w r) (k : Keeps w w') : FR f w' r := FV.is.keeps h k
/-- A bounded one. -/
def RS (k : Nat) (f : FV) (w : World) : Prop := ∃ r : Rat, SmR k r ∧ NR f w r
theorem RS.on {k : Nat} {f : FV} {w w' : World} (h : RS k f w) (hb : Below w.heap.size w w') : RS k f w' := by
  obtain ⟨r, h1, h2⟩ := h
  exact ⟨r, h1, h2.on hb⟩
theorem RS.keeps {k : Nat} {f : FV} {w w' : World} (h : RS k f w) (hk : Keeps w w') : RS k f w' := by
  obtain ⟨r, h1, h2⟩ := h
  exact ⟨r, h1, h2.keeps hk⟩
/-! Slots that hold them. -/
section
variable {R : World → World → Prop} [StepRel R]
def sNp (z : Int) : Spec R := ⟨fun v w => ∃ x : IV, v = .agg #[.bool x.neg, .slice x.A x.n x.c] ∧ NI x w z, fun ⟨x, e, h⟩ k => ⟨x, e, h.keeps (StepRel.keeps k)⟩⟩
def sWp (z : Int) : Spec R := ⟨fun v w => ∃ x : IV, v = .agg #[.bool x.neg, .slice x.A x.n x.c] ∧ x.is w z, fun ⟨x, e, h⟩ k => ⟨x, e, h.keeps (StepRel.keeps k)⟩⟩
def sRS (k : Nat) : Spec R := ⟨fun v w => ∃ x : FV, v = .agg #[.bool x.p.neg, .slice x.p.A x.p.n x.p.c, .bool x.l.neg, .slice x.l.A x.l.n x.l.c] ∧ RS k x w, fun ⟨x, e, h⟩ u => ⟨x, e, h.keeps (StepRel.keeps u)⟩⟩
def sRSE (k : Nat) : Spec R := ⟨fun v w => ∃ x : FV, v = .tuple #[.agg #[.bool x.p.neg, .slice x.p.A x.p.n x.p.c, .bool x.l.neg, .slice x.l.A x.l.n x.l.c], .int .i64 0] ∧ RS k x w, fun ⟨x, e, h⟩ u => ⟨x, e, h.keeps (StepRel.keeps u)⟩⟩
def sNR (r : Rat) : Spec R := ⟨fun v w => ∃ x : FV, v = .agg #[.bool x.p.neg, .slice x.p.A x.p.n x.p.c, .bool x.l.neg, .slice x.l.A x.l.n x.l.c] ∧ NR x w r, fun ⟨x, e, h⟩ k => ⟨x, e, h.keeps (StepRel.keeps k)⟩⟩
def sFR (r : Rat) : Spec R := ⟨fun v w => ∃ x : FV, v = .agg #[.bool x.p.neg, .slice x.p.A x.p.n x.p.c, .bool x.l.neg, .slice x.l.A x.l.n x.l.c] ∧ FR x w r, fun ⟨x, e, h⟩ k => ⟨x, e, h.keeps (StepRel.keeps k)⟩⟩
def sNRE (r : Rat) (er : Int) : Spec R := ⟨fun v w => ∃ x : FV, v = .tuple #[.agg #[.bool x.p.neg, .slice x.p.A x.p.n x.p.c, .bool x.l.neg, .slice x.l.A x.l.n x.l.c], .int .i64 er] ∧ NR x w r, fun ⟨x, e, h⟩ k => ⟨x, e, h.keeps (StepRel.keeps k)⟩⟩
def sFRE (r : Rat) (er : Int) : Spec R := ⟨fun v w => ∃ x : FV, v = .tuple #[.agg #[.bool x.p.neg, .slice x.p.A x.p.n x.p.c, .bool x.l.neg, .slice x.l.A x.l.n x.l.c], .int .i64 er] ∧ FR x w r, fun ⟨x, e, h⟩ k => ⟨x, e, h.keeps (StepRel.keeps k)⟩⟩
end
/-- An N of at most k digits. -/
def NM (k : Nat) (x : IV) (w : World) : Prop := ∃ z, Sm k z ∧ NI x w z
theorem NM.on {k : Nat} {x : IV} {w w' : World} (h : NM k x w) (hb : Below w.heap.size w w') : NM k x w' := by
  obtain ⟨z, h1, h2⟩ := h
  exact ⟨z, h1, h2.on hb⟩
theorem NM.keeps {k : Nat} {x : IV} {w w' : World} (h : NM k x w) (hk : Keeps w w') : NM k x w' := by
  obtain ⟨z, h1, h2⟩ := h
  exact ⟨z, h1, h2.keeps hk⟩
theorem NM.mono {j k : Nat} {x : IV} {w : World} (h : NM j x w) (hk : j ≤ k) : NM k x w := by
  obtain ⟨z, h1, h2⟩ := h
  exact ⟨z, h1.mono hk, h2⟩
def sNM {R : World → World → Prop} [StepRel R] (k : Nat) : Spec R := ⟨fun v w => ∃ x : IV, v = .agg #[.bool x.neg, .slice x.A x.n x.c] ∧ NM k x w, fun ⟨x, e, h⟩ u => ⟨x, e, h.keeps (StepRel.keeps u)⟩⟩
theorem NI.put4 {x : IV} {w : World} {z : Int} (h : NI x w z) {g : Nat} {t : TypeId} {a b c d : Value} (hO : Own w g t [a, b, c, d]) (ha : ∀ n, a ≠ .int .i64 n) (hb : ∀ n, b ≠ .int .i64 n) (hc : ∀ n, c ≠ .int .i64 n) (hd : ∀ n, d ≠ .int .i64 n) (u v s r : Value) :
    NI x ((((w.setCell ⟨g, 0, none⟩ u).setCell ⟨g, 1, none⟩ v).setCell ⟨g, 2, none⟩ s).setCell ⟨g, 3, none⟩ r) z :=
  (((h.set hO (i := 0) rfl ha u).set (hO.set_ 0 u) (i := 1) rfl hb v).set ((hO.set_ 0 u).set_ 1 v) (i := 2) rfl hc s).set (((hO.set_ 0 u).set_ 1 v).set_ 2 s) (i := 3) rfl hd r
theorem NR.put4 {f : FV} {w : World} {q : Rat} (h : NR f w q) {g : Nat} {t : TypeId} {a b c d : Value} (hO : Own w g t [a, b, c, d]) (ha : ∀ n, a ≠ .int .i64 n) (hb : ∀ n, b ≠ .int .i64 n) (hc : ∀ n, c ≠ .int .i64 n) (hd : ∀ n, d ≠ .int .i64 n) (u v s r : Value) :
    NR f ((((w.setCell ⟨g, 0, none⟩ u).setCell ⟨g, 1, none⟩ v).setCell ⟨g, 2, none⟩ s).setCell ⟨g, 3, none⟩ r) q := ⟨h.1.put4 hO ha hb hc hd _ _ _ _, h.2.put4 hO ha hb hc hd _ _ _ _⟩
theorem FR.put4 {f : FV} {w : World} {q : Rat} (h : FR f w q) {g : Nat} {t : TypeId} {a b c d : Value} (hO : Own w g t [a, b, c, d]) (ha : ∀ n, a ≠ .int .u32 n) (hb : ∀ n, b ≠ .int .u32 n) (hc : ∀ n, c ≠ .int .u32 n) (hd : ∀ n, d ≠ .int .u32 n) (u v s r : Value) :
    FR f ((((w.setCell ⟨g, 0, none⟩ u).setCell ⟨g, 1, none⟩ v).setCell ⟨g, 2, none⟩ s).setCell ⟨g, 3, none⟩ r) q := FV.is.put4 h hO ha hb hc hd _ _ _ _
/-- A fraction is put into its block. -/
theorem put_nr {w w1 : World} {g : Nat} {t : TypeId} {a b c d : Value} (hW : Below w.heap.size w w1) (hg : w.heap.size ≤ g) (hO : Own w1 g t [a, b, c, d]) (ha : ∀ n, a ≠ .int .i64 n) (hb : ∀ n, b ≠ .int .i64 n) (hc : ∀ n, c ≠ .int .i64 n) (hd : ∀ n, d ≠ .int .i64 n) {f : FV} {r : Rat} (hf : NR f w1 r) :
    RetNR w r (.returned (.agg #[.bool f.p.neg, .slice f.p.A f.p.n f.p.c, .bool f.l.neg, .slice f.l.A f.l.n f.l.c])) ((((w1.setCell ⟨g, 0, none⟩ (.bool f.p.neg)).setCell ⟨g, 1, none⟩ (.slice f.p.A f.p.n f.p.c)).setCell ⟨g, 2, none⟩ (.bool f.l.neg)).setCell ⟨g, 3, none⟩ (.slice f.l.A f.l.n f.l.c)) :=
  ⟨f, rfl, Below.put4 hW hg _ _ _ _, hf.put4 hO ha hb hc hd _ _ _ _⟩
theorem put_nre {w w1 : World} {g : Nat} {t : TypeId} {a b c d : Value} (hW : Below w.heap.size w w1) (hg : w.heap.size ≤ g) (hO : Own w1 g t [a, b, c, d]) (ha : ∀ n, a ≠ .int .i64 n) (hb : ∀ n, b ≠ .int .i64 n) (hc : ∀ n, c ≠ .int .i64 n) (hd : ∀ n, d ≠ .int .i64 n) {f : FV} {r : Rat} {err : Int} (hf : NR f w1 r) :
    RetNRE w r err (.returned (.tuple #[.agg #[.bool f.p.neg, .slice f.p.A f.p.n f.p.c, .bool f.l.neg, .slice f.l.A f.l.n f.l.c], .int .i64 err])) ((((w1.setCell ⟨g, 0, none⟩ (.bool f.p.neg)).setCell ⟨g, 1, none⟩ (.slice f.p.A f.p.n f.p.c)).setCell ⟨g, 2, none⟩ (.bool f.l.neg)).setCell ⟨g, 3, none⟩ (.slice f.l.A f.l.n f.l.c)) :=
  ⟨f, rfl, Below.put4 hW hg _ _ _ _, hf.put4 hO ha hb hc hd _ _ _ _⟩
theorem put_fr {w w1 : World} {g : Nat} {t : TypeId} {a b c d : Value} (hW : Below w.heap.size w w1) (hg : w.heap.size ≤ g) (hO : Own w1 g t [a, b, c, d]) (ha : ∀ n, a ≠ .int .u32 n) (hb : ∀ n, b ≠ .int .u32 n) (hc : ∀ n, c ≠ .int .u32 n) (hd : ∀ n, d ≠ .int .u32 n) {f : FV} {r : Rat} (hf : FR f w1 r) :
    RetFR w r (.returned (.agg #[.bool f.p.neg, .slice f.p.A f.p.n f.p.c, .bool f.l.neg, .slice f.l.A f.l.n f.l.c])) ((((w1.setCell ⟨g, 0, none⟩ (.bool f.p.neg)).setCell ⟨g, 1, none⟩ (.slice f.p.A f.p.n f.p.c)).setCell ⟨g, 2, none⟩ (.bool f.l.neg)).setCell ⟨g, 3, none⟩ (.slice f.l.A f.l.n f.l.c)) :=
  ⟨f, rfl, Below.put4 hW hg _ _ _ _, hf.put4 hO ha hb hc hd _ _ _ _⟩
theorem put_fre {w w1 : World} {g : Nat} {t : TypeId} {a b c d : Value} (hW : Below w.heap.size w w1) (hg : w.heap.size ≤ g) (hO : Own w1 g t [a, b, c, d]) (ha : ∀ n, a ≠ .int .u32 n) (hb : ∀ n, b ≠ .int .u32 n) (hc : ∀ n, c ≠ .int .u32 n) (hd : ∀ n, d ≠ .int .u32 n) {f : FV} {r : Rat} {err : Int} (hf : FR f w1 r) :
    RetFRE w r err (.returned (.tuple #[.agg #[.bool f.p.neg, .slice f.p.A f.p.n f.p.c, .bool f.l.neg, .slice f.l.A f.l.n f.l.c], .int .i64 err])) ((((w1.setCell ⟨g, 0, none⟩ (.bool f.p.neg)).setCell ⟨g, 1, none⟩ (.slice f.p.A f.p.n f.p.c)).setCell ⟨g, 2, none⟩ (.bool f.l.neg)).setCell ⟨g, 3, none⟩ (.slice f.l.A f.l.n f.l.c)) :=
  ⟨f, rfl, Below.put4 hW hg _ _ _ _, hf.put4 hO ha hb hc hd _ _ _ _⟩
theorem FracE.fr {w w' : World} {p q err : Int} {e : Ending} {r : Rat} (h : FracE w p q err e w') (hp : p = r.num) (hq : q = (r.den : Int)) : RetFRE w r err e w' := by
  subst hp hq
  exact h
/-! ### The program's functions -/
theorem makeF {x y : IV} {p q : Int} {w : World} (hx : x.is w p) (hy : y.is w q) : Calls Tryz.prog 63 #[.agg #[.bool x.neg, .slice x.A x.n x.c], .agg #[.bool y.neg, .slice y.A y.n y.c]] w (RetFRE w (makeR p q).1 (makeR p q).2) := by
  unfold makeR
  by_cases h : q = 0
  · subst h
    rw [if_pos rfl]
    exact (Make_zero hx hy).mono fun _ _ h => FracE.fr h rfl rfl
  · rw [if_neg h]
    exact (Make_any hx hy h).mono fun _ _ k => FracE.fr k (mk_rat h).1 (mk_rat h).2
theorem ofF (n d : Int) (w : World) (hn : in64 n) (hd : in64 d) (h0 : d ≠ 0) : Calls Tryz.prog 67 #[.int .i64 n, .int .i64 d] w (RetFRE w (Rat.divInt n d) 0) :=
  (Of_any n d w hn.1 hn.2 hd.1 hd.2 h0).mono fun _ _ k => FracE.fr k (mk_rat h0).1 (mk_rat h0).2
theorem addF {f g : FV} {a b : Rat} {w : World} (hf : FR f w a) (hg : FR g w b) : Calls Tryz.prog 74 #[.agg #[.bool f.p.neg, .slice f.p.A f.p.n f.p.c, .bool f.l.neg, .slice f.l.A f.l.n f.l.c], .agg #[.bool g.p.neg, .slice g.p.A g.p.n g.p.c, .bool g.l.neg, .slice g.l.A g.l.n g.l.c]] w (RetFRE w (addR a b).1 (addR a b).2) := by
  refine (AddF_any hf hg).mono fun e w' h => ?_
  unfold addR
  rcases h with ⟨h1, h2⟩ | ⟨h1, h2⟩
  · rw [if_pos (show addOKR a b from h1)]
    exact h2.fr (mk_add a b).1 (mk_add a b).2
  · rw [if_neg (show ¬ addOKR a b from h1)]
    exact h2.fr rfl rfl
theorem subF {f g : FV} {a b : Rat} {w : World} (hf : FR f w a) (hg : FR g w b) : Calls Tryz.prog 76 #[.agg #[.bool f.p.neg, .slice f.p.A f.p.n f.p.c, .bool f.l.neg, .slice f.l.A f.l.n f.l.c], .agg #[.bool g.p.neg, .slice g.p.A g.p.n g.p.c, .bool g.l.neg, .slice g.l.A g.l.n g.l.c]] w (RetFRE w (addR a (-b)).1 (addR a (-b)).2) := by
  refine (SubF_any hf hg).mono fun e w' h => ?_
  unfold addR
  have hm := mk_add a (-b)
  rw [Rat.neg_num, Rat.neg_den] at hm
  rcases h with ⟨h1, h2⟩ | ⟨h1, h2⟩
  · rw [if_pos (show addOKR a (-b) from h1)]
    exact h2.fr hm.1 hm.2
  · rw [if_neg (show ¬ addOKR a (-b) from h1)]
    exact h2.fr rfl rfl
theorem FracL.fr {w w' : World} {p q : Int} {e : Ending} {r : Rat} (h : FracL w p q e w') (hp : p = r.num) (hq : q = (r.den : Int)) : RetFRE w (clipR r).1 (clipR r).2 e w' := by
  subst hp hq
  unfold clipR
  rcases h with ⟨h1, h2⟩ | ⟨h1, h2⟩
  · rw [if_pos h1]; exact h2
  · rw [if_neg h1]; exact h2.fr rfl rfl
theorem mulF {f g : FV} {a b : Rat} {w : World} (hf : FR f w a) (hg : FR g w b) : Calls Tryz.prog 78 #[.agg #[.bool f.p.neg, .slice f.p.A f.p.n f.p.c, .bool f.l.neg, .slice f.l.A f.l.n f.l.c], .agg #[.bool g.p.neg, .slice g.p.A g.p.n g.p.c, .bool g.l.neg, .slice g.l.A g.l.n g.l.c]] w (RetFRE w (mulR a b).1 (mulR a b).2) :=
  (Mul_frac hf hg).mono fun _ _ h => h.fr (mk_mul_rat a b).1 (mk_mul_rat a b).2
theorem divF {f g : FV} {a b : Rat} {w : World} (hf : FR f w a) (hg : FR g w b) : Calls Tryz.prog 80 #[.agg #[.bool f.p.neg, .slice f.p.A f.p.n f.p.c, .bool f.l.neg, .slice f.l.A f.l.n f.l.c], .agg #[.bool g.p.neg, .slice g.p.A g.p.n g.p.c, .bool g.l.neg, .slice g.l.A g.l.n g.l.c]] w (RetFRE w (divR a b).1 (divR a b).2) := by
  refine (DivF_any hf hg).mono fun e w' h => ?_
  unfold divR
  rcases h with ⟨h1, h2⟩ | ⟨h1, h2⟩
  · rw [if_pos (Rat.num_eq_zero.1 h1)]
    exact h2.fr rfl rfl
  · rw [if_neg fun k => h1 (Rat.num_eq_zero.2 k)]
    exact h2.fr (mk_div_rat fun k => h1 (Rat.num_eq_zero.2 k)).1 (mk_div_rat fun k => h1 (Rat.num_eq_zero.2 k)).2
end Go.Proofs.YthafhbogpfggjaaGreatDoor
