/-
  The texts of fractions, plain (for the laws of package point).
-/
import Derived.Test.YtfbbnphpapmpcaaGreatDoorF10
namespace Go.Proofs.YtfbbnphpapmpcaaGreatDoor
open Go.RowKit Mag
open DecM

theorem itoa_nat (m : Nat) : Lib.itoa (m : Int) = Lib.decDigits m := by
  unfold Lib.itoa
  rw [if_neg (by omega), Int.toNat_natCast]
theorem top_ten : top ≤ 10 ^ 4933 := by rw [top_eq, topW_eq]; decide +kernel
theorem two_64 : (18446744073709551616 : Int).natAbs < top := by rw [top_eq, topW_eq]; decide +kernel
theorem itoa_5000 {z : Int} (h : z.natAbs < top) : (Lib.itoa z).length ≤ 5000 := by
  obtain ⟨k, hk⟩ : ∃ k, k = 4933 := ⟨_, rfl⟩
  have h1 := top_ten
  rw [← hk] at h1
  have := Txt.itoa_len (k := k) (by omega) (Nat.lt_of_lt_of_le h h1)
  omega
theorem dec_lit {l : List UInt8} {n : Nat} (hd : l.all isDig = true) (hn : l ≠ []) (h0 : l.head? ≠ some 48) (hv : digV l = n) : Lib.decDigits n = l := by
  rw [← hv]
  exact dec_digV l (List.all_eq_true.1 hd) hn fun e => absurd e h0
theorem itoa_1 : Lib.itoa 1 = [49] := by
  have := itoa_nat 1
  rw [dec_small (by omega)] at this
  exact this
theorem mk_rat {p q : Int} (hq : q ≠ 0) : mkP p q = (Rat.divInt p q).num ∧ mkQ p q = ((Rat.divInt p q).den : Int) := by
  rw [Rat.num_divInt, Rat.den_divInt, if_neg hq]
  unfold mkP mkQ
  rw [Int.gcd_comm p q]
  exact ⟨rfl, (Int.natCast_ediv _ _).symm⟩
theorem rat_pos (a : Rat) : (0 : Int) < a.den := by have := a.den_pos; omega
theorem rat_cop (a : Rat) : Int.gcd a.num a.den = 1 := a.reduced
theorem rat_den_ne (a : Rat) : (a.den : Int) ≠ 0 := by have := rat_pos a; omega
theorem rat_self (a : Rat) : Rat.divInt a.num a.den = a := Rat.num_divInt_den a
theorem rat_ext {a b : Rat} (h : a.num = b.num) (k : (a.den : Int) = b.den) : a = b := Rat.ext h (by omega)
theorem divInt_le {p q : Int} (hq : q ≠ 0) : (Rat.divInt p q).num.natAbs ≤ p.natAbs ∧ ((Rat.divInt p q).den : Int).natAbs ≤ q.natAbs := by
  obtain ⟨h1, h2⟩ := mk_rat (p := p) hq
  rw [← h1, ← h2]
  unfold mkP mkQ
  constructor
  · refine Nat.le_trans (Int.natAbs_ediv_le_natAbs _ _) ?_
    rw [Int.natAbs_mul]
    rcases Int.lt_or_gt_of_ne hq with h | h
    · rw [Int.sign_eq_neg_one_of_neg h]; simp
    · rw [Int.sign_eq_one_of_pos h]; simp
  · exact Nat.le_trans (Int.natAbs_ediv_le_natAbs _ _) (by simp)
/-- The text of a rational number. -/
def rtext (a : Rat) : List UInt8 := ftext a.num (a.den : Int)
/-- In front of the first '/', and behind it. -/
def topS (l : List UInt8) : List UInt8 := l.takeWhile (· != 47)
def botS (l : List UInt8) : List UInt8 := if (47 : UInt8) ∈ l then (l.dropWhile (· != 47)).tail else [49]
def parR0 (p q : Int × Int) (l : List UInt8) : Rat × Int :=
  if p.2 ≠ 0 ∨ q.2 ≠ 0 then (0, 2) else if q.1 = 0 then (0, 2) else if rtext (Rat.divInt p.1 q.1) = l then (Rat.divInt p.1 q.1, 0) else (0, 2)
/-- What a text spells. -/
def parR (l : List UInt8) : Rat × Int := parR0 (Txt.num top (topS l)) (Txt.num top (botS l)) l
theorem no47_dec (n : Nat) : (47 : UInt8) ∉ Lib.decDigits n := fun h => by
  have := dec_isDig n 47 h
  simp [isDig] at this
theorem no47_itoa (z : Int) : (47 : UInt8) ∉ Lib.itoa z := by
  unfold Lib.itoa
  split
  · intro h
    rcases List.mem_cons.1 h with h | h
    · exact absurd h (by decide)
    · exact no47_dec _ h
  · exact no47_dec _
theorem takeWhile_all {l : List UInt8} (h : (47 : UInt8) ∉ l) : l.takeWhile (· != 47) = l := by
  induction l with
  | nil => rfl
  | cons c l ih =>
    have hc : (c != 47) = true := by simp; exact fun e => h (by simp [e])
    rw [List.takeWhile_cons, hc, if_pos rfl, ih fun k => h (List.mem_cons_of_mem _ k)]
theorem take_slash {l : List UInt8} (h : (47 : UInt8) ∉ l) (m : List UInt8) : (l ++ 47 :: m).takeWhile (· != 47) = l ∧ (l ++ 47 :: m).dropWhile (· != 47) = 47 :: m := by
  induction l with
  | nil => simp
  | cons c l ih =>
    have hc : (c != 47) = true := by simp; exact fun e => h (by simp [e])
    obtain ⟨h1, h2⟩ := ih fun k => h (List.mem_cons_of_mem _ k)
    rw [List.cons_append, List.takeWhile_cons, List.dropWhile_cons, hc, if_pos rfl, if_pos rfl, h1, h2]
    exact ⟨rfl, rfl⟩
theorem rat_int {a : Rat} (h : (a.den : Int) = 1) : Rat.divInt a.num 1 = a := by rw [← h]; exact rat_self a
theorem num_one : Txt.num top [49] = (1, 0) := by
  have := Txt.num_itoa (T := top) (z := 1) one_fits (by rw [itoa_1]; decide)
  rwa [itoa_1] at this
/-- A fraction's own text spells it. -/
theorem parR_text {a : Rat} (hp : a.num.natAbs < top) (hq : (a.den : Int).natAbs < top) : parR (rtext a) = (a, 0) := by
  have ep := Txt.num_itoa (T := top) (z := a.num) hp (itoa_5000 hp)
  have eq := Txt.num_itoa (T := top) (z := a.den) hq (itoa_5000 hq)
  by_cases h : (a.den : Int) = 1
  · have e : rtext a = Lib.itoa a.num := by unfold rtext ftext; rw [if_pos h]
    have h1 : topS (rtext a) = Lib.itoa a.num := by rw [e]; exact takeWhile_all (no47_itoa _)
    have h2 : botS (rtext a) = [49] := by rw [e]; exact if_neg (no47_itoa _)
    unfold parR parR0
    rw [h1, h2, ep, num_one, rat_int h]
    simp
  · have e : rtext a = Lib.itoa a.num ++ 47 :: Lib.itoa a.den := by unfold rtext ftext; rw [if_neg h]
    have ht := take_slash (no47_itoa a.num) (Lib.itoa a.den)
    have h1 : topS (rtext a) = Lib.itoa a.num := by rw [e]; exact ht.1
    have h2 : botS (rtext a) = Lib.itoa a.den := by
      unfold botS
      rw [if_pos (by rw [e]; simp), e, ht.2]; rfl
    unfold parR parR0
    rw [h1, h2, ep, eq, rat_self]
    simp
    exact a.den_nz
theorem rtext_inj {a b : Rat} (ha : a.num.natAbs < top ∧ (a.den : Int).natAbs < top) (hb : b.num.natAbs < top ∧ (b.den : Int).natAbs < top) (h : rtext a = rtext b) : a = b := by
  have h1 := parR_text ha.1 ha.2
  rw [h, parR_text hb.1 hb.2] at h1
  exact (congrArg Prod.fst h1).symm
theorem parR_err (l : List UInt8) : ((parR l).2 = 0 ∧ rtext (parR l).1 = l) ∨ ((parR l).2 = 2 ∧ (parR l).1 = 0) := by
  unfold parR parR0
  split
  · exact .inr ⟨rfl, rfl⟩
  · split
    · exact .inr ⟨rfl, rfl⟩
    · split
      · rename_i h; exact .inl ⟨rfl, h⟩
      · exact .inr ⟨rfl, rfl⟩
theorem divInt_fits {p q : Int} (hp : p.natAbs < top) (hq : q.natAbs < top) (h0 : q ≠ 0) : (Rat.divInt p q).num.natAbs < top ∧ ((Rat.divInt p q).den : Int).natAbs < top :=
  ⟨Nat.lt_of_le_of_lt (divInt_le h0).1 hp, Nat.lt_of_le_of_lt (divInt_le h0).2 hq⟩
end Go.Proofs.YtfbbnphpapmpcaaGreatDoor
