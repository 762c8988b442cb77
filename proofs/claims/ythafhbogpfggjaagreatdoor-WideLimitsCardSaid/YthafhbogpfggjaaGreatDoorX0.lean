/-
  What the laws of chapter 03 share: how large their integers are.
-/
import Derived.Test.YthafhbogpfggjaaGreatDoorA4
import Derived.Test.YthafhbogpfggjaaGreatDoorL3
namespace Go.Proofs.YthafhbogpfggjaaGreatDoor
open Go.RowKit Mag

/-- Below k digits in base 10000. -/
def Sm (k : Nat) (z : Int) : Prop := z.natAbs < 10000 ^ k
theorem Sm.mono {j k : Nat} {z : Int} (h : Sm j z) (hk : j ≤ k) : Sm k z := Nat.lt_of_lt_of_le h (Nat.pow_le_pow_right (by omega) hk)
theorem Sm.mul {j k : Nat} {a b : Int} (ha : Sm j a) (hb : Sm k b) : Sm (j + k) (a * b) := by
  unfold Sm at *
  rw [Int.natAbs_mul, Nat.pow_add]
  exact Nat.mul_lt_mul'' ha hb
theorem Sm.add {k : Nat} {a b : Int} (ha : Sm k a) (hb : Sm k b) : Sm (k + 1) (a + b) := by
  unfold Sm at *
  rw [Nat.pow_succ]
  have h := Int.natAbs_add_le a b
  generalize 10000 ^ k = P at *
  omega
theorem Sm.neg {k : Nat} {a : Int} (ha : Sm k a) : Sm k (-a) := by
  unfold Sm at *
  rwa [Int.natAbs_neg]
theorem Sm.sub {k : Nat} {a b : Int} (ha : Sm k a) (hb : Sm k b) : Sm (k + 1) (a - b) := by
  rw [Int.sub_eq_add_neg]
  exact ha.add hb.neg
theorem top_1200 : 10000 ^ 1200 ≤ top := by rw [top_eq, topW_eq]; decide +kernel
theorem Sm.top {k : Nat} {z : Int} (h : Sm k z) (hk : k ≤ 1200) : z.natAbs < top := by
  obtain ⟨m, hm⟩ : ∃ m, m = 1200 := ⟨_, rfl⟩
  have h1 := top_1200
  rw [← hm] at h1
  exact Nat.lt_of_lt_of_le (h.mono (by omega : k ≤ m)) h1
theorem Sm.len {k : Nat} {z : Int} (h : Sm k z) {x : IV} {w : World} (hx : NI x w z) : x.n ≤ k := NI.len hx h
theorem Sm.small {z : Int} (h : in64 z) : Sm 5 z := by unfold Sm in64 at *; omega
theorem equal_same {x y : IV} {w : World} {a : Int} (hx : x.is w a) (hy : NI y w a) (ht : Tab w) : Calls Tryz.prog 34 #[.agg #[.bool x.neg, .slice x.A x.n x.c], .agg #[.bool y.neg, .slice y.A y.n y.c]] w (RetBool w true) :=
  (equal_any hx hy ht).mono fun _ _ h => by rwa [decide_eq_true rfl] at h
/-- Number, with a bound of what it makes. -/
theorem Number_sm {w : World} {A : Option Addr} {l : List Int} {c : Nat} (h : IntsIs w A l c) (at_ : Nat) (hat : at_ ≤ 100) (i : Int) (hi : i = (at_ : Int)) :
    Calls Tryz.prog 29 #[.slice A l.length c, .int .i64 i] w (fun e w' => ∃ z : Int, Sm 18 z ∧ RetN w z e w') := by
  subst hi
  exact rNumber_any h at_ hat
theorem add_sm {x y : IV} {w : World} {a b : Int} (hx : x.is w a) (hy : y.is w b) {k : Nat} (h : Sm k (a + b)) (hk : k ≤ 1200) : Calls Tryz.prog 48 #[.agg #[.bool x.neg, .slice x.A x.n x.c], .agg #[.bool y.neg, .slice y.A y.n y.c]] w (IntE w (a + b) 0) := by
  have := add_iv hx hy
  rwa [clip_in (h.top hk), lim_in (h.top hk)] at this
theorem sub_sm {x y : IV} {w : World} {a b : Int} (hx : x.is w a) (hy : y.is w b) {k : Nat} (h : Sm k (a - b)) (hk : k ≤ 1200) : Calls Tryz.prog 49 #[.agg #[.bool x.neg, .slice x.A x.n x.c], .agg #[.bool y.neg, .slice y.A y.n y.c]] w (IntE w (a - b) 0) := by
  have := sub_iv hx hy
  rwa [clip_in (h.top hk), lim_in (h.top hk)] at this
theorem mul_sm {x y : IV} {w : World} {a b : Int} (hx : x.is w a) (hy : y.is w b) {k : Nat} (h : Sm k (a * b)) (hk : k ≤ 1200) : Calls Tryz.prog 43 #[.agg #[.bool x.neg, .slice x.A x.n x.c], .agg #[.bool y.neg, .slice y.A y.n y.c]] w (IntE w (a * b) 0) := by
  have := mul_iv hx hy
  rwa [clip_in (h.top hk), lim_in (h.top hk)] at this
end Go.Proofs.YthafhbogpfggjaaGreatDoor
