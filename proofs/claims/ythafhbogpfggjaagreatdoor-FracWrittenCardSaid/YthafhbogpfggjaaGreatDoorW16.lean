/-
  The contracts of package wide, said of an Int as one thing.
-/
import Derived.Test.YthafhbogpfggjaaGreatDoorInv0
import Derived.Test.YthafhbogpfggjaaGreatDoorW15
namespace Go.Proofs.YthafhbogpfggjaaGreatDoor
open Go.RowKit Mag

def IV.is (x : IV) (w : World) (z : Int) : Prop := WI w x.neg x.A x.n x.c z
theorem IV.is.on {x : IV} {w w' : World} {z : Int} (h : x.is w z) (hb : Below w.heap.size w w') : x.is w' z := WI.on h hb
theorem IV.is.fits {x : IV} {w : World} {z : Int} (h : x.is w z) : z.natAbs < top := by
  obtain ⟨l, h1, h2, h3, h4, h5⟩ := h
  have := lt_top h3.ws (by omega)
  subst h5
  split <;> simp <;> exact this
theorem IV.is.put2 {x : IV} {w : World} {z : Int} (h : x.is w z) {g : Nat} {t : TypeId} {a b : Value} (hO : Own w g t [a, b]) (ha : ∀ n, a ≠ .int .u32 n) (hb : ∀ n, b ≠ .int .u32 n) (u v : Value) :
    x.is ((w.setCell ⟨g, 0, none⟩ u).setCell ⟨g, 1, none⟩ v) z := WI.put2 h hO ha hb u v
/-- The Int without parts. -/
def IV.zero : IV := ⟨false, none, 0, 0⟩
theorem IV.zero_is (w : World) : IV.zero.is w 0 := WI.zero w

def IntP (w : World) (z : Int) (e : Ending) (w' : World) : Prop := ∃ r : IV, e = .returned (.agg #[.bool r.neg, .slice r.A r.n r.c]) ∧ Below w.heap.size w w' ∧ r.is w' z
def IntE (w : World) (z err : Int) (e : Ending) (w' : World) : Prop := ∃ r : IV, e = .returned (.tuple #[.agg #[.bool r.neg, .slice r.A r.n r.c], .int .i64 err]) ∧ Below w.heap.size w w' ∧ r.is w' z
def DivE (w : World) (q r err : Int) (e : Ending) (w' : World) : Prop := ∃ a b : IV, e = .returned (.tuple #[.agg #[.bool a.neg, .slice a.A a.n a.c], .agg #[.bool b.neg, .slice b.A b.n b.c], .int .i64 err]) ∧ Below w.heap.size w w' ∧ a.is w' q ∧ b.is w' r

section
variable {x y : IV} {a b : Int} {w : World}
theorem neg_iv (hx : x.is w a) : Calls Tryz.prog 56 #[.agg #[.bool x.neg, .slice x.A x.n x.c]] w (IntP w (-a)) :=
  (neg_any hx).mono fun _ _ ⟨n, A, k, c, h1, h2, h3⟩ => ⟨⟨n, A, k, c⟩, h1, h2, h3⟩
theorem compare_iv (hx : x.is w a) (hy : y.is w b) : Calls Tryz.prog 53 #[.agg #[.bool x.neg, .slice x.A x.n x.c], .agg #[.bool y.neg, .slice y.A y.n y.c]] w (RetInt w (cmpI a b)) := Compare_any hx hy
theorem sign_iv (hx : x.is w a) : Calls Tryz.prog 55 #[.agg #[.bool x.neg, .slice x.A x.n x.c]] w (RetInt w (cmpI a 0)) := Sign_any hx
theorem add_iv (hx : x.is w a) (hy : y.is w b) : Calls Tryz.prog 48 #[.agg #[.bool x.neg, .slice x.A x.n x.c], .agg #[.bool y.neg, .slice y.A y.n y.c]] w (IntE w (clip (a + b)) (lim (a + b))) :=
  (Add_any hx hy).mono fun _ _ ⟨n, A, k, c, h1, h2, h3⟩ => ⟨⟨n, A, k, c⟩, h1, h2, h3⟩
theorem sub_iv (hx : x.is w a) (hy : y.is w b) : Calls Tryz.prog 49 #[.agg #[.bool x.neg, .slice x.A x.n x.c], .agg #[.bool y.neg, .slice y.A y.n y.c]] w (IntE w (clip (a - b)) (lim (a - b))) :=
  (Sub_any hx hy).mono fun _ _ ⟨n, A, k, c, h1, h2, h3⟩ => ⟨⟨n, A, k, c⟩, h1, h2, h3⟩
theorem mul_iv (hx : x.is w a) (hy : y.is w b) : Calls Tryz.prog 43 #[.agg #[.bool x.neg, .slice x.A x.n x.c], .agg #[.bool y.neg, .slice y.A y.n y.c]] w (IntE w (clip (a * b)) (lim (a * b))) :=
  (Mul_any hx hy).mono fun _ _ ⟨n, A, k, c, h1, h2, h3⟩ => ⟨⟨n, A, k, c⟩, h1, h2, h3⟩
theorem div_iv (hx : x.is w a) (hy : y.is w b) (h0 : b ≠ 0) : Calls Tryz.prog 46 #[.agg #[.bool x.neg, .slice x.A x.n x.c], .agg #[.bool y.neg, .slice y.A y.n y.c]] w (DivE w (a / b) (a % b) 0) :=
  (Div_any hx hy h0).mono fun _ _ ⟨n, A, k, c, n2, A2, k2, c2, h1, h2, h3, h4⟩ => ⟨⟨n, A, k, c⟩, ⟨n2, A2, k2, c2⟩, h1, h2, h3, h4⟩
theorem div_zero_iv (hy : y.is w 0) : Calls Tryz.prog 46 #[.agg #[.bool x.neg, .slice x.A x.n x.c], .agg #[.bool y.neg, .slice y.A y.n y.c]] w (DivE w 0 0 1) := by
  obtain ⟨l, h1, h2, h3, h4, h5⟩ := hy
  have hv : val l = 0 := by
    split at h5
    · omega
    · omega
  have hl : l = [] := h3.nz.eq_nil hv
  subst hl
  rw [← h1]
  exact (Div_zero (k := x.n)).mono fun _ _ ⟨n, A, k, c, n2, A2, k2, c2, h1, h2, h3, h4⟩ => ⟨⟨n, A, k, c⟩, ⟨n2, A2, k2, c2⟩, h1, h2, h3, h4⟩
theorem gcd_iv (hx : x.is w a) (hy : y.is w b) : Calls Tryz.prog 57 #[.agg #[.bool x.neg, .slice x.A x.n x.c], .agg #[.bool y.neg, .slice y.A y.n y.c]] w (IntP w (Int.gcd a b : Nat)) :=
  (Gcd_any hx hy).mono fun _ _ ⟨n, A, k, c, h1, h2, h3⟩ => ⟨⟨n, A, k, c⟩, h1, h2, h3⟩
theorem from_iv (n : Int) (w : World) (h0 : -9223372036854775808 ≤ n) (h1 : n ≤ 9223372036854775807) : Calls Tryz.prog 37 #[.int .i64 n] w (IntP w n) :=
  (From_any n w h0 h1).mono fun _ _ ⟨n, A, k, c, h1, h2, h3⟩ => ⟨⟨n, A, k, c⟩, h1, h2, h3⟩
theorem small_iv (hx : x.is w a) : Calls Tryz.prog 38 #[.agg #[.bool x.neg, .slice x.A x.n x.c]] w (SmallPost w a) := Small_any hx
theorem string_iv (hx : x.is w a) (ht : Tab w) : Calls Tryz.prog 35 #[.agg #[.bool x.neg, .slice x.A x.n x.c]] w (TxtPost w (Lib.itoa a)) := String_any hx ht
end
end Go.Proofs.YthafhbogpfggjaaGreatDoor
