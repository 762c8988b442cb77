/-
  Contracts of package wide: From, Small.
-/
import Derived.Test.YtmlpibdincfgbaaDoorW9
import Derived.Test.YtmlpibdincfgbaaDoorT1
import Derived.Test.YtmlpibdincfgbaaDoorW10
import Derived.RegionTactic
import Derived.ChangeAlike
namespace Go.Proofs.YtmlpibdincfgbaaDoor
open Go.RowKit Mag

/-- A store of a struct into a block of two cells. -/
theorem WI.put2 {w : World} {neg : Bool} {A : Option Addr} {n c : Nat} {z : Int} (h : WI w neg A n c z) {g : Nat} {t : TypeId} {x y : Value} (hO : Own w g t [x, y]) (hx : ∀ n, x ≠ .int .u32 n) (hy : ∀ n, y ≠ .int .u32 n) (u v : Value) :
    WI ((w.setCell ⟨g, 0, none⟩ u).setCell ⟨g, 1, none⟩ v) neg A n c z := by
  refine (h.put hO.c0 hx u).put (v := y) ?_ hy v
  rw [cell_put _ _ (by intro e; injection e with _ e; omega)]
  exact hO.c1
theorem two_words {w : World} {m g : Nat} {a b : Int} (hg : w.heap.size = g) (ha : (m % 4294967296 : Nat) = a) (hb : (m / 4294967296 : Nat) = b) : Sl (w.alloc (.cells #[.int .u32 a, .int .u32 b] 175)) (w.alloc (.cells #[.int .u32 a, .int .u32 b] 175)).heap.size (some ⟨g, 0, none⟩) ([m % 4294967296, m / 4294967296].map w32) := by
  subst ha hb hg
  have := Own.new w 175 ([m % 4294967296, m / 4294967296].map w32)
  exact this.sl this.lt
theorem two_val {m : Nat} : val [m % 4294967296, m / 4294967296] = m := by
  simp only [val]
  omega
theorem two_ws {m : Nat} (h : m ≤ 18446744073709551615) : Ws [m % 4294967296, m / 4294967296] :=
  Ws.cons (by omega) (Ws.cons (by omega) Ws.nil)
theorem two_top {m : Nat} (h : m ≤ 18446744073709551615) : val [m % 4294967296, m / 4294967296] < top := lt_top (two_ws h) (by simp)
theorem word_or (r x : Nat) (hr : r < 4294967296) (hx : x < 4294967296) : bits BinOp.or IntKind.u64 (r : Int) ((x : Int) * 4294967296) = (r : Int) + 4294967296 * (x : Int) := by
  have h := u64_or_nat r (x * 4294967296) (by omega) (by omega)
  rw [Nat.or_comm, nat_join 32 _ _ (by omega) (by omega)] at h
  rw [Int.natCast_mul, Int.natCast_add, Int.natCast_mul] at h
  refine Eq.trans h ?_
  rw [Int.add_comm, Int.mul_comm]; rfl
def SmallPost (w : World) (z : Int) (e : Ending) (w' : World) : Prop :=
  Below w.heap.size w w' ∧ ((-9223372036854775808 ≤ z ∧ z ≤ 9223372036854775807 ∧ e = .returned (.tuple #[.int .i64 z, .bool true])) ∨ ((z < -9223372036854775808 ∨ 9223372036854775807 < z) ∧ e = .returned (.tuple #[.int .i64 0, .bool false])))
end Go.Proofs.YtmlpibdincfgbaaDoor

/-
  (second part)
-/
namespace Go.Proofs.YtmlpibdincfgbaaDoor
open Go.RowKit Mag

/-- Four structs of two cells, laid one behind the other. -/
structure Box4 (w W : World) (x0 x1 y0 y1 z0 z1 u0 u1 : Value) : Prop where
  x0 : W.cell? ⟨w.heap.size, 0, none⟩ = some x0
  x1 : W.cell? ⟨w.heap.size, 1, none⟩ = some x1
  y0 : W.cell? ⟨w.heap.size + 1, 0, none⟩ = some y0
  y1 : W.cell? ⟨w.heap.size + 1, 1, none⟩ = some y1
  z0 : W.cell? ⟨w.heap.size + 1 + 1, 0, none⟩ = some z0
  z1 : W.cell? ⟨w.heap.size + 1 + 1, 1, none⟩ = some z1
  u0 : W.cell? ⟨w.heap.size + 1 + 1 + 1, 0, none⟩ = some u0
  u1 : W.cell? ⟨w.heap.size + 1 + 1 + 1, 1, none⟩ = some u1
  fx : ∀ o, W.frozen? ⟨w.heap.size, o, none⟩ = false
  fy : ∀ o, W.frozen? ⟨w.heap.size + 1, o, none⟩ = false
  fz : ∀ o, W.frozen? ⟨w.heap.size + 1 + 1, o, none⟩ = false
  fu : ∀ o, W.frozen? ⟨w.heap.size + 1 + 1 + 1, o, none⟩ = false
  bel : Below w.heap.size w W
  sz : w.heap.size + 3 < W.heap.size
theorem Box4.mk_ (w : World) (x0 x1 y0 y1 z0 z1 u0 u1 : Value) (t u v s : TypeId) : Box4 w ((((w.alloc (.cells #[x0, x1] t)).alloc (.cells #[y0, y1] u)).alloc (.cells #[z0, z1] v)).alloc (.cells #[u0, u1] s)) x0 x1 y0 y1 z0 z1 u0 u1 := by
  refine ⟨?_, ?_, ?_, ?_, ?_, ?_, ?_, ?_, ?_, ?_, ?_, ?_, by go_grown, by simp⟩
  all_goals simp [go_sem]
theorem Box4.on {w W W' : World} {x0 x1 y0 y1 z0 z1 u0 u1 : Value} (h : Box4 w W x0 x1 y0 y1 z0 z1 u0 u1) (hb : Below W.heap.size W W') : Box4 w W' x0 x1 y0 y1 z0 z1 u0 u1 := by
  obtain ⟨hc, hf⟩ := bcell hb
  have h1 := h.sz
  have h2 := hb.size
  exact ⟨(hc _ _ (by omega)).trans h.x0, (hc _ _ (by omega)).trans h.x1, (hc _ _ (by omega)).trans h.y0, (hc _ _ (by omega)).trans h.y1, (hc _ _ (by omega)).trans h.z0, (hc _ _ (by omega)).trans h.z1, (hc _ _ (by omega)).trans h.u0, (hc _ _ (by omega)).trans h.u1,
    fun o => (hf _ _ (by omega)).trans (h.fx o), fun o => (hf _ _ (by omega)).trans (h.fy o), fun o => (hf _ _ (by omega)).trans (h.fz o), fun o => (hf _ _ (by omega)).trans (h.fu o), h.bel.trans (hb.mono (by omega)), by omega⟩

theorem Box4.put {w W : World} {x0 x1 y0 y1 z0 z1 u0 u1 : Value} (h : Box4 w W x0 x1 y0 y1 z0 z1 u0 u1) (a b c d : Value) :
    Box4 w ((((W.setCell ⟨w.heap.size + 1 + 1, 0, none⟩ a).setCell ⟨w.heap.size + 1 + 1, 1, none⟩ b).setCell ⟨w.heap.size + 1 + 1 + 1, 0, none⟩ c).setCell ⟨w.heap.size + 1 + 1 + 1, 1, none⟩ d) x0 x1 y0 y1 a b c d := by
  have h0 := h.sz
  have e0 := h.z0
  have e1 := h.z1
  have e2 := h.u0
  have e3 := h.u1
  have far : ∀ b' o, b' ≠ w.heap.size + 1 + 1 → b' ≠ w.heap.size + 1 + 1 + 1 → ((((W.setCell ⟨w.heap.size + 1 + 1, 0, none⟩ a).setCell ⟨w.heap.size + 1 + 1, 1, none⟩ b).setCell ⟨w.heap.size + 1 + 1 + 1, 0, none⟩ c).setCell ⟨w.heap.size + 1 + 1 + 1, 1, none⟩ d).cell? ⟨b', o, none⟩ = W.cell? ⟨b', o, none⟩ := fun b' o h1 h2 => by
    rw [cell_put, cell_put, cell_put, cell_put]
    all_goals (intro e; injection e; omega)
  have fr : ∀ b' o, ((((W.setCell ⟨w.heap.size + 1 + 1, 0, none⟩ a).setCell ⟨w.heap.size + 1 + 1, 1, none⟩ b).setCell ⟨w.heap.size + 1 + 1 + 1, 0, none⟩ c).setCell ⟨w.heap.size + 1 + 1 + 1, 1, none⟩ d).frozen? ⟨b', o, none⟩ = W.frozen? ⟨b', o, none⟩ := fun b' o => by rw [frz_put, frz_put, frz_put, frz_put]
  refine ⟨(far _ _ (by omega) (by omega)).trans h.x0, (far _ _ (by omega) (by omega)).trans h.x1, (far _ _ (by omega) (by omega)).trans h.y0, (far _ _ (by omega) (by omega)).trans h.y1, by simp [go_sem, e0], by simp [go_sem, e1], by simp [go_sem, e2], by simp [go_sem, e3], fun o => (fr _ _).trans (h.fx o), fun o => (fr _ _).trans (h.fy o), fun o => (fr _ _).trans (h.fz o), fun o => (fr _ _).trans (h.fu o), (((h.bel.setCell (by simp; omega) _).setCell (by simp; omega) _).setCell (by simp; omega) _).setCell (by simp; omega) _, by simp [World.setCell]; omega⟩
theorem WI.put4 {w W : World} {x0 x1 y0 y1 z0 z1 u0 u1 : Value} (h : Box4 w W x0 x1 y0 y1 z0 z1 u0 u1) {neg : Bool} {A : Option Addr} {n k : Nat} {z : Int} (hw : WI W neg A n k z) (a b c d : Value)
    (hz0 : ∀ n, z0 ≠ .int .u32 n) (hz1 : ∀ n, z1 ≠ .int .u32 n) (hu0 : ∀ n, u0 ≠ .int .u32 n) (hu1 : ∀ n, u1 ≠ .int .u32 n) :
    WI ((((W.setCell ⟨w.heap.size + 1 + 1, 0, none⟩ a).setCell ⟨w.heap.size + 1 + 1, 1, none⟩ b).setCell ⟨w.heap.size + 1 + 1 + 1, 0, none⟩ c).setCell ⟨w.heap.size + 1 + 1 + 1, 1, none⟩ d) neg A n k z := by
  refine (((hw.put h.z0 hz0 a).put (v := z1) ?_ hz1 b).put (v := u0) ?_ hu0 c).put (v := u1) ?_ hu1 d
  · rw [cell_put _ _ (by intro e; injection e; omega)]; exact h.z1
  · rw [cell_put _ _ (by intro e; injection e; omega), cell_put _ _ (by intro e; injection e; omega)]; exact h.u0
  · rw [cell_put _ _ (by intro e; injection e; omega), cell_put _ _ (by intro e; injection e; omega), cell_put _ _ (by intro e; injection e; omega)]; exact h.u1

/-- A quotient, a rest and an error. -/
def DivErr (w : World) (q r err : Int) (e : Ending) (w' : World) : Prop :=
  ∃ n1 A1 k1 c1 n2 A2 k2 c2, e = .returned (.tuple #[.agg #[.bool n1, .slice A1 k1 c1], .agg #[.bool n2, .slice A2 k2 c2], .int .i64 err]) ∧ Below w.heap.size w w' ∧ WI w' n1 A1 k1 c1 q ∧ WI w' n2 A2 k2 c2 r

theorem div_low {r z : Int} (h : 0 ≤ r) (h2 : r < z.natAbs) (hz : z ≠ 0) : r / z = 0 ∧ r % z = r := by
  rcases Int.lt_or_gt_of_ne hz with h3 | h3
  · obtain ⟨y, rfl⟩ : ∃ y, z = -y := ⟨-z, by omega⟩
    rw [Int.ediv_neg, Int.emod_neg, Int.ediv_eq_zero_of_lt h (by omega), Int.emod_eq_of_lt h (by omega)]; simp
  · rw [Int.ediv_eq_zero_of_lt h (by omega), Int.emod_eq_of_lt h (by omega)]; simp
/-- The quotient and the rest with signs. -/
theorem div_pos {n2 : Bool} {x y : Nat} : sgn false x / sgn n2 y = sgn n2 (x / y) ∧ sgn false x % sgn n2 y = ((x % y : Nat) : Int) := by
  unfold sgn
  cases n2 <;> simp
theorem div_neg0 {n2 : Bool} {x y : Nat} (h : x % y = 0) : sgn true x / sgn n2 y = sgn (!n2) (x / y) ∧ sgn true x % sgn n2 y = 0 := by
  have hd : (y : Int) ∣ (x : Int) := by exact_mod_cast Nat.dvd_of_mod_eq_zero h
  unfold sgn
  cases n2
  · simp only [if_true, Bool.false_eq_true, if_false, Bool.not_false]
    exact ⟨by rw [Int.neg_ediv_of_dvd hd]; rfl, by rw [Int.emod_eq_zero_of_dvd (Int.dvd_neg.2 hd)]⟩
  · simp only [if_true, Bool.not_true, Bool.false_eq_true, if_false]
    exact ⟨by rw [Int.ediv_neg, Int.neg_ediv_of_dvd hd, Int.neg_neg]; rfl, by rw [Int.emod_neg, Int.emod_eq_zero_of_dvd (Int.dvd_neg.2 hd)]⟩
theorem div_neg1 {n2 : Bool} {x y : Nat} (hy : 0 < y) (h : 0 < x % y) : sgn true x / sgn n2 y = sgn (!n2) (x / y + 1) ∧ sgn true x % sgn n2 y = ((y - x % y : Nat) : Int) := by
  have hm := Nat.mod_lt x hy
  have hx := Nat.div_add_mod x y
  have key : ∀ (z q : Int) , z ≠ 0 → z.natAbs = y → -(x : Int) = z * q + ((y - x % y : Nat) : Int) → -(x : Int) / z = q ∧ -(x : Int) % z = ((y - x % y : Nat) : Int) := by
    intro z q hz ha he
    obtain ⟨h1, h2⟩ := div_low (r := ((y - x % y : Nat) : Int)) (z := z) (by omega) (by omega) hz
    rw [he]
    exact ⟨by rw [Int.add_comm, Int.add_mul_ediv_left _ _ hz, h1, Int.zero_add], by rw [Int.add_comm, Int.add_mul_emod_self_left, h2]⟩
  unfold sgn
  have hc : ((y - x % y : Nat) : Int) = (y : Int) - ((x % y : Nat) : Int) := by omega
  have hxi : (y : Int) * ((x / y : Nat) : Int) + ((x % y : Nat) : Int) = (x : Int) := by exact_mod_cast hx
  cases n2
  · simp only [if_true, Bool.false_eq_true, if_false, Bool.not_false]
    refine key _ _ (by omega) (by simp) ?_
    rw [hc, Int.mul_neg, Int.natCast_add, Int.mul_add]
    omega
  · simp only [if_true, Bool.not_true, Bool.false_eq_true, if_false]
    refine key _ _ (by omega) (by simp) ?_
    rw [hc, Int.neg_mul, Int.natCast_add, Int.mul_add]
    omega
/-- A magnitude that may have zeros at the end. -/
structure Mg (w : World) (A : Option Addr) (l : List Nat) (c : Nat) : Prop where
  sl : Sl w w.heap.size A (l.map w32)
  ws : Ws l
  cap : l.length ≤ c
  mx : c ≤ maxLen
theorem Mg.on {w w' : World} {A : Option Addr} {l : List Nat} {c : Nat} (h : Mg w A l c) (hb : Below w.heap.size w w') : Mg w' A l c := ⟨h.sl.on hb, h.ws, h.cap, h.mx⟩
theorem MagIs.mg {w : World} {A : Option Addr} {l : List Nat} {c : Nat} (h : MagIs w A l c) : Mg w A l c := ⟨h.sl, h.ws, h.cap, h.mx⟩
structure DivMid (w : World) (n1 n2 : Bool) (x0 x1 y0 y1 : Value) (q r : Int) (Q : Option Addr) (cq : Nat) (lq : List Nat) (R : Option Addr) (cr : Nat) (lr : List Nat) (wx : World) : Prop where
  mq : Mg wx Q lq cq
  mr : Mg wx R lr cr
  bx : Box4 w wx x0 x1 y0 y1 (.bool false) (.slice none 0 0) (.bool false) (.slice none 0 0)
  vq : Hid (sgn (n1 != n2) (val lq) = q)
  vr : Hid (sgn false (val lr) = r)
  tq : val lq < top
  tr : val lr < top

end Go.Proofs.YtmlpibdincfgbaaDoor
