/-
  Contracts of package wide: From, Small.
-/
import Derived.Test.YtfbbnphpapmpcaaGreatDoorW9
import Derived.Test.YtfbbnphpapmpcaaGreatDoorT1
import Derived.Test.YtfbbnphpapmpcaaGreatDoorW10
import Derived.RegionTactic
import Derived.ChangeAlike
namespace Go.Proofs.YtfbbnphpapmpcaaGreatDoor
open Go.RowKit Mag

/-- A store of a struct into a block of two cells. -/
theorem WI.put2 {w : World} {neg : Bool} {A : Option Addr} {n c : Nat} {z : Int} (h : WI w neg A n c z) {g : Nat} {t : TypeId} {x y : Value} (hO : Own w g t [x, y]) (hx : ∀ n, x ≠ .int .u32 n) (hy : ∀ n, y ≠ .int .u32 n) (u v : Value) :
    WI ((w.setCell ⟨g, 0, none⟩ u).setCell ⟨g, 1, none⟩ v) neg A n c z := by
  refine (h.put hO.c0 hx u).put (v := y) ?_ hy v
  rw [cell_put _ _ (by intro e; injection e with _ e; omega)]
  exact hO.c1
theorem two_words {w : World} {m g : Nat} {a b : Int} (hg : w.heap.size = g) (ha : (m % 4294967296 : Nat) = a) (hb : (m / 4294967296 : Nat) = b) : Sl (w.alloc (.cells #[.int .u32 a, .int .u32 b] 91)) (w.alloc (.cells #[.int .u32 a, .int .u32 b] 91)).heap.size (some ⟨g, 0, none⟩) ([m % 4294967296, m / 4294967296].map w32) := by
  subst ha hb hg
  have := Own.new w 91 ([m % 4294967296, m / 4294967296].map w32)
  exact this.sl this.lt
theorem signed_n (neg : Bool) (A : Option Addr) (c n : Nat) (l : List Nat) (w : World) (hS : Sl w w.heap.size A (l.map w32)) (hn : l.length = n) (hc : n ≤ c) (hm : c ≤ maxLen) (hw : Ws l) (hv : val l < top) :
    Calls Tryz.prog 66 #[.bool neg, .slice A n c] w (IntErr w (sgn neg (val l)) 0) := by
  subst hn
  exact signed_any neg A c l w hS hc hm hw hv
theorem two_val {m : Nat} : val [m % 4294967296, m / 4294967296] = m := by
  simp only [val]
  omega
theorem two_ws {m : Nat} (h : m ≤ 18446744073709551615) : Ws [m % 4294967296, m / 4294967296] :=
  Ws.cons (by omega) (Ws.cons (by omega) Ws.nil)
theorem two_top {m : Nat} (h : m ≤ 18446744073709551615) : val [m % 4294967296, m / 4294967296] < top := lt_top (two_ws h) (by simp)
set_option maxRecDepth 100000 in
set_option maxHeartbeats 800000 in
theorem From_neg (m : Nat) (w : World) (h0 : 0 < m) (h1 : m ≤ 9223372036854775808) : Calls Tryz.prog 42 #[.int .i64 (-(m : Int))] w (IntPost w (-(m : Int))) := by
  have hn : -(m : Int) < 0 := by omega
  have hw : IntKind.u64.wrap (-IntKind.u64.wrap (-(m : Int))) = (m : Int) := by
    show (-((-(m : Int)) % 18446744073709551616)) % 18446744073709551616 = (m : Int)
    omega
  have hd : (m : Int) / 4294967296 % 4294967296 = (m : Int) / 4294967296 := by omega
  go_enter Tryz.func42, Tryz.ntmps42
  go_wp2_with fail
  ((with_reducible refine (signed_n _ (some ⟨w.heap.size + 1, 0, none⟩) 2 2 [m % 4294967296, m / 4294967296] _ (?_) rfl (Nat.le_refl _) (by unfold maxLen; omega) (two_ws (by omega)) (two_top (by omega))).mono ?_))
  · exact two_words (by simp) (by omega) (by omega)
  rintro e w1 ⟨ng, B, k, c, rfl, hb, hwi⟩
  rw [two_val] at hwi
  have hO := (((Own.new2 w 29 (.bool false) (.slice none 0 0)).alloc (.cells #[.int .u32 ((m : Int) % 4294967296), .int .u32 ((m : Int) / 4294967296)] 91)).on hb)
  have z0 := hO.c0
  have z1 := hO.c1
  have f0 := hO.frozen 0
  have f1 := hO.frozen 1
  have hz : w.heap.size < w1.heap.size := hO.lt
  have hO3 := (hO.put2 (.bool ng) (.slice B k c)).alloc (.cells #[.bool ng, .slice B k c] 29)
  have q0 := hO3.c0
  have q1 := hO3.c1
  have hW : Below w.heap.size w w1 := Below.call (by go_grown) hb
  have HP : IntPost w (sgn true m) (.returned (.agg #[.bool ng, .slice B k c])) _ := ⟨_, _, _, _, rfl, (Below.put2 hW (Nat.le_refl _) (.bool ng) (.slice B k c)).alloc (by simpa [World.setCell] using hW.size) (.cells #[.bool ng, .slice B k c] 29), (hwi.put2 hO (by simp) (by simp) (.bool ng) (.slice B k c)).on ((Below.refl _ _).alloc (Nat.le_refl _) _)⟩
  have HQ := Lib.hid HP
  clear HP hO3 hwi hw hd
  go_wp2
  exact bodyPost_ret (v := .agg #[.bool ng, .slice B k c]) (by simp [results, Tryz.results42, go_sem, q0, q1]) rfl HQ.out
set_option maxRecDepth 100000 in
set_option maxHeartbeats 800000 in
theorem From_pos (m : Nat) (w : World) (h1 : m ≤ 9223372036854775807) : Calls Tryz.prog 42 #[.int .i64 (m : Int)] w (IntPost w (m : Int)) := by
  have hn : ¬ (m : Int) < 0 := by omega
  go_enter Tryz.func42, Tryz.ntmps42
  go_wp2_with fail
  ((with_reducible refine (signed_n _ (some ⟨w.heap.size + 1, 0, none⟩) 2 2 [m % 4294967296, m / 4294967296] _ (?_) rfl (Nat.le_refl _) (by unfold maxLen; omega) (two_ws (by omega)) (two_top (by omega))).mono ?_))
  · exact two_words (by simp) (by omega) (by omega)
  rintro e w1 ⟨ng, B, k, c, rfl, hb, hwi⟩
  rw [two_val] at hwi
  have hO := (((Own.new2 w 29 (.bool false) (.slice none 0 0)).alloc (.cells #[.int .u32 ((m : Int) % 4294967296), .int .u32 ((m : Int) / 4294967296)] 91)).on hb)
  have z0 := hO.c0
  have z1 := hO.c1
  have f0 := hO.frozen 0
  have f1 := hO.frozen 1
  have hz : w.heap.size < w1.heap.size := hO.lt
  have hO3 := (hO.put2 (.bool ng) (.slice B k c)).alloc (.cells #[.bool ng, .slice B k c] 29)
  have q0 := hO3.c0
  have q1 := hO3.c1
  have hW : Below w.heap.size w w1 := Below.call (by go_grown) hb
  have HP : IntPost w (sgn false m) (.returned (.agg #[.bool ng, .slice B k c])) _ := ⟨_, _, _, _, rfl, (Below.put2 hW (Nat.le_refl _) (.bool ng) (.slice B k c)).alloc (by simpa [World.setCell] using hW.size) (.cells #[.bool ng, .slice B k c] 29), (hwi.put2 hO (by simp) (by simp) (.bool ng) (.slice B k c)).on ((Below.refl _ _).alloc (Nat.le_refl _) _)⟩
  have HQ := Lib.hid HP
  clear HP hO3 hwi
  go_wp2
  exact bodyPost_ret (v := .agg #[.bool ng, .slice B k c]) (by simp [results, Tryz.results42, go_sem, q0, q1]) rfl HQ.out
theorem word_or (r x : Nat) (hr : r < 4294967296) (hx : x < 4294967296) : bits BinOp.or IntKind.u64 (r : Int) ((x : Int) * 4294967296) = (r : Int) + 4294967296 * (x : Int) := by
  have h := u64_or_nat r (x * 4294967296) (by omega) (by omega)
  rw [Nat.or_comm, nat_join 32 _ _ (by omega) (by omega)] at h
  rw [Int.natCast_mul, Int.natCast_add, Int.natCast_mul] at h
  refine Eq.trans h ?_
  rw [Int.add_comm, Int.mul_comm]; rfl
theorem From_any (n : Int) (w : World) (h0 : -9223372036854775808 ≤ n) (h1 : n ≤ 9223372036854775807) : Calls Tryz.prog 42 #[.int .i64 n] w (IntPost w n) := by
  rcases Int.lt_or_le n 0 with h | h
  · obtain ⟨m, rfl⟩ : ∃ m : Nat, n = -(m : Int) := ⟨n.natAbs, by omega⟩
    exact From_neg m w (by omega) (by omega)
  · obtain ⟨m, rfl⟩ : ∃ m : Nat, n = (m : Int) := ⟨n.natAbs, by omega⟩
    exact From_pos m w (by omega)

def SmallPost (w : World) (z : Int) (e : Ending) (w' : World) : Prop :=
  Below w.heap.size w w' ∧ ((-9223372036854775808 ≤ z ∧ z ≤ 9223372036854775807 ∧ e = .returned (.tuple #[.int .i64 z, .bool true])) ∨ ((z < -9223372036854775808 ∨ 9223372036854775807 < z) ∧ e = .returned (.tuple #[.int .i64 0, .bool false])))
end Go.Proofs.YtfbbnphpapmpcaaGreatDoor

/-
  (second part)
-/
namespace Go.Proofs.YtfbbnphpapmpcaaGreatDoor
open Go.RowKit Mag

theorem divide_any {A B : Option Addr} {c d : Nat} {a b : List Nat} {w : World} (ha : MagIs w A a c) (hb : MagIs w B b d) (h0 : b ≠ []) (hal : a.length ≤ 1000000) :
    Calls Tryz.prog 63 #[.slice A a.length c, .slice B b.length d] w (DivPost w a b) := by
  rcases Nat.lt_or_ge (val a) (val b) with h | h
  · exact divide_lt ha hb h
  · have hl : b.length ≤ a.length := by
      rcases Nat.lt_or_ge a.length b.length with h1 | h1
      · have := lt_of_length ha.ws hb.nz h1; omega
      · exact h1
    have hb1 : 0 < b.length := List.length_pos_iff.2 h0
    by_cases h1 : b.length = 1
    · exact divide_one ha hb h h1 (by omega)
    · obtain ⟨m, hm⟩ : ∃ m, b.length = m + 2 := ⟨b.length - 2, by omega⟩
      obtain ⟨x, hx⟩ : ∃ x, a.length = m + 2 + x := ⟨a.length - b.length, by omega⟩
      have := divide_big ha hb h hx hm (by omega)
      rw [hm, hx]
      exact this

/-- Four structs of two cells, laid one behind the other. -/
structure Box4 (w W : World) (x0 x1 y0 y1 z0 z1 u0 u1 : Value) : Prop where
  x0 : W.cell? ⟨w.heap.size, 0, none⟩ = some x0
  x1 : W.cell? ⟨w.heap.size, 1, none⟩ = some x1
  y0 : W.cell? ⟨w.heap.size + 1, 0, none⟩ = some y0
  y1 : W.cell? ⟨w.heap.size + 1, 1, none⟩ = some y1
  z0 : W.cell? ⟨w.heap.size + 1 + 1, 0, none⟩ = some z0
  z1 : W.cell? ⟨w.heap.size + 1 + 1, 1, none⟩ = some z1
  u0 : W.cell? ⟨w.heap.size + 1 + 1 + 1, 0, none⟩ = some u0
  u1 : W.cell? ⟨w.heap.size + 1 + 1 + 1, 1, none⟩ = some u1
  fx : ∀ o, W.frozen? ⟨w.heap.size, o, none⟩ = false
  fy : ∀ o, W.frozen? ⟨w.heap.size + 1, o, none⟩ = false
  fz : ∀ o, W.frozen? ⟨w.heap.size + 1 + 1, o, none⟩ = false
  fu : ∀ o, W.frozen? ⟨w.heap.size + 1 + 1 + 1, o, none⟩ = false
  bel : Below w.heap.size w W
  sz : w.heap.size + 3 < W.heap.size
theorem Box4.mk_ (w : World) (x0 x1 y0 y1 z0 z1 u0 u1 : Value) (t u v s : TypeId) : Box4 w ((((w.alloc (.cells #[x0, x1] t)).alloc (.cells #[y0, y1] u)).alloc (.cells #[z0, z1] v)).alloc (.cells #[u0, u1] s)) x0 x1 y0 y1 z0 z1 u0 u1 := by
  refine ⟨?_, ?_, ?_, ?_, ?_, ?_, ?_, ?_, ?_, ?_, ?_, ?_, by go_grown, by simp⟩
  all_goals simp [go_sem]
theorem Box4.on {w W W' : World} {x0 x1 y0 y1 z0 z1 u0 u1 : Value} (h : Box4 w W x0 x1 y0 y1 z0 z1 u0 u1) (hb : Below W.heap.size W W') : Box4 w W' x0 x1 y0 y1 z0 z1 u0 u1 := by
  obtain ⟨hc, hf⟩ := bcell hb
  have h1 := h.sz
  have h2 := hb.size
  exact ⟨(hc _ _ (by omega)).trans h.x0, (hc _ _ (by omega)).trans h.x1, (hc _ _ (by omega)).trans h.y0, (hc _ _ (by omega)).trans h.y1, (hc _ _ (by omega)).trans h.z0, (hc _ _ (by omega)).trans h.z1, (hc _ _ (by omega)).trans h.u0, (hc _ _ (by omega)).trans h.u1,
    fun o => (hf _ _ (by omega)).trans (h.fx o), fun o => (hf _ _ (by omega)).trans (h.fy o), fun o => (hf _ _ (by omega)).trans (h.fz o), fun o => (hf _ _ (by omega)).trans (h.fu o), h.bel.trans (hb.mono (by omega)), by omega⟩

theorem Box4.put {w W : World} {x0 x1 y0 y1 z0 z1 u0 u1 : Value} (h : Box4 w W x0 x1 y0 y1 z0 z1 u0 u1) (a b c d : Value) :
    Box4 w ((((W.setCell ⟨w.heap.size + 1 + 1, 0, none⟩ a).setCell ⟨w.heap.size + 1 + 1, 1, none⟩ b).setCell ⟨w.heap.size + 1 + 1 + 1, 0, none⟩ c).setCell ⟨w.heap.size + 1 + 1 + 1, 1, none⟩ d) x0 x1 y0 y1 a b c d := by
  have h0 := h.sz
  have e0 := h.z0
  have e1 := h.z1
  have e2 := h.u0
  have e3 := h.u1
  have far : ∀ b' o, b' ≠ w.heap.size + 1 + 1 → b' ≠ w.heap.size + 1 + 1 + 1 → ((((W.setCell ⟨w.heap.size + 1 + 1, 0, none⟩ a).setCell ⟨w.heap.size + 1 + 1, 1, none⟩ b).setCell ⟨w.heap.size + 1 + 1 + 1, 0, none⟩ c).setCell ⟨w.heap.size + 1 + 1 + 1, 1, none⟩ d).cell? ⟨b', o, none⟩ = W.cell? ⟨b', o, none⟩ := fun b' o h1 h2 => by
    rw [cell_put, cell_put, cell_put, cell_put]
    all_goals (intro e; injection e; omega)
  have fr : ∀ b' o, ((((W.setCell ⟨w.heap.size + 1 + 1, 0, none⟩ a).setCell ⟨w.heap.size + 1 + 1, 1, none⟩ b).setCell ⟨w.heap.size + 1 + 1 + 1, 0, none⟩ c).setCell ⟨w.heap.size + 1 + 1 + 1, 1, none⟩ d).frozen? ⟨b', o, none⟩ = W.frozen? ⟨b', o, none⟩ := fun b' o => by rw [frz_put, frz_put, frz_put, frz_put]
  refine ⟨(far _ _ (by omega) (by omega)).trans h.x0, (far _ _ (by omega) (by omega)).trans h.x1, (far _ _ (by omega) (by omega)).trans h.y0, (far _ _ (by omega) (by omega)).trans h.y1, by simp [go_sem, e0], by simp [go_sem, e1], by simp [go_sem, e2], by simp [go_sem, e3], fun o => (fr _ _).trans (h.fx o), fun o => (fr _ _).trans (h.fy o), fun o => (fr _ _).trans (h.fz o), fun o => (fr _ _).trans (h.fu o), (((h.bel.setCell (by simp; omega) _).setCell (by simp; omega) _).setCell (by simp; omega) _).setCell (by simp; omega) _, by simp [World.setCell]; omega⟩
theorem WI.put4 {w W : World} {x0 x1 y0 y1 z0 z1 u0 u1 : Value} (h : Box4 w W x0 x1 y0 y1 z0 z1 u0 u1) {neg : Bool} {A : Option Addr} {n k : Nat} {z : Int} (hw : WI W neg A n k z) (a b c d : Value)
    (hz0 : ∀ n, z0 ≠ .int .u32 n) (hz1 : ∀ n, z1 ≠ .int .u32 n) (hu0 : ∀ n, u0 ≠ .int .u32 n) (hu1 : ∀ n, u1 ≠ .int .u32 n) :
    WI ((((W.setCell ⟨w.heap.size + 1 + 1, 0, none⟩ a).setCell ⟨w.heap.size + 1 + 1, 1, none⟩ b).setCell ⟨w.heap.size + 1 + 1 + 1, 0, none⟩ c).setCell ⟨w.heap.size + 1 + 1 + 1, 1, none⟩ d) neg A n k z := by
  refine (((hw.put h.z0 hz0 a).put (v := z1) ?_ hz1 b).put (v := u0) ?_ hu0 c).put (v := u1) ?_ hu1 d
  · rw [cell_put _ _ (by intro e; injection e; omega)]; exact h.z1
  · rw [cell_put _ _ (by intro e; injection e; omega), cell_put _ _ (by intro e; injection e; omega)]; exact h.u0
  · rw [cell_put _ _ (by intro e; injection e; omega), cell_put _ _ (by intro e; injection e; omega), cell_put _ _ (by intro e; injection e; omega)]; exact h.u1

/-- A quotient, a rest and an error. -/
def DivErr (w : World) (q r err : Int) (e : Ending) (w' : World) : Prop :=
  ∃ n1 A1 k1 c1 n2 A2 k2 c2, e = .returned (.tuple #[.agg #[.bool n1, .slice A1 k1 c1], .agg #[.bool n2, .slice A2 k2 c2], .int .i64 err]) ∧ Below w.heap.size w w' ∧ WI w' n1 A1 k1 c1 q ∧ WI w' n2 A2 k2 c2 r

theorem div_low {r z : Int} (h : 0 ≤ r) (h2 : r < z.natAbs) (hz : z ≠ 0) : r / z = 0 ∧ r % z = r := by
  rcases Int.lt_or_gt_of_ne hz with h3 | h3
  · obtain ⟨y, rfl⟩ : ∃ y, z = -y := ⟨-z, by omega⟩
    rw [Int.ediv_neg, Int.emod_neg, Int.ediv_eq_zero_of_lt h (by omega), Int.emod_eq_of_lt h (by omega)]; simp
  · rw [Int.ediv_eq_zero_of_lt h (by omega), Int.emod_eq_of_lt h (by omega)]; simp
/-- The quotient and the rest with signs. -/
theorem div_pos {n2 : Bool} {x y : Nat} : sgn false x / sgn n2 y = sgn n2 (x / y) ∧ sgn false x % sgn n2 y = ((x % y : Nat) : Int) := by
  unfold sgn
  cases n2 <;> simp
theorem div_neg0 {n2 : Bool} {x y : Nat} (h : x % y = 0) : sgn true x / sgn n2 y = sgn (!n2) (x / y) ∧ sgn true x % sgn n2 y = 0 := by
  have hd : (y : Int) ∣ (x : Int) := by exact_mod_cast Nat.dvd_of_mod_eq_zero h
  unfold sgn
  cases n2
  · simp only [if_true, Bool.false_eq_true, if_false, Bool.not_false]
    exact ⟨by rw [Int.neg_ediv_of_dvd hd]; rfl, by rw [Int.emod_eq_zero_of_dvd (Int.dvd_neg.2 hd)]⟩
  · simp only [if_true, Bool.not_true, Bool.false_eq_true, if_false]
    exact ⟨by rw [Int.ediv_neg, Int.neg_ediv_of_dvd hd, Int.neg_neg]; rfl, by rw [Int.emod_neg, Int.emod_eq_zero_of_dvd (Int.dvd_neg.2 hd)]⟩
theorem div_neg1 {n2 : Bool} {x y : Nat} (hy : 0 < y) (h : 0 < x % y) : sgn true x / sgn n2 y = sgn (!n2) (x / y + 1) ∧ sgn true x % sgn n2 y = ((y - x % y : Nat) : Int) := by
  have hm := Nat.mod_lt x hy
  have hx := Nat.div_add_mod x y
  have key : ∀ (z q : Int) , z ≠ 0 → z.natAbs = y → -(x : Int) = z * q + ((y - x % y : Nat) : Int) → -(x : Int) / z = q ∧ -(x : Int) % z = ((y - x % y : Nat) : Int) := by
    intro z q hz ha he
    obtain ⟨h1, h2⟩ := div_low (r := ((y - x % y : Nat) : Int)) (z := z) (by omega) (by omega) hz
    rw [he]
    exact ⟨by rw [Int.add_comm, Int.add_mul_ediv_left _ _ hz, h1, Int.zero_add], by rw [Int.add_comm, Int.add_mul_emod_self_left, h2]⟩
  unfold sgn
  have hc : ((y - x % y : Nat) : Int) = (y : Int) - ((x % y : Nat) : Int) := by omega
  have hxi : (y : Int) * ((x / y : Nat) : Int) + ((x % y : Nat) : Int) = (x : Int) := by exact_mod_cast hx
  cases n2
  · simp only [if_true, Bool.false_eq_true, if_false, Bool.not_false]
    refine key _ _ (by omega) (by simp) ?_
    rw [hc, Int.mul_neg, Int.natCast_add, Int.mul_add]
    omega
  · simp only [if_true, Bool.not_true, Bool.false_eq_true, if_false]
    refine key _ _ (by omega) (by simp) ?_
    rw [hc, Int.neg_mul, Int.natCast_add, Int.mul_add]
    omega
/-- A magnitude that may have zeros at the end. -/
structure Mg (w : World) (A : Option Addr) (l : List Nat) (c : Nat) : Prop where
  sl : Sl w w.heap.size A (l.map w32)
  ws : Ws l
  cap : l.length ≤ c
  mx : c ≤ maxLen
theorem Mg.on {w w' : World} {A : Option Addr} {l : List Nat} {c : Nat} (h : Mg w A l c) (hb : Below w.heap.size w w') : Mg w' A l c := ⟨h.sl.on hb, h.ws, h.cap, h.mx⟩
theorem MagIs.mg {w : World} {A : Option Addr} {l : List Nat} {c : Nat} (h : MagIs w A l c) : Mg w A l c := ⟨h.sl, h.ws, h.cap, h.mx⟩
theorem Mg.signed {w : World} {A : Option Addr} {l : List Nat} {c : Nat} (h : Mg w A l c) (hv : val l < top) (neg : Bool) :
    Calls Tryz.prog 66 #[.bool neg, .slice A l.length c] w (IntErr w (sgn neg (val l)) 0) := signed_any neg A c l w h.sl h.cap h.mx h.ws hv
structure DivMid (w : World) (n1 n2 : Bool) (x0 x1 y0 y1 : Value) (q r : Int) (Q : Option Addr) (cq : Nat) (lq : List Nat) (R : Option Addr) (cr : Nat) (lr : List Nat) (wx : World) : Prop where
  mq : Mg wx Q lq cq
  mr : Mg wx R lr cr
  bx : Box4 w wx x0 x1 y0 y1 (.bool false) (.slice none 0 0) (.bool false) (.slice none 0 0)
  vq : Hid (sgn (n1 != n2) (val lq) = q)
  vr : Hid (sgn false (val lr) = r)
  tq : val lq < top
  tr : val lr < top

set_option maxRecDepth 100000 in
set_option maxHeartbeats 1600000 in
theorem Div_any {n1 n2 : Bool} {A B : Option Addr} {k m c d : Nat} {x y : Int} {w : World} (hx : WI w n1 A k c x) (hy : WI w n2 B m d y) (h0 : y ≠ 0) :
    Calls Tryz.prog 39 #[.agg #[.bool n1, .slice A k c], .agg #[.bool n2, .slice B m d]] w (DivErr w (x / y) (x % y) 0) := by
  obtain ⟨a, rfl, h5, ha, hna, rfl⟩ := hx.open_
  obtain ⟨b, rfl, h6, hb, hnb, rfl⟩ := hy.open_
  clear hx hy
  have hbn : b ≠ [] := by
    rintro rfl
    apply h0
    cases n2 <;> rfl
  have hb0 : 0 < val b := hb.nz.pos hbn
  have hbl : 0 < b.length := List.length_pos_iff.2 hbn
  have hz0 : ((b.length : Int) == 0) = false := by simp; omega
  have hat := lt_top ha.ws h5
  have hbt := lt_top hb.ws h6
  obtain ⟨qq, hqq⟩ : ∃ qq, qq = sgn n1 (val a) / sgn n2 (val b) := ⟨_, rfl⟩
  obtain ⟨rr, hrr⟩ : ∃ rr, rr = sgn n1 (val a) % sgn n2 (val b) := ⟨_, rfl⟩
  rw [← hqq, ← hrr]
  have HQQ := Lib.hid hqq
  have HRR := Lib.hid hrr
  clear hqq hrr h0
  go_enter Tryz.func39, Tryz.ntmps39
  go_wp2_with fail
  have hB := Box4.mk_ w (.bool n1) (.slice A a.length c) (.bool n2) (.slice B b.length d) (.bool false) (.slice none 0 0) (.bool false) (.slice none 0 0) 29 29 29 29
  generalize ((((w.alloc (.cells #[.bool n1, .slice A a.length c] 29)).alloc (.cells #[.bool n2, .slice B b.length d] 29)).alloc (.cells #[.bool false, .slice none 0 0] 29)).alloc (.cells #[.bool false, .slice none 0 0] 29)) = W at hB ⊢
  refine (divide_any (ha.on hB.bel) (hb.on hB.bel) hbn (by omega)).mono ?_
  rintro e w1 ⟨A1, c1, A2, c2, q, r, rfl, mq, mr, hq, hr, hb1⟩
  have hB1 := hB.on hb1
  have x0 := hB1.x0
  have x1 := hB1.x1
  have y0 := hB1.y0
  have y1 := hB1.y1
  have hmb := hb.on hB1.bel
  clear hB
  have hqa : val q ≤ val a := by rw [hq.out]; exact Nat.div_le_self _ _
  have hrb : val r < val b := by rw [hr.out]; exact Nat.mod_lt _ hb0
  cases n1
  · obtain ⟨e1, e2⟩ := div_pos (n2 := n2) (x := val a) (y := val b)
    have hfin : DivMid w false n2 (.bool false) (.slice A a.length c) (.bool n2) (.slice B b.length d) qq rr A1 c1 q A2 c2 r w1 :=
      ⟨mq.mg, mr.mg, hB1, Lib.hid (by rw [HQQ.out, e1, hq.out]; cases n2 <;> rfl), Lib.hid (by rw [HRR.out, e2, hr.out]; rfl), by omega, by omega⟩
    have HF := Lib.hid hfin
    clear hfin e1 e2
    go_wp2_with fail
    refine (HF.out.mq.signed HF.out.tq _).mono ?_
    rintro e w3 ⟨ng3, B3, k3, c3, rfl, hb3, hwi3⟩
    have hwq : WI w3 ng3 B3 k3 c3 qq := by rw [← HF.out.vq.out]; cases n2 <;> exact hwi3
    have hbxs := HF.out.bx.sz
    have hmr := HF.out.mr.on hb3
    have hbx := HF.out.bx.on hb3
    clear hwi3
    go_wp2_with fail
    have hal : Below w3.heap.size w3 (w3.alloc (.cells #[.bool ng3, .slice B3 k3 c3] 29)) := (Below.refl _ _).alloc (Nat.le_refl _) _
    refine ((hmr.on hal).signed HF.out.tr false).mono ?_
    rintro e w4 ⟨ng4, B4, k4, c4, rfl, hb4, hwi4⟩
    have hwr : WI w4 ng4 B4 k4 c4 rr := by rw [← HF.out.vr.out]; exact hwi4
    have hO := (Own.new2 w3 29 (.bool ng3) (.slice B3 k3 c3)).on hb4
    have hbx4 := (hbx.on hal).on hb4
    have hwq4 := (hwq.on hal).on hb4
    clear hwi4 hwq hmr hbx
    go_wp2_with fail
    have hP := Own.new2 w4 29 (.bool ng4) (.slice B4 k4 c4)
    have hal4 : Below w4.heap.size w4 (w4.alloc (.cells #[.bool ng4, .slice B4 k4 c4] 29)) := (Below.refl _ _).alloc (Nat.le_refl _) _
    have hO5 := hO.on hal4
    have hbx5 := hbx4.on hal4
    have hwq5 := hwq4.on hal4
    have hwr5 := hwr.on hal4
    generalize w4.alloc (.cells #[.bool ng4, .slice B4 k4 c4] 29) = w5 at hP hO5 hbx5 hwq5 hwr5 ⊢
    clear hO hbx4 hwq4 hwr HF
    have o0 := hO5.c0
    have o1 := hO5.c1
    have p0 := hP.c0
    have p1 := hP.c1
    have z0 := hbx5.z0
    have z1 := hbx5.z1
    have u0 := hbx5.u0
    have u1 := hbx5.u1
    have fz0 := hbx5.fz 0
    have fz1 := hbx5.fz 1
    have fu0 := hbx5.fu 0
    have fu1 := hbx5.fu 1
    have hs3 : w.heap.size + 3 < w3.heap.size := Nat.lt_of_lt_of_le hbxs hb3.size
    have hs4 : w3.heap.size < w4.heap.size := Nat.lt_of_lt_of_le (by simp) hb4.size
    have m1 : ¬ (w.heap.size + 1 + 1 = w3.heap.size) := by omega
    have m2 : ¬ (w.heap.size + 1 + 1 + 1 = w3.heap.size) := by omega
    have m3 : ¬ (w.heap.size + 1 + 1 = w4.heap.size) := by omega
    have m4 : ¬ (w.heap.size + 1 + 1 + 1 = w4.heap.size) := by omega
    have m5 : ¬ (w3.heap.size = w.heap.size + 1 + 1) := by omega
    have m6 : ¬ (w3.heap.size = w.heap.size + 1 + 1 + 1) := by omega
    have m7 : ¬ (w4.heap.size = w.heap.size + 1 + 1) := by omega
    have m8 : ¬ (w4.heap.size = w.heap.size + 1 + 1 + 1) := by omega
    clear x0 x1 y0 y1
    have hfi := hbx5.put (.bool ng3) (.slice B3 k3 c3) (.bool ng4) (.slice B4 k4 c4)
    have hq5 := WI.put4 hbx5 hwq5 (.bool ng3) (.slice B3 k3 c3) (.bool ng4) (.slice B4 k4 c4) (fun n => by simp) (fun n => by simp) (fun n => by simp) (fun n => by simp)
    have hr5 := WI.put4 hbx5 hwr5 (.bool ng3) (.slice B3 k3 c3) (.bool ng4) (.slice B4 k4 c4) (fun n => by simp) (fun n => by simp) (fun n => by simp) (fun n => by simp)
    have HFI := Lib.hid hfi
    have HQR := Lib.hid (And.intro hq5 hr5)
    clear hfi hq5 hr5
    go_region
    have q0 := HFI.out.z0
    have q1 := HFI.out.z1
    have q2 := HFI.out.u0
    have q3 := HFI.out.u1
    have HP : DivErr w qq rr 0 (.returned (.tuple #[.agg #[.bool ng3, .slice B3 k3 c3], .agg #[.bool ng4, .slice B4 k4 c4], .int .i64 0])) _ := ⟨_, _, _, _, _, _, _, _, rfl, below_drewN' HFI.out.bel 1, WI.of_drew HQR.out.1, WI.of_drew HQR.out.2⟩
    have HP2 := Lib.hid HP
    clear HP HFI HQR
    go_wp2
    exact bodyPost_ret (v := .tuple #[.agg #[.bool ng3, .slice B3 k3 c3], .agg #[.bool ng4, .slice B4 k4 c4], .int .i64 0]) (by simp [results, Tryz.results39, go_sem, q0, q1, q2, q3]) rfl HP2.out
  · rcases Nat.eq_zero_or_pos r.length with h1 | h1
    · have hr0 : val a % val b = 0 := by
        rw [← hr.out, List.eq_nil_of_length_eq_zero h1]; rfl
      obtain ⟨e1, e2⟩ := div_neg0 (n2 := n2) hr0
      have hfin : DivMid w true n2 (.bool true) (.slice A a.length c) (.bool n2) (.slice B b.length d) qq rr A1 c1 q A2 c2 r w1 :=
        ⟨mq.mg, mr.mg, hB1, Lib.hid (by rw [HQQ.out, e1, hq.out]; cases n2 <;> rfl), Lib.hid (by rw [HRR.out, e2, hr.out, hr0]; rfl), by omega, by omega⟩
      have HF := Lib.hid hfin
      have hd : decide (0 < r.length) = false := by rw [decide_eq_false_iff_not]; omega
      clear hfin e1 e2 hr0 h1
      go_wp2_with fail
      refine (HF.out.mq.signed HF.out.tq _).mono ?_
      rintro e w3 ⟨ng3, B3, k3, c3, rfl, hb3, hwi3⟩
      have hwq : WI w3 ng3 B3 k3 c3 qq := by rw [← HF.out.vq.out]; cases n2 <;> exact hwi3
      have hbxs := HF.out.bx.sz
      have hmr := HF.out.mr.on hb3
      have hbx := HF.out.bx.on hb3
      clear hwi3
      go_wp2_with fail
      have hal : Below w3.heap.size w3 (w3.alloc (.cells #[.bool ng3, .slice B3 k3 c3] 29)) := (Below.refl _ _).alloc (Nat.le_refl _) _
      refine ((hmr.on hal).signed HF.out.tr false).mono ?_
      rintro e w4 ⟨ng4, B4, k4, c4, rfl, hb4, hwi4⟩
      have hwr : WI w4 ng4 B4 k4 c4 rr := by rw [← HF.out.vr.out]; exact hwi4
      have hO := (Own.new2 w3 29 (.bool ng3) (.slice B3 k3 c3)).on hb4
      have hbx4 := (hbx.on hal).on hb4
      have hwq4 := (hwq.on hal).on hb4
      clear hwi4 hwq hmr hbx
      go_wp2_with fail
      have hP := Own.new2 w4 29 (.bool ng4) (.slice B4 k4 c4)
      have hal4 : Below w4.heap.size w4 (w4.alloc (.cells #[.bool ng4, .slice B4 k4 c4] 29)) := (Below.refl _ _).alloc (Nat.le_refl _) _
      have hO5 := hO.on hal4
      have hbx5 := hbx4.on hal4
      have hwq5 := hwq4.on hal4
      have hwr5 := hwr.on hal4
      generalize w4.alloc (.cells #[.bool ng4, .slice B4 k4 c4] 29) = w5 at hP hO5 hbx5 hwq5 hwr5 ⊢
      clear hO hbx4 hwq4 hwr HF
      have o0 := hO5.c0
      have o1 := hO5.c1
      have p0 := hP.c0
      have p1 := hP.c1
      have z0 := hbx5.z0
      have z1 := hbx5.z1
      have u0 := hbx5.u0
      have u1 := hbx5.u1
      have fz0 := hbx5.fz 0
      have fz1 := hbx5.fz 1
      have fu0 := hbx5.fu 0
      have fu1 := hbx5.fu 1
      have hs3 : w.heap.size + 3 < w3.heap.size := Nat.lt_of_lt_of_le hbxs hb3.size
      have hs4 : w3.heap.size < w4.heap.size := Nat.lt_of_lt_of_le (by simp) hb4.size
      have m1 : ¬ (w.heap.size + 1 + 1 = w3.heap.size) := by omega
      have m2 : ¬ (w.heap.size + 1 + 1 + 1 = w3.heap.size) := by omega
      have m3 : ¬ (w.heap.size + 1 + 1 = w4.heap.size) := by omega
      have m4 : ¬ (w.heap.size + 1 + 1 + 1 = w4.heap.size) := by omega
      have m5 : ¬ (w3.heap.size = w.heap.size + 1 + 1) := by omega
      have m6 : ¬ (w3.heap.size = w.heap.size + 1 + 1 + 1) := by omega
      have m7 : ¬ (w4.heap.size = w.heap.size + 1 + 1) := by omega
      have m8 : ¬ (w4.heap.size = w.heap.size + 1 + 1 + 1) := by omega
      clear x0 x1 y0 y1
      have hfi := hbx5.put (.bool ng3) (.slice B3 k3 c3) (.bool ng4) (.slice B4 k4 c4)
      have hq5 := WI.put4 hbx5 hwq5 (.bool ng3) (.slice B3 k3 c3) (.bool ng4) (.slice B4 k4 c4) (fun n => by simp) (fun n => by simp) (fun n => by simp) (fun n => by simp)
      have hr5 := WI.put4 hbx5 hwr5 (.bool ng3) (.slice B3 k3 c3) (.bool ng4) (.slice B4 k4 c4) (fun n => by simp) (fun n => by simp) (fun n => by simp) (fun n => by simp)
      have HFI := Lib.hid hfi
      have HQR := Lib.hid (And.intro hq5 hr5)
      clear hfi hq5 hr5
      go_region
      have q0 := HFI.out.z0
      have q1 := HFI.out.z1
      have q2 := HFI.out.u0
      have q3 := HFI.out.u1
      have HP : DivErr w qq rr 0 (.returned (.tuple #[.agg #[.bool ng3, .slice B3 k3 c3], .agg #[.bool ng4, .slice B4 k4 c4], .int .i64 0])) _ := ⟨_, _, _, _, _, _, _, _, rfl, below_drewN' HFI.out.bel 1, WI.of_drew HQR.out.1, WI.of_drew HQR.out.2⟩
      have HP2 := Lib.hid HP
      clear HP HFI HQR
      go_wp2
      exact bodyPost_ret (v := .tuple #[.agg #[.bool ng3, .slice B3 k3 c3], .agg #[.bool ng4, .slice B4 k4 c4], .int .i64 0]) (by simp [results, Tryz.results39, go_sem, q0, q1, q2, q3]) rfl HP2.out
    · have hr0 : 0 < val a % val b := by
        rw [← hr.out]; exact mr.nz.pos (by intro e; subst e; simp at h1)
      obtain ⟨e1, e2⟩ := div_neg1 (n2 := n2) hb0 hr0
      have hb2 : 2 ≤ val b := by have := Nat.mod_lt (val a) hb0; omega
      have ha1 : 1 ≤ val a := by have := Nat.mod_le (val a) (val b); omega
      have hqt : val q + 1 < top := by
        have h2 : val q ≤ val a / 2 := by rw [hq.out]; exact Nat.div_le_div_left hb2 (by decide)
        omega
      have hd : decide (0 < r.length) = true := by rw [decide_eq_true_iff]; exact h1
      have E1 := Lib.hid e1
      have E2 := Lib.hid e2
      have hql := length_le_of mq.nz (k := 512) (by have := lt_top ha.ws h5; rw [top_eq, topW_eq] at *; omega)
      have hsum := sum_any (c := c1) (d := 1) (a := q) (b := [1]) ((mq.on ((Below.refl _ _).alloc (Nat.le_refl _) (.cells #[.int .u32 1] 91))).sl) ((Own.new w1 91 [w32 1]).sl (by simp)) mq.ws (Ws.cons (by omega) Ws.nil) (by omega) (by simp)
      have HS := Lib.hid hsum
      clear e1 e2 hsum hr0 h1
      go_wp2_with fail
      refine HS.out.mono ?_
      rintro e v2 ⟨g2, ds, rfl, s1, s2, s3, s4, s5, s6⟩
      have hb1' := ((Below.refl _ _).alloc (Nat.le_refl _) (.cells #[.int .u32 1] 91) : Below w1.heap.size w1 (w1.alloc (.cells #[.int .u32 1] 91)))
      have hB2 := (hB1.on hb1').on s5
      have y2 := hB2.y0
      have y3 := hB2.y1
      have hdiff := difference_any (c := d) (d := c2) ((hmb.on hb1').on s5).sl ((mr.on hb1').on s5).sl hb.ws mr.ws (by
        rcases Nat.lt_or_ge b.length r.length with h | h
        · have := lt_of_length hb.ws mr.nz h; omega
        · exact h) (by omega) (by omega)
      have HD := Lib.hid hdiff
      clear hdiff
      go_wp2_with fail
      refine HD.out.mono ?_
      rintro e v3 ⟨g3, es, rfl, d1, d2, d3, d4, d5, d6⟩
      have hm1 : max q.length [1].length + 1 ≤ 513 := by simp; omega
      have hdl : ds.length ≤ 513 := by omega
      have hfin : DivMid w true n2 (.bool true) (.slice A a.length c) (.bool n2) (.slice B b.length d) qq rr (some ⟨g2, 0, none⟩) ds.length ds (some ⟨g3, 0, none⟩) es.length es v3 :=
        ⟨⟨(s1.on d5).sl (s1.on d5).lt, s2, Nat.le_refl _, by unfold maxLen; omega⟩, ⟨d1.sl d1.lt, d2, Nat.le_refl _, by unfold maxLen; omega⟩, hB2.on d5, Lib.hid (by rw [HQQ.out, E1.out, s3.out, hq.out]; cases n2 <;> rfl), Lib.hid (by rw [HRR.out, E2.out, d3.out, hr.out]; rfl), by rw [s3.out]; exact hqt, by rw [d3.out]; omega⟩
      have HF := Lib.hid hfin
      have hB3 := hB2.on d5
      have y4 := hB3.y0
      have y5 := hB3.y1
      have y6 := hB3.x0
      clear hfin x0 x1 y0 y1 y2 y3 HS HD hm1
      go_wp2_with fail
      refine (HF.out.mq.signed HF.out.tq _).mono ?_
      rintro e w3 ⟨ng3, B3, k3, c3, rfl, hb3, hwi3⟩
      have hwq : WI w3 ng3 B3 k3 c3 qq := by rw [← HF.out.vq.out]; cases n2 <;> exact hwi3
      have hbxs := HF.out.bx.sz
      have hmr := HF.out.mr.on hb3
      have hbx := HF.out.bx.on hb3
      clear hwi3
      go_wp2_with fail
      have hal : Below w3.heap.size w3 (w3.alloc (.cells #[.bool ng3, .slice B3 k3 c3] 29)) := (Below.refl _ _).alloc (Nat.le_refl _) _
      refine ((hmr.on hal).signed HF.out.tr false).mono ?_
      rintro e w4 ⟨ng4, B4, k4, c4, rfl, hb4, hwi4⟩
      have hwr : WI w4 ng4 B4 k4 c4 rr := by rw [← HF.out.vr.out]; exact hwi4
      have hO := (Own.new2 w3 29 (.bool ng3) (.slice B3 k3 c3)).on hb4
      have hbx4 := (hbx.on hal).on hb4
      have hwq4 := (hwq.on hal).on hb4
      clear hwi4 hwq hmr hbx
      go_wp2_with fail
      have hP := Own.new2 w4 29 (.bool ng4) (.slice B4 k4 c4)
      have hal4 : Below w4.heap.size w4 (w4.alloc (.cells #[.bool ng4, .slice B4 k4 c4] 29)) := (Below.refl _ _).alloc (Nat.le_refl _) _
      have hO5 := hO.on hal4
      have hbx5 := hbx4.on hal4
      have hwq5 := hwq4.on hal4
      have hwr5 := hwr.on hal4
      generalize w4.alloc (.cells #[.bool ng4, .slice B4 k4 c4] 29) = w5 at hP hO5 hbx5 hwq5 hwr5 ⊢
      clear hO hbx4 hwq4 hwr HF
      have o0 := hO5.c0
      have o1 := hO5.c1
      have p0 := hP.c0
      have p1 := hP.c1
      have z0 := hbx5.z0
      have z1 := hbx5.z1
      have u0 := hbx5.u0
      have u1 := hbx5.u1
      have fz0 := hbx5.fz 0
      have fz1 := hbx5.fz 1
      have fu0 := hbx5.fu 0
      have fu1 := hbx5.fu 1
      have hs3 : w.heap.size + 3 < w3.heap.size := Nat.lt_of_lt_of_le hbxs hb3.size
      have hs4 : w3.heap.size < w4.heap.size := Nat.lt_of_lt_of_le (by simp) hb4.size
      have m1 : ¬ (w.heap.size + 1 + 1 = w3.heap.size) := by omega
      have m2 : ¬ (w.heap.size + 1 + 1 + 1 = w3.heap.size) := by omega
      have m3 : ¬ (w.heap.size + 1 + 1 = w4.heap.size) := by omega
      have m4 : ¬ (w.heap.size + 1 + 1 + 1 = w4.heap.size) := by omega
      have m5 : ¬ (w3.heap.size = w.heap.size + 1 + 1) := by omega
      have m6 : ¬ (w3.heap.size = w.heap.size + 1 + 1 + 1) := by omega
      have m7 : ¬ (w4.heap.size = w.heap.size + 1 + 1) := by omega
      have m8 : ¬ (w4.heap.size = w.heap.size + 1 + 1 + 1) := by omega
      clear y4 y5 y6
      have hfi := hbx5.put (.bool ng3) (.slice B3 k3 c3) (.bool ng4) (.slice B4 k4 c4)
      have hq5 := WI.put4 hbx5 hwq5 (.bool ng3) (.slice B3 k3 c3) (.bool ng4) (.slice B4 k4 c4) (fun n => by simp) (fun n => by simp) (fun n => by simp) (fun n => by simp)
      have hr5 := WI.put4 hbx5 hwr5 (.bool ng3) (.slice B3 k3 c3) (.bool ng4) (.slice B4 k4 c4) (fun n => by simp) (fun n => by simp) (fun n => by simp) (fun n => by simp)
      have HFI := Lib.hid hfi
      have HQR := Lib.hid (And.intro hq5 hr5)
      clear hfi hq5 hr5
      go_region
      have q0 := HFI.out.z0
      have q1 := HFI.out.z1
      have q2 := HFI.out.u0
      have q3 := HFI.out.u1
      have HP : DivErr w qq rr 0 (.returned (.tuple #[.agg #[.bool ng3, .slice B3 k3 c3], .agg #[.bool ng4, .slice B4 k4 c4], .int .i64 0])) _ := ⟨_, _, _, _, _, _, _, _, rfl, below_drewN' HFI.out.bel 1, WI.of_drew HQR.out.1, WI.of_drew HQR.out.2⟩
      have HP2 := Lib.hid HP
      clear HP HFI HQR
      go_wp2
      exact bodyPost_ret (v := .tuple #[.agg #[.bool ng3, .slice B3 k3 c3], .agg #[.bool ng4, .slice B4 k4 c4], .int .i64 0]) (by simp [results, Tryz.results39, go_sem, q0, q1, q2, q3]) rfl HP2.out
end Go.Proofs.YtfbbnphpapmpcaaGreatDoor
