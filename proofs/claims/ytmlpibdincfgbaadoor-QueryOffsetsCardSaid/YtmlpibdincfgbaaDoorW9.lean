/-
  Contracts of package wide: Sub, times, Mul.
-/
import Derived.Test.YtmlpibdincfgbaaDoorW5
import Derived.Test.YtmlpibdincfgbaaDoorShelf
namespace Go.Proofs.YtmlpibdincfgbaaDoor
open Go.RowKit Mag

theorem WI.of_drew {w : World} {neg : Bool} {A : Option Addr} {n c : Nat} {z : Int} (h : WI w neg A n c z) : WI w.drew neg A n c z := by
  obtain ⟨l, h1, h2, h3, h4⟩ := h
  exact ⟨l, h1, h2, ⟨h3.sl, h3.ws, h3.nz, h3.cap, h3.mx⟩, h4⟩

/-- The state of a product: S is what the result holds. -/
structure MulSt (w : World) (B go : Nat) (n : Nat) (z : Nat) (S : List Nat) (wr : World) : Prop where
  len : S.length = n
  ws : Ws S
  zero : ∀ j, z ≤ j → S.getD j 0 = 0
  out : Own wr go 175 (S.map w32)
  bel : Below B w wr
theorem MulSt.cell {w : World} {B go n z : Nat} {S : List Nat} {wr : World} (h : MulSt w B go n z S wr) {j : Nat} (hj : j < n) : wr.cell? ⟨go, j, none⟩ = some (.int .u32 (S.getD j 0 : Nat)) := by
  have hl := h.len
  rw [h.out.cell, List.getElem?_map, List.getElem?_eq_getElem (by omega), getD_lt (by omega)]; rfl
theorem MulSt.set_ {w : World} {B go n z : Nat} {S : List Nat} {wr : World} (h : MulSt w B go n z S wr) (hB : B ≤ go) {j x z' : Nat} (hx : x < 4294967296) (hz : z ≤ z') (hj : j < z') {s : Int} (hs : s = (x : Int)) :
    MulSt w B go n z' (S.set j x) (wr.setCell ⟨go, j, none⟩ (.int .u32 s)) := by
  subst hs
  refine ⟨by simp [h.len], h.ws.set j hx, fun i hi => ?_, ?_, h.bel.setCell hB _⟩
  · have := h.zero i (by omega)
    rw [List.getD_eq_getElem?_getD, List.getElem?_set_ne (by omega), ← List.getD_eq_getElem?_getD, this]
  · have := h.out.set_ j (w32 x)
    rw [← List.map_set] at this
    exact this
def TimesPost (w : World) (a b : List Nat) (e : Ending) (w' : World) : Prop :=
  ∃ g ds, e = .returned (.slice (some ⟨g, 0, none⟩) ds.length ds.length) ∧ Own w' g 175 (ds.map w32) ∧ Ws ds ∧ Hid (val ds = val a * val b) ∧ ds.length ≤ a.length + b.length ∧ Below w.heap.size w w' ∧ w.heap.size ≤ g
theorem i64_of {x : Nat} {z : Int} (h : z = (x : Int)) : Value.int .i64 z = .int .i64 (x : Int) := by rw [h]
theorem u64_of {x : Nat} {z : Int} (h : z = (x : Int)) : Value.int .u64 z = .int .u64 (x : Int) := by rw [h]
theorem mul_lim {x y : Nat} (hx : x < 4294967296) (hy : y < 4294967296) : x * y ≤ 18446744065119617025 := by
  have : x * y ≤ 4294967295 * 4294967295 := Nat.mul_le_mul (by omega) (by omega)
  omega

theorem sgn_mul (p q : Bool) (x y : Nat) : sgn p x * sgn q y = sgn (p != q) (x * y) := by
  unfold sgn
  cases p <;> cases q <;> simp [Int.mul_neg, Int.neg_mul]

end Go.Proofs.YtmlpibdincfgbaaDoor

/-
  (second part)
-/
namespace Go.Proofs.YtmlpibdincfgbaaDoor
open Go.RowKit Mag

theorem or_word (r x : Nat) (hr : r < 4294967296) (hx : x < 4294967296) : bits BinOp.or IntKind.u64 ((r : Int) * 4294967296) (x : Int) = (r : Int) * 4294967296 + (x : Int) := by
  have h := u64_or_nat (r * 4294967296) x (by omega) (by omega)
  rw [nat_join 32 _ _ (by omega) (by omega)] at h
  rw [Int.natCast_mul, Int.natCast_add, Int.natCast_mul] at h
  exact h
theorem short_dig {r x q : Nat} (hr : r < q) (hx : x < 4294967296) : (r * 4294967296 + x) / q < 4294967296 := by
  rw [Nat.div_lt_iff_lt_mul (by omega)]
  have : (r + 1) * 4294967296 ≤ q * 4294967296 := Nat.mul_le_mul_right _ hr
  omega
structure ShortSt (w : World) (B go n : Nat) (a : List Nat) (q k : Nat) (S : List Nat) (r : Nat) (wr : World) : Prop where
  st : MulSt w B go n n S wr
  eq : val (a.drop k) = val (S.drop k) * q + r
  lt : r < q
theorem ShortSt.step {w : World} {B go n q k : Nat} {a S : List Nat} {r : Nat} {wr : World} (h : ShortSt w B go n a q (k + 1) S r wr) (hn : n = a.length) (hB : B ≤ go) (hk : k < n) (hq : q < 4294967296)
    {s : Int} {d r' : Nat} (hd : d = (r * 4294967296 + a.getD k 0) / q) (hr : r' = (r * 4294967296 + a.getD k 0) % q) (hs : s = (d : Int)) : d < 4294967296 → ShortSt w B go n a q k (S.set k d) r' (wr.setCell ⟨go, k, none⟩ (.int .u32 s)) := by
  intro hd32
  have hlt := h.lt
  refine ⟨h.st.set_ hB hd32 (Nat.le_refl _) hk hs, ?_, by rw [hr]; exact Nat.mod_lt _ (by omega)⟩
  have hl := h.st.len
  have e1 := val_drop_cons (l := a) (j := k) (by omega)
  have e2 := val_drop_cons (l := S.set k d) (j := k) (by rw [List.length_set]; omega)
  have e3 : (S.set k d).getD k 0 = d := by rw [List.getD_eq_getElem?_getD, List.getElem?_set_self (by omega)]; rfl
  have e4 : (S.set k d).drop (k + 1) = S.drop (k + 1) := List.drop_set_of_lt (by omega)
  rw [e3, e4] at e2
  rw [e1, e2, short_step (x := a.getD k 0) h.eq, hr, hd]
def ShortPost (w : World) (a : List Nat) (q : Nat) (e : Ending) (w' : World) : Prop :=
  ∃ g ds r, e = .returned (.tuple #[.slice (some ⟨g, 0, none⟩) ds.length ds.length, .int .u32 (r : Nat)]) ∧ Own w' g 175 (ds.map w32) ∧ Ws ds ∧ Hid (val a = val ds * q + r) ∧ r < q ∧ ds.length ≤ a.length ∧ Below w.heap.size w w' ∧ w.heap.size ≤ g

theorem shift_top {S a : List Nat} {k D : Nat} (hv : val S = val (a.take k) * D) (hwa : Ws a) (hk : k < S.length) (hD : 0 < D) : S.getD k 0 < D := by
  have h1 := val_split S k (by omega)
  have h2 := val_drop_cons (l := S) (j := k) hk
  have h3 := lt_pow_of_length (hwa.take k) (k := k) (by rw [List.length_take]; omega)
  have h4 : val (a.take k) * D < 4294967296 ^ k * D := Nat.mul_lt_mul_of_pos_right h3 hD
  have h5 : 4294967296 ^ k * S.getD k 0 ≤ 4294967296 ^ k * val (S.drop k) := Nat.mul_le_mul_left _ (by omega)
  have h6 : 4294967296 ^ k * S.getD k 0 < 4294967296 ^ k * D := by omega
  exact Nat.lt_of_mul_lt_mul_left h6
theorem or_shift {g x y s : Nat} (hs : s < 32) (hg : g < 2 ^ s) (hx : x = y * 2 ^ s) : bits BinOp.or IntKind.u32 (g : Int) ((x : Int) % 4294967296) = ((g + x % 4294967296 : Nat) : Int) ∧ g + x % 4294967296 < 4294967296 := by
  have h32 : 2 ^ s ≤ 2 ^ 32 := Nat.pow_le_pow_right (by decide) (by omega)
  have hd : 2 ^ s ∣ 2 ^ 32 := Nat.pow_dvd_pow 2 (by omega)
  have h1 : x % 4294967296 % 2 ^ s = 0 := by
    rw [show (4294967296 : Nat) = 2 ^ 32 from rfl, Nat.mod_mod_of_dvd _ hd, hx, Nat.mul_mod_left]
  have hlt : g < 2 ^ 32 := by omega
  have h2 := nat_join s (x % 4294967296) g h1 hg
  have h3 : x % 4294967296 ||| g < 2 ^ 32 := Nat.or_lt_two_pow (by omega) hlt
  have h := u32_or_nat g (x % 4294967296) (by omega) (by omega)
  rw [Nat.or_comm, h2, Int.natCast_emod] at h
  rw [h2] at h3
  refine ⟨?_, by omega⟩
  rw [Nat.add_comm g]
  exact h
theorem shl_lim {x s : Nat} (hx : x < 4294967296) (hs : s < 32) : x * 2 ^ s < 9223372036854775808 := by
  have h1 : 2 ^ s ≤ 2 ^ 31 := Nat.pow_le_pow_right (by decide) (by omega)
  have h2 : x * 2 ^ s ≤ 4294967295 * 2 ^ 31 := Nat.mul_le_mul (by omega) h1
  omega
def ShiftPost (w : World) (a : List Nat) (D : Nat) (e : Ending) (w' : World) : Prop :=
  ∃ g ds, e = .returned (.slice (some ⟨g, 0, none⟩) ds.length ds.length) ∧ Own w' g 175 (ds.map w32) ∧ Ws ds ∧ Hid (val ds = val a * D) ∧ Hid (ds.length = a.length + 1) ∧ Below w.heap.size w w' ∧ w.heap.size ≤ g

end Go.Proofs.YtmlpibdincfgbaaDoor

/-
  (second part)
-/
namespace Go.Proofs.YtmlpibdincfgbaaDoor
open Go.RowKit Mag

theorem win_cell {U ds : List Nat} {j k : Nat} (hk : ds.length = k) (hj : j + k < U.length) : ((U.take j ++ ds ++ U.drop (j + k)).map w32)[j + k]? = some (.int .u32 (U.getD (j + k) 0 : Nat)) := by
  rw [List.getElem?_map, List.getElem?_append_right (by simp; omega)]
  rw [show j + k - (U.take j ++ ds).length = 0 by simp; omega, List.getElem?_drop, Nat.add_zero, getD_lt hj, List.getElem?_eq_getElem hj]; rfl
theorem win_set {U ds : List Nat} {j k : Nat} (hk : ds.length = k) (hj : j + k < U.length) (x : Nat) : ((U.take j ++ ds ++ U.drop (j + k)).map w32).set (j + k) (w32 x) = (U.take j ++ (ds ++ [x]) ++ U.drop (j + (k + 1))).map w32 := by
  rw [← List.map_set, List.set_append_right _ _ (by simp; omega), show j + k - (U.take j ++ ds).length = 0 by simp; omega, List.drop_eq_getElem_cons hj, List.set_cons_zero]
  simp [Nat.add_assoc]
structure TakeSt (w : World) (g : Nat) (U v : List Nat) (j q k : Nat) (ds : List Nat) (c bw : Nat) (wr : World) : Prop where
  len : ds.length = k
  ws : Ws ds
  c1 : c < 4294967296
  b1 : bw ≤ 1
  c0 : v.length < k → c = 0
  eq : val ds + q * val (v.take k) = val ((U.drop j).take k) + (c + bw) * 4294967296 ^ k
  out : Own wr g 175 ((U.take j ++ ds ++ U.drop (j + k)).map w32)
  grw : w.grownBy wr (some g)
theorem TakeSt.step {w : World} {g : Nat} {U v : List Nat} {j q k : Nat} {ds : List Nat} {c bw : Nat} {wr : World} (h : TakeSt w g U v j q k ds c bw wr) (hj : j + k < U.length)
    {p t2 b2 : Nat} {s : Int} (hp : p = c + q * v.getD k 0) (hp2 : p / 4294967296 < 4294967296) (hb : b2 ≤ 1) (he : t2 % 4294967296 + p % 4294967296 + bw = U.getD (j + k) 0 + b2 * 4294967296) (hs : s = ((t2 % 4294967296 : Nat) : Int)) :
    TakeSt w g U v j q (k + 1) (ds ++ [t2 % 4294967296]) (p / 4294967296) b2 (wr.setCell ⟨g, j + k, none⟩ (.int .u32 s)) := by
  subst hs
  refine ⟨by simp [h.len], h.ws.append (Ws.cons (by omega) Ws.nil), hp2, hb, fun hv => ?_, take_step h.len h.eq ?_, ?_, grown_trans' h.grw (grown_set _ _ _ _)⟩
  · rw [getD_ge (by omega), Nat.mul_zero, Nat.add_zero] at hp
    have := h.c1
    omega
  · rw [getD_drop']
    have : p = 4294967296 * (p / 4294967296) + p % 4294967296 := by omega
    generalize q * v.getD k 0 = z at *
    omega
  · have := h.out.set_ (j + k) (w32 (t2 % 4294967296))
    rw [win_set h.len hj] at this
    exact this
theorem take_arith {u pl bw : Nat} (hu : u < 4294967296) (hpl : pl < 4294967296) (hbw : bw ≤ 1) : ∃ t1 t2 : Nat, IntKind.u64.wrap ((u : Int) - (pl : Int)) = (t1 : Int) ∧ IntKind.u64.wrap ((t1 : Int) - (bw : Int)) = (t2 : Int) ∧
    t2 / 9223372036854775808 ≤ 1 ∧ t2 % 4294967296 + pl + bw = u + t2 / 9223372036854775808 * 4294967296 := by
  refine ⟨((IntKind.u64.wrap ((u : Int) - (pl : Int)))).toNat, (IntKind.u64.wrap (((IntKind.u64.wrap ((u : Int) - (pl : Int)))).toNat - (bw : Int))).toNat, ?_, ?_, ?_, ?_⟩
  · rw [IntKind.wrap_u64]; omega
  · rw [IntKind.wrap_u64, IntKind.wrap_u64]; omega
  · rw [IntKind.wrap_u64, IntKind.wrap_u64]; omega
  · rw [IntKind.wrap_u64, IntKind.wrap_u64]; omega
def TakePost (w : World) (g : Nat) (U v : List Nat) (j m q : Nat) (e : Ending) (w' : World) : Prop :=
  ∃ ds bw, e = .returned (.bool (decide (0 < bw))) ∧ bw ≤ 1 ∧ Ws ds ∧ Hid (ds.length = m) ∧ Hid (val ds + q * val v = val ((U.drop j).take m) + bw * 4294967296 ^ m) ∧ Own w' g 175 ((U.take j ++ ds ++ U.drop (j + m)).map w32) ∧ w.grownBy w' (some g)

end Go.Proofs.YtmlpibdincfgbaaDoor

/-
  (second part)
-/
namespace Go.Proofs.YtmlpibdincfgbaaDoor
open Go.RowKit Mag

theorem lead_fits {t : Nat} (h0 : 0 < t) (h1 : t < 4294967296) : Lib.bitLen t ≤ 32 ∧ 1 ≤ Lib.bitLen t ∧ 2147483648 ≤ t * 2 ^ (32 - Lib.bitLen t) ∧ t * 2 ^ (32 - Lib.bitLen t) < 4294967296 := by
  obtain ⟨b1, b2, b3⟩ := Lib.bitLenAux_bounds 64 t (by omega) (by omega)
  change 1 ≤ Lib.bitLen t at b1
  change 2 ^ (Lib.bitLen t - 1) ≤ t at b2
  change t < 2 ^ Lib.bitLen t at b3
  have h32 : Lib.bitLen t ≤ 32 := by
    rcases Nat.lt_or_ge 32 (Lib.bitLen t) with h | h
    · have : 2 ^ 32 ≤ 2 ^ (Lib.bitLen t - 1) := Nat.pow_le_pow_right (by decide) (by omega)
      omega
    · exact h
  have hp : 0 < 2 ^ (32 - Lib.bitLen t) := Nat.pow_pos (by decide)
  refine ⟨h32, b1, ?_, ?_⟩
  · have h2 : 2 ^ (Lib.bitLen t - 1) * 2 ^ (32 - Lib.bitLen t) ≤ t * 2 ^ (32 - Lib.bitLen t) := Nat.mul_le_mul_right _ b2
    rw [← Nat.pow_add, show Lib.bitLen t - 1 + (32 - Lib.bitLen t) = 31 by omega] at h2
    omega
  · have h2 : t * 2 ^ (32 - Lib.bitLen t) < 2 ^ Lib.bitLen t * 2 ^ (32 - Lib.bitLen t) := Nat.mul_lt_mul_of_pos_right b3 hp
    rw [← Nat.pow_add, show Lib.bitLen t + (32 - Lib.bitLen t) = 32 by omega] at h2
    omega

def DivPost (w : World) (a b : List Nat) (e : Ending) (w' : World) : Prop :=
  ∃ A1 c1 A2 c2 q r, e = .returned (.tuple #[.slice A1 (List.length q) c1, .slice A2 (List.length r) c2]) ∧ MagIs w' A1 q c1 ∧ MagIs w' A2 r c2 ∧ Hid (val q = val a / val b) ∧ Hid (val r = val a % val b) ∧ Below w.heap.size w w'
theorem MagIs.nil_ (w : World) : MagIs w none [] 0 := ⟨Sl.nil_, Ws.nil, Nz.nil, by simp, by unfold maxLen; omega⟩

theorem div_by {a q r p : Nat} (h : a = q * p + r) (hr : r < p) : q = a / p ∧ r = a % p := by
  subst h
  constructor
  · rw [Nat.add_comm, Nat.add_mul_div_right _ _ (by omega), Nat.div_eq_of_lt hr, Nat.zero_add]
  · rw [Nat.add_comm, Nat.add_mul_mod_self_right, Nat.mod_eq_of_lt hr]

end Go.Proofs.YtmlpibdincfgbaaDoor
