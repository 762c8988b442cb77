/-
  What an integer of chapter 03's reference is: digits in base 10000; normal, at.
-/
import Derived.Test.YtmlpibdincfgbaaDoorT1
import Derived.Test.YtmlpibdincfgbaaDoorReg
import Derived.Deep.Upon
import Derived.Test.YtmlpibdincfgbaaDoorW11
namespace Go.Proofs.YtmlpibdincfgbaaDoor
open Go.RowKit
open Dig (val Ws Nz)

/-- The digits of a list, as cells. -/
def d64 (x : Nat) : Value := .int .i64 (x : Int)
theorem Sl.d64at {w : World} {B : Nat} {A : Option Addr} {l : List Nat} (h : Sl w B A (l.map d64)) {i : Nat} (hi : i < l.length) : ∃ g off, A = some ⟨g, off, none⟩ ∧ g < B ∧ w.cell? ⟨g, off + i, none⟩ = some (.int .i64 (l[i] : Nat)) :=
  h.at_ (x := .int .i64 (l[i] : Nat)) (by simp [d64, hi])
/-- The digits l at A, in the world w. -/
structure DigIs (w : World) (A : Option Addr) (l : List Nat) (c : Nat) : Prop where
  sl : Sl w w.heap.size A (l.map d64)
  ws : Ws l
  cap : l.length ≤ c
  mx : c ≤ maxLen
theorem DigIs.on {w w' : World} {A : Option Addr} {l : List Nat} {c : Nat} (h : DigIs w A l c) (hb : Below w.heap.size w w') : DigIs w' A l c := ⟨h.sl.on hb, h.ws, h.cap, h.mx⟩
theorem DigIs.nil (w : World) : DigIs w none [] 0 := ⟨Sl.nil_, Ws.nil, by simp, by unfold maxLen; omega⟩
theorem DigIs.take {w : World} {A : Option Addr} {l : List Nat} {c : Nat} (h : DigIs w A l c) (k : Nat) : DigIs w A (l.take k) c :=
  ⟨by rw [List.map_take]; exact h.sl.take k, h.ws.take k, by rw [List.length_take]; have := h.cap; omega, h.mx⟩
/-- How many digits an integer of the reference may have here. -/
def many : Nat := 65536
/-- The N with these parts stands for z. -/
def NI (x : IV) (w : World) (z : Int) : Prop :=
  ∃ l, l.length = x.n ∧ x.n ≤ many ∧ DigIs w x.A l x.c ∧ Nz l ∧ (x.neg = true → x.n ≠ 0) ∧ z = sgn x.neg (val l)
theorem NI.on {x : IV} {w w' : World} {z : Int} (h : NI x w z) (hb : Below w.heap.size w w') : NI x w' z := by
  obtain ⟨l, h1, h2, h3, h4⟩ := h
  exact ⟨l, h1, h2, h3.on hb, h4⟩
def nZero : IV := ⟨false, none, 0, 0⟩
theorem NI.zero (w : World) : NI nZero w 0 := ⟨[], rfl, by simp [nZero, many], DigIs.nil w, Nz.nil, by simp [nZero], by simp [val, sgn, nZero]⟩
/-- An N is returned. -/
def RetN (w : World) (z : Int) (e : Ending) (w' : World) : Prop := ∃ x : IV, e = .returned (.agg #[.bool x.neg, .slice x.A x.n x.c]) ∧ Below w.heap.size w w' ∧ NI x w' z
/-- An N is returned, its digits at A. -/
def RetNA (w : World) (A : Option Addr) (z : Int) (e : Ending) (w' : World) : Prop := ∃ x : IV, e = .returned (.agg #[.bool x.neg, .slice x.A x.n x.c]) ∧ Below w.heap.size w w' ∧ NI x w' z ∧ x.A = A
theorem RetNA.ret {w w' : World} {A : Option Addr} {z : Int} {e : Ending} (h : RetNA w A z e w') : RetN w z e w' := by
  obtain ⟨x, h1, h2, h3, _⟩ := h
  exact ⟨x, h1, h2, h3⟩
/-- In a block from B on. -/
def Fr (B : Nat) (A : Option Addr) : Prop := ∀ ad, A = some ad → B ≤ ad.block
/-- Digits are returned, in a block of their own. -/
def RetD (w : World) (P : List Nat → Prop) (e : Ending) (w' : World) : Prop := ∃ A c l, e = .returned (.slice A l.length c) ∧ Below w.heap.size w w' ∧ DigIs w' A l c ∧ P l ∧ Fr w.heap.size A
theorem rsgn_abs (b : Bool) (m : Nat) : (sgn b m).natAbs = m := by cases b <;> simp [sgn]
theorem NI.abs {x : IV} {w : World} {z : Int} (h : NI x w z) : ∃ l, l.length = x.n ∧ x.n ≤ many ∧ DigIs w x.A l x.c ∧ Nz l ∧ val l = z.natAbs ∧ (x.neg = decide (z < 0)) := by
  obtain ⟨l, h1, h2, h3, h4, h5, rfl⟩ := h
  refine ⟨l, h1, h2, h3, h4, (rsgn_abs _ _).symm, ?_⟩
  cases hn : x.neg with
  | false => simp [sgn]
  | true =>
    have : l ≠ [] := fun e => h5 hn (by rw [← h1, e]; rfl)
    have := h4.pos this
    simp [sgn]; omega
theorem NI.len {x : IV} {w : World} {z : Int} (h : NI x w z) {k : Nat} (hk : z.natAbs < 10000 ^ k) : x.n ≤ k := by
  obtain ⟨l, h1, _, _, h4, h5, _⟩ := h.abs
  rw [← h1]
  exact Dig.length_le_of h4 (by omega)

/-- A cell that holds no digit of a number. -/
theorem Sl.put64 {w : World} {B : Nat} {A : Option Addr} {l : List Nat} (h : Sl w B A (l.map d64)) {g i : Nat} {t : TypeId} {xs : List Value} {v : Value} (hO : Own w g t xs) (hi : xs[i]? = some v) (hv : ∀ n, v ≠ .int .i64 n) (u : Value) : Sl (w.setCell ⟨g, i, none⟩ u) B A (l.map d64) := fun hn => by
  obtain ⟨g', off, e, hg, hc⟩ := h hn
  refine ⟨g', off, e, hg, fun j x hx => ?_⟩
  by_cases hp : (⟨g, i, none⟩ : Addr) = ⟨g', off + j, none⟩
  · exfalso
    have h1 := hc j x hx
    rw [← hp, hO.cell, hi] at h1
    obtain ⟨y, _, rfl⟩ := List.mem_map.1 (List.mem_of_getElem? hx)
    injection h1 with h1
    exact hv _ h1
  · exact (World.cell?_setCell_other w ⟨g, i, none⟩ ⟨g', off + j, none⟩ u hp).trans (hc j x hx)
theorem NI.set {x : IV} {w : World} {z : Int} (h : NI x w z) {g i : Nat} {t : TypeId} {xs : List Value} {v : Value} (hO : Own w g t xs) (hi : xs[i]? = some v) (hv : ∀ n, v ≠ .int .i64 n) (u : Value) : NI x (w.setCell ⟨g, i, none⟩ u) z := by
  obtain ⟨l, h1, h2, h3, h4⟩ := h
  exact ⟨l, h1, h2, ⟨(h3.sl.put64 hO hi hv u).more (by simp [World.setCell]), h3.ws, h3.cap, h3.mx⟩, h4⟩
theorem NI.put2 {x : IV} {w : World} {z : Int} (h : NI x w z) {g : Nat} {t : TypeId} {a b : Value} (hO : Own w g t [a, b]) (ha : ∀ n, a ≠ .int .i64 n) (hb : ∀ n, b ≠ .int .i64 n) (u v : Value) : NI x ((w.setCell ⟨g, 0, none⟩ u).setCell ⟨g, 1, none⟩ v) z :=
  (h.set hO (i := 0) rfl ha u).set (hO.set_ 0 u) (i := 1) rfl hb v
theorem rsigned_end {w : World} {A : Option Addr} {c k : Nat} {l : List Nat} {neg b : Bool} (h : DigIs w A l c) (hk : k ≤ l.length) (hl : l.length ≤ many) (hnz : Nz (l.take k)) (hval : val (l.take k) = val l) (hb : b = (neg && decide (0 < k))) :
    NI ⟨b, A, k, c⟩ w (sgn neg (val l)) := by
  subst hb
  refine ⟨l.take k, by rw [List.length_take]; show min k l.length = k; omega, by show k ≤ many; omega, h.take k, hnz, ?_, ?_⟩
  · intro e; simp at e; show k ≠ 0; omega
  · rw [hval]
    unfold sgn
    rcases Nat.eq_zero_or_pos k with h0 | h0
    · subst h0
      have : val l = 0 := by rw [← hval]; simp [val]
      simp [this]
    · simp [h0]
end Go.Proofs.YtmlpibdincfgbaaDoor

/-
  (second part)
-/
namespace Go.Proofs.YtmlpibdincfgbaaDoor
open Go.RowKit
open Dig (val Ws Nz)

theorem Below.drewN_ {B : Nat} {a w : World} (h : Below B a w) (n : Nat) : Below B a (w.drewN n) := ⟨h.os, h.tape, h.output, h.size, h.block⟩
theorem rcmp_val {a b : List Nat} {m : Nat} (ha : Ws a) (hb : Ws b) (hl : a.length = b.length) (hm : m < a.length) (hm' : m < b.length) (hne : a[m] ≠ b[m]) (hd : a.drop (m + 1) = b.drop (m + 1)) :
    cmpI (a[m] : Nat) (b[m] : Nat) = cmpI (val a) (val b) := by
  rcases cmpI_nat_ne hne with ⟨h1, h2⟩ | ⟨h1, h2⟩
  · have := Dig.cmp_top' (k := m + 1) ha hl (by omega) (by omega) (by simpa using h2) hd
    rw [h1, cmpI_lt (by omega)]
  · have := Dig.cmp_top' (k := m + 1) hb hl.symm (by omega) (by omega) (by simpa using h2) hd.symm
    rw [h1, cmpI_gt (by omega)]
/-! ### Lists that grow by append -/
theorem int_info : (Tryd.prog.info? 3).map (fun i => (i.zero, i.size, i.bytes)) = some (some (.int .i64 0), 1, 8) := by kernel_rfl
theorem owns_dig {w : World} {base : Nat} {t : TypeId} {v : Value} {n : Nat} {l : List Nat} (h : w.ownsRow base t 1 v n (l.map d64)) (hw : Ws l) : ∃ A c, v = .slice A l.length c ∧ DigIs w A l c ∧ Fr base A := by
  have hn : l.length = n := by have := h.1; simpa using this
  rcases h.2 with ⟨rfl, h0⟩ | ⟨g, cap, cur, rfl, hb, hg, h1, h2, h3, h4⟩
  · have : l = [] := List.eq_nil_of_length_eq_zero (by omega)
    subst this
    exact ⟨none, 0, rfl, DigIs.nil w, fun _ h => by cases h⟩
  · subst hn
    refine ⟨some ⟨g, 0, none⟩, cap, rfl, ⟨fun _ => ⟨g, 0, rfl, (Array.getElem?_eq_some_iff.1 hg).1, fun i x hx => ?_⟩, hw, h1, h2⟩, fun ad had => by injection had with had; subst had; exact hb⟩
    have hlt : i < l.length := by
      rcases Nat.lt_or_ge i l.length with h | h
      · exact h
      · rw [List.getElem?_eq_none (by simpa using h)] at hx; cases hx
    rw [Nat.zero_add, h.cellAt i (by omega), hx]
theorem owns_keep {w w' : World} {base : Nat} {e : TypeId} {size : Nat} {v : Value} {n : Nat} {xs : List Value} (h : w.ownsRow base e size v n xs) (hb : Below w.heap.size w w') : w'.ownsRow base e size v n xs :=
  h.kept (row := none) ⟨hb.os, hb.tape, hb.output, hb.size, fun k hk _ => hb.block k hk⟩ (by cases h' : v.ownBlock <;> simp)
theorem below_owns {B : Nat} {a w w' : World} {v : Value} {e : TypeId} {size n : Nat} {xs : List Value} (h : Below B a w) (ho : w.ownsRow B e size v n xs) (hg : w.grownBy w' v.ownBlock) (hs : B ≤ w.heap.size) : Below B a w' :=
  Below.grown h hg hs fun k hk => (ho.lt k hk).1
theorem map_snoc (l : List Nat) (x : Nat) : l.map d64 ++ [.int .i64 (x : Int)] = (l ++ [x]).map d64 := by simp [d64]
/-- append(out, y), out a slice of the call's own, y an int. -/
theorem push_int {ops : Array Oper} {rest : List Oper} {o : Oper} {a : Act} {w : World} {Q : Exit → Act → World → Prop} (hgd : o.guard = none) (s x : Operand) (ho : o.op = .call { callee := .builtin .append, args := #[s, x], argTypes := #[24, 24] })
    (B : Nat) (v : Value) (n : Nat) (xs : List Value) (y : Int) (hs : a.eval s = v) (hown : w.ownsRow B 3 1 v n xs) (hx : a.eval x = .slice (some ⟨w.heap.size, 0, none⟩) 1 1) (hn : n ≤ 1099511627776) (hB : B ≤ w.heap.size)
    (h : ∀ v' w', w'.ownsRow B 3 1 v' (n + 1) (xs ++ [.int .i64 y]) → Below B w w' → wpList Tryd.prog ops Q rest (a.put o.dst v') w') : wpList Tryd.prog ops Q (o :: rest) a (w.alloc (.cells #[.int .i64 y] 3)) := by
  obtain ⟨i0, hi, hz0, hz1, hz2⟩ := info_parts int_info
  refine wpList_append_own _ hgd s x 24 ho B 3 i0 (.int .i64 0) 1 8 Tryd.underlying24 hi hz0 hz1 hz2 rfl (by decide) v n xs hs (hown.alloc _) ⟨w.heap.size, 0, none⟩ 1 1 [.int .i64 y] hx rfl ?_ ?_ ?_ ?_ ?_ ?_
  · intro j u hj
    match j, hj with
    | 0, hj => simp at hj; subst hj; simp [Addr.add]
  · intro u hu; simp at hu; subst hu; rfl
  · unfold maxLen; omega
  · omega
  · simp; omega
  intro v' w' hown' hgrow _
  refine h v' w' hown' ?_
  exact ((Below.refl B w).alloc hB _).grown hgrow (by simp; omega) (fun k hk => (hown.lt k hk).1)

theorem pow5 {k m : Nat} (hm : 0 < m) (h : 10000 ^ k * m ≤ 9223372036854775808) : k < 5 := by
  rcases Nat.lt_or_ge k 5 with h5 | h5
  · exact h5
  · have h1 := Dig.pow_mono h5
    have h2 : 10000 ^ k * 1 ≤ 10000 ^ k * m := Nat.mul_le_mul_left _ hm
    have h3 : (10000 : Nat) ^ 5 = 100000000000000000000 := by decide
    omega
theorem of_step {ds : List Nat} {k m N : Nat} (hl : ds.length = k) (h : val ds + 10000 ^ k * m = N) : val (ds ++ [m % 10000]) + 10000 ^ (k + 1) * (m / 10000) = N := by
  rw [Dig.val_snoc, hl, Nat.pow_succ, Nat.add_assoc, Nat.mul_assoc, ← Nat.mul_add, Nat.mod_add_div, h]
theorem retN_end {w w2 : World} {g : Nat} {t : TypeId} {a b : Value} (hW : Below w.heap.size w w2) (hg : w.heap.size ≤ g) (hO : Own w2 g t [a, b]) (ha : ∀ n, a ≠ .int .i64 n) (hb : ∀ n, b ≠ .int .i64 n) {x : IV} {z : Int} (hx : NI x w2 z) :
    RetN w z (.returned (.agg #[.bool x.neg, .slice x.A x.n x.c])) ((w2.setCell ⟨g, 0, none⟩ (.bool x.neg)).setCell ⟨g, 1, none⟩ (.slice x.A x.n x.c)) := ⟨x, rfl, Below.put2 hW hg _ _, hx.put2 hO ha hb _ _⟩
end Go.Proofs.YtmlpibdincfgbaaDoor

/-
  (second part)
-/
namespace Go.Proofs.YtmlpibdincfgbaaDoor
open Go.RowKit
open Dig (val Ws Nz)

/-- The state of plus at a round's head. -/
structure PlusSt (w : World) (a b : List Nat) (k c : Nat) (ds : List Nat) (v : Value) (wr : World) : Prop where
  own : wr.ownsRow w.heap.size 3 1 v k (ds.map d64)
  ws : Ws ds
  c1 : c ≤ 1
  eq : val ds + c * 10000 ^ k = val (a.take k) + val (b.take k)
  cz : c = 0 ∨ k ≤ max a.length b.length
  le : k ≤ max a.length b.length + 1
  bel : Below w.heap.size w wr
theorem PlusSt.len {w : World} {a b : List Nat} {k c : Nat} {ds : List Nat} {v : Value} {wr : World} (h : PlusSt w a b k c ds v wr) : ds.length = k := by
  have := h.own.1; simpa using this
theorem PlusSt.start (w : World) (a b : List Nat) : PlusSt w a b 0 0 [] (.slice none 0 0) w :=
  ⟨World.ownsRow_nil _ _ _ _, Ws.nil, by omega, by simp [val], .inl rfl, by omega, Below.refl _ _⟩
theorem PlusSt.step {w : World} {a b : List Nat} {k c : Nat} {ds : List Nat} {v : Value} {wr : World} (h : PlusSt w a b k c ds v wr) (ha : Ws a) (hb : Ws b) (hk : k < a.length ∨ k < b.length ∨ 0 < c)
    {v' : Value} {w' : World} {y : Int} (hy : y = (((c + (a.getD k 0 + b.getD k 0)) % 10000 : Nat) : Int)) (hown : w'.ownsRow w.heap.size 3 1 v' (k + 1) (ds.map d64 ++ [.int .i64 y])) (hbel : Below w.heap.size w w') :
    PlusSt w a b (k + 1) ((c + (a.getD k 0 + b.getD k 0)) / 10000) (ds ++ [(c + (a.getD k 0 + b.getD k 0)) % 10000]) v' w' := by
  subst hy
  have hs := Dig.sum_step ha hb h.len h.c1 h.eq
  have h1 := h.c1
  rw [map_snoc] at hown
  refine ⟨hown, h.ws.append (Ws.cons (by omega) Ws.nil), hs.1, hs.2, ?_, ?_, hbel⟩
  · rcases Nat.lt_or_ge k (max a.length b.length) with hl | hl
    · right; omega
    · left
      rw [Dig.getD_ge (l := a) (by omega), Dig.getD_ge (l := b) (by omega)]
      omega
  · have := h.cz
    rcases hk with hk | hk | hk <;> omega
theorem PlusSt.fin {w : World} {a b : List Nat} {k : Nat} {ds : List Nat} {v : Value} {wr : World} (h : PlusSt w a b k 0 ds v wr) (h1 : a.length ≤ k) (h2 : b.length ≤ k) :
    RetD w (fun l => val l = val a + val b ∧ l.length ≤ max a.length b.length + 1) (.returned v) wr := by
  obtain ⟨A, c, rfl, hd, hf⟩ := owns_dig h.own h.ws
  have he := h.eq
  rw [List.take_of_length_le h1, List.take_of_length_le h2] at he
  exact ⟨A, c, ds, rfl, h.bel, hd, ⟨by omega, by rw [h.len]; exact h.le⟩, hf⟩
/-- The state of minus at a round's head. -/
structure MinusSt (w : World) (a b : List Nat) (k c : Nat) (ds : List Nat) (v : Value) (wr : World) : Prop where
  own : wr.ownsRow w.heap.size 3 1 v k (ds.map d64)
  ws : Ws ds
  c1 : c ≤ 1
  eq : val ds + val (b.take k) = val (a.take k) + c * 10000 ^ k
  le : k ≤ a.length
  bel : Below w.heap.size w wr
theorem MinusSt.len {w : World} {a b : List Nat} {k c : Nat} {ds : List Nat} {v : Value} {wr : World} (h : MinusSt w a b k c ds v wr) : ds.length = k := by
  have := h.own.1; simpa using this
theorem MinusSt.start (w : World) (a b : List Nat) : MinusSt w a b 0 0 [] (.slice none 0 0) w :=
  ⟨World.ownsRow_nil _ _ _ _, Ws.nil, by omega, by simp [val], by omega, Below.refl _ _⟩
theorem MinusSt.step {w : World} {a b : List Nat} {k c : Nat} {ds : List Nat} {v : Value} {wr : World} (h : MinusSt w a b k c ds v wr) (hk : k < a.length)
    {v' : Value} {w' : World} {d c' : Nat} (hc : c' ≤ 1) (hd : d < 10000) (he : d + (c + b.getD k 0) = a.getD k 0 + c' * 10000) (hown : w'.ownsRow w.heap.size 3 1 v' (k + 1) (ds.map d64 ++ [.int .i64 (d : Int)])) (hbel : Below w.heap.size w w') :
    MinusSt w a b (k + 1) c' (ds ++ [d]) v' w' := by
  have hs := Dig.sub_step h.len h.eq he
  rw [map_snoc] at hown
  exact ⟨hown, h.ws.append (Ws.cons hd Ws.nil), hc, hs, by omega, hbel⟩
theorem MinusSt.fin {w : World} {a b : List Nat} {k c : Nat} {ds : List Nat} {v : Value} {wr : World} (h : MinusSt w a b k c ds v wr) (h1 : a.length ≤ k) (hl : b.length ≤ a.length) (hge : val b ≤ val a) :
    RetD w (fun l => val l = val a - val b ∧ l.length = a.length) (.returned v) wr := by
  have hk : k = a.length := by have := h.le; omega
  subst hk
  obtain ⟨A, c', rfl, hd, hf⟩ := owns_dig h.own h.ws
  exact ⟨A, c', ds, rfl, h.bel, hd, ⟨Dig.sub_end hl h.len h.ws h.eq hge, h.len⟩, hf⟩
end Go.Proofs.YtmlpibdincfgbaaDoor

/-
  (second part)
-/
namespace Go.Proofs.YtmlpibdincfgbaaDoor
open Go.RowKit
open Dig (val Ws Nz)

/-- The parts of a slice. -/
structure DV where
  A : Option Addr
  n : Nat
  c : Nat
def DV.is (x : DV) (w : World) (P : List Nat → Prop) : Prop := ∃ l, l.length = x.n ∧ DigIs w x.A l x.c ∧ P l
theorem DV.is.on {x : DV} {w w' : World} {P : List Nat → Prop} (h : x.is w P) (hb : Below w.heap.size w w') : x.is w' P := by
  obtain ⟨l, h1, h2, h3⟩ := h
  exact ⟨l, h1, h2.on hb, h3⟩
def sN (z : Int) : Spec Bel := ⟨fun v w => ∃ x : IV, v = .agg #[.bool x.neg, .slice x.A x.n x.c] ∧ NI x w z, fun ⟨x, e, h⟩ k => ⟨x, e, h.on k⟩⟩
def sDg (P : List Nat → Prop) : Spec Bel := ⟨fun v w => ∃ x : DV, v = .slice x.A x.n x.c ∧ x.is w P, fun ⟨x, e, h⟩ k => ⟨x, e, h.on k⟩⟩
/-- Digits are returned. -/
def RetDV (w : World) (P : List Nat → Prop) (e : Ending) (w' : World) : Prop := ∃ x : DV, e = .returned (.slice x.A x.n x.c) ∧ Below w.heap.size w w' ∧ x.is w' P
theorem RetD.dv {w : World} {P R : List Nat → Prop} {e : Ending} {w' : World} (h : RetD w P e w') (hp : ∀ l, P l → R l) : RetDV w R e w' := by
  obtain ⟨A, c, l, rfl, h2, h3, h4, _⟩ := h
  exact ⟨⟨A, l.length, c⟩, rfl, h2, l, rfl, h3, hp l h4⟩
theorem NI.val {x : IV} {w : World} {z : Int} (h : NI x w z) : z = sgn x.neg z.natAbs := by
  obtain ⟨l, h1, h2, h3, h4, h5, h6⟩ := h
  rw [h6, rsgn_abs]
theorem NI.dv {x : IV} {w : World} {z : Int} (h : NI x w z) : (⟨x.A, x.n, x.c⟩ : DV).is w fun l => Dig.val l = z.natAbs ∧ l.length ≤ many := by
  obtain ⟨l, e1, e2, e3, e4, e5, e6⟩ := h.abs
  exact ⟨l, e1, e3, e5, by omega⟩
theorem rsgn_add {s : Bool} {a b : Int} (ha : a = sgn s a.natAbs) (hb : b = sgn s b.natAbs) : sgn s (a.natAbs + b.natAbs) = a + b := by
  cases s <;> simp only [sgn] at * <;> simp at * <;> omega
theorem rsgn_sub {s t : Bool} {a b : Int} (ha : a = sgn s a.natAbs) (hb : b = sgn t b.natAbs) (hs : s ≠ t) (hle : b.natAbs ≤ a.natAbs) : sgn s (a.natAbs - b.natAbs) = a + b := by
  cases s <;> cases t <;> simp only [sgn] at * <;> simp at * <;> omega
end Go.Proofs.YtmlpibdincfgbaaDoor

/-
  (second part)
-/
namespace Go.Proofs.YtmlpibdincfgbaaDoor
open Go.RowKit
open Dig (val Ws Nz)

theorem make_int (n : Nat) (hn : n ≤ 1099511627776) (m : Int) (hm : m = (n : Int)) (u : World) :
    (Instr.makeSlice 24 (.int .i64 m) (.int .i64 m)).run Tryd.prog u = .ok (.slice (some ⟨u.heap.size, 0, none⟩) n n) (u.alloc (.cells (List.replicate n (d64 0)).toArray 3)) := by
  obtain ⟨i0, hi, hz0, hz1, hz2⟩ := info_parts int_info
  exact run_make1 _ _ i0 _ Tryd.underlying24 hi hz0 hz1 rfl (by rw [hz2]; decide) n hn m hm u
/-- The state of a product: S is what the result holds. -/
structure MSt (w : World) (go : Nat) (n : Nat) (z : Nat) (S : List Nat) (wr : World) : Prop where
  len : S.length = n
  ws : Ws S
  zero : ∀ j, z ≤ j → S.getD j 0 = 0
  out : Own wr go 3 (S.map d64)
  bel : Below w.heap.size w wr
theorem MSt.cell {w : World} {go n z : Nat} {S : List Nat} {wr : World} (h : MSt w go n z S wr) {j : Nat} (hj : j < n) : wr.cell? ⟨go, j, none⟩ = some (.int .i64 (S.getD j 0 : Nat)) := by
  have hl := h.len
  rw [h.out.cell, List.getElem?_map, List.getElem?_eq_getElem (by omega), Dig.getD_lt (by omega)]; rfl
theorem MSt.on {w : World} {go n z : Nat} {S : List Nat} {wr w' : World} (h : MSt w go n z S wr) (hb : Below wr.heap.size wr w') : MSt w go n z S w' :=
  ⟨h.len, h.ws, h.zero, h.out.on hb, h.bel.trans (hb.mono h.bel.size)⟩
theorem MSt.set_ {w : World} {go n z : Nat} {S : List Nat} {wr : World} (h : MSt w go n z S wr) (hB : w.heap.size ≤ go) {j x z' : Nat} (hx : x < 10000) (hz : z ≤ z') (hj : j < z') {s : Int} (hs : s = (x : Int)) :
    MSt w go n z' (S.set j x) (wr.setCell ⟨go, j, none⟩ (.int .i64 s)) := by
  subst hs
  refine ⟨by simp [h.len], h.ws.set j hx, fun i hi => ?_, ?_, h.bel.setCell hB _⟩
  · have := h.zero i (by omega)
    rw [List.getD_eq_getElem?_getD, List.getElem?_set_ne (by omega), ← List.getD_eq_getElem?_getD, this]
  · have := h.out.set_ j (d64 x)
    rw [← List.map_set] at this
    exact this
theorem MSt.dv {w : World} {go n z : Nat} {S : List Nat} {wr : World} (h : MSt w go n z S wr) (hn : n ≤ many) {m : Nat} (hv : val S = m) : (⟨some ⟨go, 0, none⟩, n, n⟩ : DV).is wr fun l => val l = m ∧ l.length ≤ many := by
  have hm : many = 65536 := rfl
  exact ⟨S, h.len, ⟨h.out.sl h.out.lt, h.ws, by rw [h.len]; exact Nat.le_refl _, by show n ≤ maxLen; unfold maxLen; omega⟩, hv, by rw [h.len]; exact hn⟩
theorem mul_lim4 {x y : Nat} (hx : x < 10000) (hy : y < 10000) : x * y ≤ 99980001 := by
  have : x * y ≤ 9999 * 9999 := Nat.mul_le_mul (by omega) (by omega)
  omega
theorem sgn_mul4 {p q : Bool} {a b : Int} (ha : a = sgn p a.natAbs) (hb : b = sgn q b.natAbs) : sgn (p != q) (a.natAbs * b.natAbs) = a * b := by
  rw [ha, hb, rsgn_abs, rsgn_abs]
  unfold sgn
  cases p <;> cases q <;> simp [Int.mul_neg, Int.neg_mul]
end Go.Proofs.YtmlpibdincfgbaaDoor

/-
  (second part)
-/
namespace Go.Proofs.YtmlpibdincfgbaaDoor
open Go.RowKit
open Dig (val Ws Nz)

theorem sgn_neg {s : Bool} {a : Int} (ha : a = sgn s a.natAbs) : sgn (!s) a.natAbs = -a := by
  cases s <;> simp only [sgn] at * <;> simp at * <;> omega
theorem NI.len_eq {x y : IV} {w w' : World} {a b : Int} (hx : NI x w a) (hy : NI y w' b) (h : a.natAbs = b.natAbs) : x.n ≤ y.n := by
  obtain ⟨l, e1, e2, e3, e4, e5, e6⟩ := hx.abs
  obtain ⟨m, f1, f2, f3, f4, f5, f6⟩ := hy.abs
  rw [← e1, ← f1, Dig.norm_eq e3.ws f3.ws e4 f4 (by omega)]
  exact Nat.le_refl _
theorem cmp_nat {a b : Nat} : (a < b ∧ cmpI a b = -1) ∨ (a = b ∧ cmpI a b = 0) ∨ (b < a ∧ cmpI a b = 1) := by
  rcases Nat.lt_trichotomy a b with h | h | h
  · exact .inl ⟨h, cmpI_lt (by exact_mod_cast h)⟩
  · exact .inr (.inl ⟨h, cmpI_eq (by exact_mod_cast h)⟩)
  · exact .inr (.inr ⟨h, cmpI_gt (by exact_mod_cast h)⟩)
theorem cmp_pos {a b : Int} (ha : a = sgn false a.natAbs) (hb : b = sgn false b.natAbs) : cmpI a.natAbs b.natAbs = cmpI a b := by
  have h1 : (a.natAbs : Int) = a := by simp [sgn] at ha; omega
  have h2 : (b.natAbs : Int) = b := by simp [sgn] at hb; omega
  rw [h1, h2]
theorem cmp_neg {a b : Int} (ha : a = sgn true a.natAbs) (hb : b = sgn true b.natAbs) : cmpI b.natAbs a.natAbs = cmpI a b := by
  have h1 : (a.natAbs : Int) = -a := by simp [sgn] at ha; omega
  have h2 : (b.natAbs : Int) = -b := by simp [sgn] at hb; omega
  rw [h1, h2]
  rcases Int.lt_trichotomy a b with h | h | h
  · rw [cmpI_lt h, cmpI_lt (by omega)]
  · rw [cmpI_eq h, cmpI_eq (by omega)]
  · rw [cmpI_gt h, cmpI_gt (by omega)]
end Go.Proofs.YtmlpibdincfgbaaDoor

/-
  (second part)
-/
namespace Go.Proofs.YtmlpibdincfgbaaDoor
open Go.RowKit
open Dig (val Ws Nz)

/-- append([]int{y}, d...). -/
theorem join_int {ops : Array Oper} {rest : List Oper} {o : Oper} {a : Act} {w : World} {Q : Exit → Act → World → Prop} (hgd : o.guard = none) (s x : Operand) (ho : o.op = .call { callee := .builtin .append, args := #[s, x], argTypes := #[24, 24] })
    (y : Nat) (hy : y < 10000) (d : DV) (l : List Nat) (hs : a.eval s = .slice (some ⟨w.heap.size, 0, none⟩) 1 1) (hx : a.eval x = .slice d.A d.n d.c) (hd : DigIs w d.A l d.c) (hl : l.length = d.n) (hn : d.n ≤ many)
    (h : ∀ (z : DV) w', Below w.heap.size w w' → z.is w' (fun k => k = y :: l) → wpList Tryd.prog ops Q rest (a.put o.dst (.slice z.A z.n z.c)) w') : wpList Tryd.prog ops Q (o :: rest) a (w.alloc (.cells #[.int .i64 (y : Int)] 3)) := by
  have hO := Own.new w 3 [.int .i64 (y : Int)]
  unfold many at hn
  obtain ⟨i0, hi, hz0, hz1, hz2⟩ := info_parts int_info
  by_cases h0 : d.n = 0
  · have hl0 : l = [] := List.eq_nil_of_length_eq_zero (by omega)
    subst hl0
    refine wpList_plain hgd fun K hK => ?_
    have hsrc : Src Tryd.prog i0.size 24 (.slice d.A d.n d.c) 0 [] (w.alloc (.cells #[.int .i64 (y : Int)] 3)) := by
      rw [h0]
      cases d.A with
      | none => exact Src.ofNil _ Tryd.underlying24 d.c
      | some ad => exact Src.ofSlice _ Tryd.underlying24 ad 0 d.c [] (by simp) (by simp) (by simp)
    have hrun := run_append_nothing (P := Tryd.prog) (w.alloc (.cells #[.int .i64 (y : Int)] 3)) 24 24 o.type 3 i0 Tryd.underlying24 hi (some ⟨w.heap.size, 0, none⟩) 1 1 (Nat.le_refl _) _ hsrc
    unfold Oper.wp
    simp [execOp, ho, resolve, invoke, builtin, hs, hx, hrun, Result.andThen]
    exact hK _ _ (h ⟨some ⟨w.heap.size, 0, none⟩, 1, 1⟩ _ (below_new w _) ⟨[y], rfl, ⟨hO.sl hO.lt, Ws.cons hy Ws.nil, by simp, by show 1 ≤ maxLen; unfold maxLen; omega⟩, rfl⟩)
  · obtain ⟨g, off, hA, hg, hc⟩ := hd.sl (by intro e; rw [List.map_eq_nil_iff] at e; subst e; exact h0 hl.symm)
    refine wpList_append_own _ hgd s x 24 ho w.heap.size 3 i0 (.int .i64 0) 1 8 Tryd.underlying24 hi hz0 hz1 hz2 rfl (by decide) (.slice (some ⟨w.heap.size, 0, none⟩) 1 1) 1 [.int .i64 (y : Int)] hs
      (World.ownsRow_lit w #[.int .i64 (y : Int)] 1 (Nat.le_refl _) (by unfold maxLen; omega) rfl) ⟨g, off, none⟩ d.n d.c (l.map d64) (by rw [hx, hA]) (by simp [hl]) ?_ ?_ (by unfold maxLen; omega) (by omega) (by simp) ?_
    · intro j u hu
      rw [show (⟨g, off, none⟩ : Addr).add j = ⟨g, off + j, none⟩ by cases j <;> rfl, World.cell?_alloc_lt _ _ _ hg]
      exact hc j u hu
    · intro u hu
      obtain ⟨k, _, rfl⟩ := List.mem_map.1 hu
      rfl
    · intro v' w' hown hgrow _
      have e : [Value.int .i64 (y : Int)] ++ l.map d64 = (y :: l).map d64 := rfl
      rw [e] at hown
      obtain ⟨A, c, hv, hdd, _⟩ := owns_dig hown (Ws.cons hy hd.ws)
      rw [hv]
      exact h ⟨A, (y :: l).length, c⟩ w' ((below_new w _).grown hgrow (by simp) (fun k hk => by simp [Value.ownBlock] at hk; omega)) ⟨y :: l, rfl, hdd, rfl⟩

/-- Digits without zeros at the end, of the value m. -/
def ND (d : DV) (w : World) (m : Nat) : Prop := d.is w fun l => Nz l ∧ val l = m ∧ l.length ≤ many
theorem ND.on {d : DV} {w w' : World} {m : Nat} (h : ND d w m) (hb : Below w.heap.size w w') : ND d w' m := DV.is.on h hb
theorem NI.nd {x : IV} {w : World} {z : Int} (h : NI x w z) {m : Nat} (hm : z.natAbs = m) : ND ⟨x.A, x.n, x.c⟩ w m := by
  obtain ⟨l, e1, e2, e3, e4, e5, e6⟩ := h.abs
  exact ⟨l, e1, e3, e4, by omega, by omega⟩
theorem ND.ni {d : DV} {w : World} {m : Nat} (h : ND d w m) : NI ⟨false, d.A, d.n, d.c⟩ w (m : Int) := by
  obtain ⟨l, e1, e2, e3, e4, e5⟩ := h
  exact ⟨l, e1, by show d.n ≤ many; omega, e2, e3, by simp, by rw [e4]; simp [sgn]⟩
theorem ND.nil (w : World) : ND ⟨none, 0, 0⟩ w 0 := ⟨[], rfl, DigIs.nil w, Nz.nil, rfl, by simp⟩
end Go.Proofs.YtmlpibdincfgbaaDoor
/-
  (second part)
-/
namespace Go.Proofs.YtmlpibdincfgbaaDoor
open Go.RowKit
open Dig (val Ws Nz)

theorem ND.len {d e : DV} {w w' : World} {m k : Nat} (hd : ND d w m) (he : ND e w' k) (h : m ≤ k) : d.n ≤ e.n := by
  obtain ⟨l, e1, e2, e3, e4, e5⟩ := hd
  obtain ⟨j, f1, f2, f3, f4, f5⟩ := he
  rw [← e1, ← f1]
  rcases Nat.lt_or_ge j.length l.length with h1 | h1
  · have := Dig.lt_of_length f2.ws e3 h1
    omega
  · exact h1
/-- The state of a division at a round's head. -/
structure RDivSt (w : World) (go n : Nat) (a : List Nat) (B i : Nat) (ds : List Nat) (R : Nat) (rest : DV) (wr : World) : Prop where
  len : ds.length + i = n
  ws : Ws ds
  eq : val (a.drop i) = val ds * B + R
  lt : R < B
  out : Own wr go 3 ((List.replicate i 0 ++ ds).map d64)
  bel : Below w.heap.size w wr
  rest : ND rest wr R
theorem RDivSt.step {w : World} {go n : Nat} {a : List Nat} {B m : Nat} {ds : List Nat} {R : Nat} {rest : DV} {wr : World} (h : RDivSt w go n a B (m + 1) ds R rest wr) (hg : w.heap.size ≤ go) (hm : m < a.length) {w' : World} (hb : Below wr.heap.size wr w')
    {q : Nat} (hq : q < 10000) {y : DV} (hy : ND y w' (a[m] + 10000 * R - B * q)) (h1 : B * q ≤ a[m] + 10000 * R) (h2 : a[m] + 10000 * R < B * (q + 1)) {s : Int} (hs : s = (q : Int)) (hgy : ∀ g off, y.A = some ⟨g, off, none⟩ → y.n ≠ 0 → g ≠ go) :
    RDivSt w go n a B m (q :: ds) (a[m] + 10000 * R - B * q) y (w'.setCell ⟨go, m, none⟩ (.int .i64 s)) := by
  subst hs
  refine ⟨by have := h.len; simp; omega, Ws.cons hq h.ws, ?_, ?_, ?_, ?_, ?_⟩
  · rw [Dig.val_drop_cons hm, Dig.getD_lt hm, h.eq, Dig.val_cons]
    have : (q + 10000 * val ds) * B = B * q + 10000 * (val ds * B) := by grind
    rw [this]
    omega
  · rw [Nat.mul_add, Nat.mul_one] at h2
    omega
  · have := (h.out.on hb).set_ m (d64 q)
    rw [← List.map_set] at this
    have e : (List.replicate (m + 1) 0 ++ ds).set m q = List.replicate m 0 ++ q :: ds := by
      rw [List.replicate_succ', List.append_assoc, List.set_append_right _ _ (by simp)]
      simp
    rw [e] at this
    exact this
  · exact (h.bel.trans (hb.mono h.bel.size)).setCell hg _
  · obtain ⟨l, k1, k2, k3, k4, k5⟩ := hy
    refine ⟨l, k1, ⟨fun hn => ?_, k2.ws, k2.cap, k2.mx⟩, k3, k4, k5⟩
    obtain ⟨g, off, e, hg', hc⟩ := k2.sl hn
    refine ⟨g, off, e, by simpa [World.setCell] using hg', fun i x hx => ?_⟩
    rw [World.cell?_setCell_other]
    · exact hc i x hx
    · intro ee
      injection ee with e1 e2
      have hne : y.n ≠ 0 := by
        intro h0
        rw [h0] at k1
        exact hn (by simp [List.eq_nil_of_length_eq_zero k1])
      exact hgy g off e hne e1.symm
theorem ND.parts {d : DV} {w : World} {m : Nat} (h : ND d w m) : ∃ l, DigIs w d.A l d.c ∧ l.length = d.n ∧ val l = m := by
  obtain ⟨l, e1, e2, e3, e4, e5⟩ := h
  exact ⟨l, e2, e1, e4⟩
end Go.Proofs.YtmlpibdincfgbaaDoor

/-
  (second part)
-/
namespace Go.Proofs.YtmlpibdincfgbaaDoor
open Go.RowKit
open Dig (val Ws Nz)

section
variable {P : Program} {c : Code} {Q : Exit → Act → World → Prop} {a : Act} {w : World} {T U V X : TypeId} {xs ys zs us : List Value}
theorem wp_new4 (h : ∀ W, Own W w.heap.size T xs → Own W (w.heap.size + 1) U ys → Own W (w.heap.size + 1 + 1) V zs → Own W (w.heap.size + 1 + 1 + 1) X us → Below w.heap.size w W → c.wp P Q a W) :
    c.wp P Q a ((((w.alloc (.cells xs.toArray T)).alloc (.cells ys.toArray U)).alloc (.cells zs.toArray V)).alloc (.cells us.toArray X)) := by
  have h2 := Own.new (w.alloc (.cells xs.toArray T)) U ys
  rw [show (w.alloc (.cells xs.toArray T)).heap.size = w.heap.size + 1 by simp] at h2
  have h3 := Own.new ((w.alloc (.cells xs.toArray T)).alloc (.cells ys.toArray U)) V zs
  rw [show ((w.alloc (.cells xs.toArray T)).alloc (.cells ys.toArray U)).heap.size = w.heap.size + 1 + 1 by simp] at h3
  have h4 := Own.new (((w.alloc (.cells xs.toArray T)).alloc (.cells ys.toArray U)).alloc (.cells zs.toArray V)) X us
  rw [show (((w.alloc (.cells xs.toArray T)).alloc (.cells ys.toArray U)).alloc (.cells zs.toArray V)).heap.size = w.heap.size + 1 + 1 + 1 by simp] at h4
  exact h _ ((((Own.new w T xs).alloc _).alloc _).alloc _) ((h2.alloc _).alloc _) (h3.alloc _) h4 (by go_grown)
end
/-- Two N's are returned. -/
def RetNN (w : World) (z1 z2 : Int) (e : Ending) (w' : World) : Prop := ∃ x y : IV, e = .returned (.tuple #[.agg #[.bool x.neg, .slice x.A x.n x.c], .agg #[.bool y.neg, .slice y.A y.n y.c]]) ∧ Below w.heap.size w w' ∧ NI x w' z1 ∧ NI y w' z2
theorem ND.len_pos {d : DV} {w : World} {m : Nat} (h : ND d w m) : (0 < d.n ↔ 0 < m) := by
  obtain ⟨l, e1, e2, e3, e4, e5⟩ := h
  rw [← e1, ← e4]
  constructor
  · intro h
    exact e3.pos (by intro e; subst e; simp at h)
  · intro h
    rcases Nat.eq_zero_or_pos l.length with h0 | h0
    · rw [List.eq_nil_of_length_eq_zero h0] at h
      simp [val] at h
    · exact h0
theorem NI.drew_ {x : IV} {w : World} {z : Int} (h : NI x w z) : NI x w.drew z := by
  obtain ⟨l, a1, a2, a3, a4⟩ := h
  exact ⟨l, a1, a2, ⟨a3.sl, a3.ws, a3.cap, a3.mx⟩, a4⟩
theorem Own.drew_ {w : World} {g : Nat} {t : TypeId} {xs : List Value} (h : Own w g t xs) : Own w.drew g t xs := h
/-- The end of a call that stores two N's into its results. -/
theorem retNN_end {w W : World} {g1 g2 : Nat} {t1 t2 : TypeId} {p0 p1 r0 r1 : Value} {u v : IV} {z1 z2 : Int} (hb : Below w.heap.size w W) (hg1 : w.heap.size ≤ g1) (hg2 : w.heap.size ≤ g2) (h1 : Own W g1 t1 [p0, p1]) (h2 : Own W g2 t2 [r0, r1]) (hne : g1 ≠ g2)
    (hp0 : ∀ n, p0 ≠ .int .i64 n) (hp1 : ∀ n, p1 ≠ .int .i64 n) (hr0 : ∀ n, r0 ≠ .int .i64 n) (hr1 : ∀ n, r1 ≠ .int .i64 n) (hu : NI u W z1) (hv : NI v W z2) :
    RetNN w z1 z2 (.returned (.tuple #[.agg #[.bool u.neg, .slice u.A u.n u.c], .agg #[.bool v.neg, .slice v.A v.n v.c]])) ((((W.setCell ⟨g1, 0, none⟩ (.bool u.neg)).setCell ⟨g1, 1, none⟩ (.slice u.A u.n u.c)).setCell ⟨g2, 0, none⟩ (.bool v.neg)).setCell ⟨g2, 1, none⟩ (.slice v.A v.n v.c)).drew ∧
    Own ((((W.setCell ⟨g1, 0, none⟩ (.bool u.neg)).setCell ⟨g1, 1, none⟩ (.slice u.A u.n u.c)).setCell ⟨g2, 0, none⟩ (.bool v.neg)).setCell ⟨g2, 1, none⟩ (.slice v.A v.n v.c)).drew g1 t1 [.bool u.neg, .slice u.A u.n u.c] ∧
    Own ((((W.setCell ⟨g1, 0, none⟩ (.bool u.neg)).setCell ⟨g1, 1, none⟩ (.slice u.A u.n u.c)).setCell ⟨g2, 0, none⟩ (.bool v.neg)).setCell ⟨g2, 1, none⟩ (.slice v.A v.n v.c)).drew g2 t2 [.bool v.neg, .slice v.A v.n v.c] := by
  have k2 := (h2.far (p := ⟨g1, 0, none⟩) (Ne.symm hne) (.bool u.neg)).far (p := ⟨g1, 1, none⟩) (Ne.symm hne) (.slice u.A u.n u.c)
  have k1 := h1.put2 (.bool u.neg) (.slice u.A u.n u.c)
  have hu2 := (hu.put2 h1 hp0 hp1 (.bool u.neg) (.slice u.A u.n u.c)).put2 k2 hr0 hr1 (.bool v.neg) (.slice v.A v.n v.c)
  have hv2 := (hv.put2 h1 hp0 hp1 (.bool u.neg) (.slice u.A u.n u.c)).put2 k2 hr0 hr1 (.bool v.neg) (.slice v.A v.n v.c)
  have hbb := Below.put2 (Below.put2 hb hg1 (.bool u.neg) (.slice u.A u.n u.c)) hg2 (.bool v.neg) (.slice v.A v.n v.c)
  refine ⟨⟨u, v, rfl, hbb.drew, ?_, ?_⟩, ?_, ?_⟩
  · exact hu2.drew_
  · exact hv2.drew_
  · exact Own.drew_ ((k1.far (p := ⟨g2, 0, none⟩) hne (.bool v.neg)).far (p := ⟨g2, 1, none⟩) hne (.slice v.A v.n v.c))
  · exact Own.drew_ (k2.put2 (.bool v.neg) (.slice v.A v.n v.c))
end Go.Proofs.YtmlpibdincfgbaaDoor

/-
  (second part)
-/
namespace Go.Proofs.YtmlpibdincfgbaaDoor
open Go.RowKit
open Dig (val Ws Nz)

theorem two_lt {b j : Nat} (h : b ≤ 13 * j) : 2 ^ b < 10000 ^ (j + 1) := by
  have h1 : (2 : Nat) ^ b ≤ 2 ^ (13 * j) := Nat.pow_le_pow_right (by omega) h
  have h2 : (2 : Nat) ^ (13 * j) = 8192 ^ j := by rw [Nat.pow_mul]
  have h3 : (8192 : Nat) ^ j ≤ 10000 ^ j := Nat.pow_le_pow_left (by omega) j
  have h4 : (10000 : Nat) ^ j < 10000 ^ (j + 1) := Nat.pow_lt_pow_right (by omega) (by omega)
  omega
theorem NI.two_ {x : IV} {w : World} {b j : Nat} (h : NI x w ((2 ^ b : Nat) : Int)) (hb : b ≤ 13 * j) : x.n ≤ j + 1 :=
  NI.len (k := j + 1) h (by rw [Int.natAbs_natCast]; exact two_lt hb)
theorem NI.two {x : IV} {w : World} {b : Nat} (h : NI x w ((2 ^ b : Nat) : Int)) (hb : b ≤ 32773) : x.n ≤ 2522 := by
  have := NI.two_ (j := 2521) h (by omega)
  omega
theorem pow_sum (a b : Nat) : ((2 ^ a : Nat) : Int) * ((2 ^ b : Nat) : Int) = ((2 ^ (a + b) : Nat) : Int) := by rw [← Int.natCast_mul, ← Nat.pow_add]
/-- An N is stored into a block of two cells, beside another. -/
theorem put_beside {w w5 : World} {g h : Nat} {t u : TypeId} {x0 x1 y0 y1 : Value} {p y : IV} {z1 z2 : Int} (hb : Below w.heap.size w w5) (hg : w.heap.size ≤ g) (hO : Own w5 g t [x0, x1]) (hP : Own w5 h u [y0, y1]) (hne : h ≠ g) (h0 : ∀ n, x0 ≠ .int .i64 n) (h1 : ∀ n, x1 ≠ .int .i64 n) (hp : NI p w5 z1) (hy : NI y w5 z2) :
    ∃ V, (w5.setCell ⟨g, 0, none⟩ (.bool p.neg)).setCell ⟨g, 1, none⟩ (.slice p.A p.n p.c) = V ∧ Below w.heap.size w V ∧ Own V g t [.bool p.neg, .slice p.A p.n p.c] ∧ Own V h u [y0, y1] ∧ NI p V z1 ∧ NI y V z2 :=
  ⟨_, rfl, Below.put2 hb hg _ _, hO.put2 _ _, (hP.far (p := ⟨g, 0, none⟩) hne _).far (p := ⟨g, 1, none⟩) hne _, hp.put2 hO h0 h1 _ _, hy.put2 hO h0 h1 _ _⟩
end Go.Proofs.YtmlpibdincfgbaaDoor

/-
  (second part)
-/
namespace Go.Proofs.YtmlpibdincfgbaaDoor
open Go.RowKit
open Dig (val Ws Nz)

end Go.Proofs.YtmlpibdincfgbaaDoor
