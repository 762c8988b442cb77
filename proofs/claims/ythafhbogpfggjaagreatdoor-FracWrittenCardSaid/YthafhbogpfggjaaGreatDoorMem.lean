/-
  Slices that read as a list of values, and what keeps that. No program in it.
-/
import Derived.WalkKit
import Derived.WalkSpells
import Derived.WalkLawsBesides
import Derived.Lib.Hide
import Derived.Test.YthafhbogpfggjaaGreatDoorMag
import Derived.BigQuiet
import Derived.Deep.QuietTactic
import Derived.Handy
import Derived.Laws.MakeOwn
import Derived.Laws.CopyOwn
import Derived.Deep.RegionHeld3
import Derived.Deep.DeepCutAuto
import Derived.Outline
namespace Go.Proofs.YthafhbogpfggjaaGreatDoor
open Go.RowKit

/-- The words of a list, as cells. -/
def w32 (x : Nat) : Value := .int .u32 (x : Int)
def i64 (x : Int) : Value := .int .i64 x

/-- The slice at A reads as the values xs, below block B. -/
def Sl (w : World) (B : Nat) (A : Option Addr) (xs : List Value) : Prop :=
  xs ≠ [] → ∃ g off, A = some ⟨g, off, none⟩ ∧ g < B ∧ ∀ i x, xs[i]? = some x → w.cell? ⟨g, off + i, none⟩ = some x

section
variable {w w' : World} {B B' : Nat} {A : Option Addr} {xs : List Value}
theorem Sl.nil_ : Sl w B A [] := fun h => absurd rfl h
theorem Sl.keep (h : Sl w B A xs) (hk : ∀ p : Addr, p.block < B → w'.cell? p = w.cell? p) : Sl w' B A xs := fun hn => by
  obtain ⟨g, off, rfl, hg, hc⟩ := h hn
  exact ⟨g, off, rfl, hg, fun i x hx => (hk _ hg).trans (hc i x hx)⟩
theorem Sl.more (h : Sl w B A xs) (hB : B ≤ B') : Sl w B' A xs := fun hn => by
  obtain ⟨g, off, rfl, hg, hc⟩ := h hn
  exact ⟨g, off, rfl, by omega, hc⟩
theorem Sl.below (h : Sl w B A xs) (hb : Below B w w') : Sl w' B A xs := h.keep fun _ hp => hb.cell hp
/-- Along a call: what was there reads as before. -/
theorem Sl.on (h : Sl w w.heap.size A xs) (hb : Below w.heap.size w w') : Sl w' w'.heap.size A xs := (h.below hb).more hb.size
theorem Sl.alloc (h : Sl w B A xs) (hB : B ≤ w.heap.size) (o : Obj) : Sl (w.alloc o) B A xs := h.keep fun p hp => World.cell?_alloc_lt w o p (by omega)
theorem Sl.set_ (h : Sl w B A xs) {p : Addr} (hB : B ≤ p.block) (u : Value) : Sl (w.setCell p u) B A xs :=
  h.keep fun q hq => World.cell?_setCell_other w p q u (fun e => by subst e; omega)
theorem Sl.drew (h : Sl w B A xs) : Sl w.drew B A xs := h
theorem Sl.take (h : Sl w B A xs) (k : Nat) : Sl w B A (xs.take k) := fun hn => by
  have hx : xs ≠ [] := by intro e; subst e; simp at hn
  obtain ⟨g, off, rfl, hg, hc⟩ := h hx
  refine ⟨g, off, rfl, hg, fun i x hi => hc i x ?_⟩
  rw [List.getElem?_take] at hi
  split at hi
  · exact hi
  · cases hi
theorem Sl.at_ (h : Sl w B A xs) {i : Nat} {x : Value} (hx : xs[i]? = some x) : ∃ g off, A = some ⟨g, off, none⟩ ∧ g < B ∧ w.cell? ⟨g, off + i, none⟩ = some x := by
  obtain ⟨g, off, rfl, hg, hc⟩ := h (by intro e; subst e; simp at hx)
  exact ⟨g, off, rfl, hg, hc i x hx⟩
theorem Sl.w32at {l : List Nat} (h : Sl w B A (l.map w32)) {i : Nat} (hi : i < l.length) : ∃ g off, A = some ⟨g, off, none⟩ ∧ g < B ∧ w.cell? ⟨g, off + i, none⟩ = some (.int .u32 (l[i] : Nat)) :=
  h.at_ (x := .int .u32 (l[i] : Nat)) (by simp [w32, hi])
end

theorem ret_i64 {a b : Int} (h : a = b) : Ending.returned (.int .i64 a) = .returned (.int .i64 b) := by rw [h]
/-! A quiet call; one behind another. -/
theorem quiet_add_left {P : Program} {f : FuncId} {args : Array Value} {w : World} {a n : Nat} {v : Value}
    (h : Calls P f args (w.drewN (a + n)) fun e w' => e = .returned v ∧ w.drewN (a + n) = w') :
    Calls P f args (w.drewN (a + n)) fun e w'' => e = .returned v ∧ ∃ m, w'' = w.drewN (a + m) :=
  h.mono fun _ _ ⟨he, hm⟩ => ⟨he, n, hm.symm⟩
theorem quiet_left {P : Program} {f : FuncId} {args : Array Value} {w : World} {n : Nat} {v : Value}
    (h : Calls P f args (w.drewN n) fun e w' => e = .returned v ∧ w.drewN n = w') : Calls P f args (w.drewN n) fun e w'' => e = .returned v ∧ ∃ m, w'' = w.drewN m :=
  h.mono fun _ _ ⟨he, hm⟩ => ⟨he, n, hm.symm⟩
theorem Sl.drewN {w : World} {B : Nat} {A : Option Addr} {xs : List Value} (h : Sl w B A xs) (n : Nat) : Sl (w.drewN n) B A xs := h

theorem mid_cell {ds : List Nat} {k m : Nat} (hk : ds.length = k) (hm : 0 < m) : ((ds ++ List.replicate m 0).map w32)[k]? = some (w32 0) := by
  obtain ⟨m', rfl⟩ : ∃ m', m = m' + 1 := ⟨m - 1, by omega⟩
  rw [List.getElem?_map, List.getElem?_append_right (by omega), hk, Nat.sub_self]
  simp [List.replicate_succ]
theorem mid_set {ds : List Nat} {k m : Nat} (hk : ds.length = k) (hm : 0 < m) (x : Nat) : ((ds ++ List.replicate m 0).map w32).set k (w32 x) = ((ds ++ [x]) ++ List.replicate (m - 1) 0).map w32 := by
  rw [← Mag.set_mid ds k m hk hm x, List.map_set]
theorem mid_cell2 {ds a : List Nat} {k : Nat} (hk : ds.length = k) (hka : k < a.length) : ((ds ++ a.drop k).map w32)[k]? = some (w32 a[k]) := by
  rw [List.getElem?_map, List.getElem?_append_right (by omega), hk, Nat.sub_self, List.getElem?_drop, Nat.add_zero, List.getElem?_eq_getElem hka]; rfl
theorem mid_set2 {ds a : List Nat} {k : Nat} (hk : ds.length = k) (hka : k < a.length) (x : Nat) : ((ds ++ a.drop k).map w32).set k (w32 x) = ((ds ++ [x]) ++ a.drop (k + 1)).map w32 := by
  rw [← List.map_set, List.set_append_right _ _ (by omega), hk, Nat.sub_self, List.drop_eq_getElem_cons hka, List.set_cons_zero]
  simp
theorem w32_of {x : Nat} {z : Int} (h : z = (x : Int)) : Value.int .u32 z = w32 x := by rw [h]; rfl

/-! ### A block of the call's own, known whole -/
def Own (w : World) (g : Nat) (t : TypeId) (xs : List Value) : Prop := w.heap[g]? = some (.cells xs.toArray t (0, 0))
section
variable {w w' : World} {g : Nat} {t : TypeId} {xs : List Value}
theorem Own.lt (h : Own w g t xs) : g < w.heap.size := by
  unfold Own at h
  rcases Nat.lt_or_ge g w.heap.size with h1 | h1
  · exact h1
  · rw [Array.getElem?_eq_none h1] at h; cases h
theorem Own.cell (h : Own w g t xs) (i : Nat) : w.cell? ⟨g, i, none⟩ = xs[i]? := by
  unfold Own at h
  simp [World.cell?, h]
theorem Own.frozen (h : Own w g t xs) (i : Nat) : w.frozen? ⟨g, i, none⟩ = false := by
  unfold Own at h
  simp [World.frozen?, h]
theorem Own.new (w : World) (t : TypeId) (xs : List Value) : Own (w.alloc (.cells xs.toArray t)) w.heap.size t xs := heap_alloc_new w _
theorem Own.rep (w : World) (t : TypeId) (n : Nat) (z : Value) : Own (w.alloc (.cells (Array.replicate n z) t)) w.heap.size t (List.replicate n z) := by
  have := Own.new w t (List.replicate n z)
  simpa using this
theorem Own.alloc (h : Own w g t xs) (o : Obj) : Own (w.alloc o) g t xs := (Below.heap_alloc w o g h.lt).trans h
theorem Own.drewN (h : Own w g t xs) (n : Nat) : Own (w.drewN n) g t xs := h
theorem Own.set_ (h : Own w g t xs) (i : Nat) (u : Value) : Own (w.setCell ⟨g, i, none⟩ u) g t (xs.set i u) := by
  unfold Own at h ⊢
  simp [World.setCell, Array.getElem?_modify, h]
theorem Own.far (h : Own w g t xs) {p : Addr} (hp : g ≠ p.block) (u : Value) : Own (w.setCell p u) g t xs := (Below.heap_setCell w p u g hp).trans h
theorem Own.below {B : Nat} (h : Own w g t xs) (hb : Below B w w') (hg : g < B) : Own w' g t xs := (hb.block g hg).trans h
theorem Own.on (h : Own w g t xs) (hb : Below w.heap.size w w') : Own w' g t xs := h.below hb h.lt
theorem Own.grown {row : Option Nat} (h : Own w g t xs) (hb : w.grownBy w' row) (hg : some g ≠ row) : Own w' g t xs := (hb.block g h.lt hg).trans h
theorem Own.sl (h : Own w g t xs) {B : Nat} (hB : g < B) : Sl w B (some ⟨g, 0, none⟩) xs := fun _ => ⟨g, 0, rfl, hB, fun i x hx => by rw [Nat.zero_add, h.cell, hx]⟩
end
theorem below_grown {B : Nat} {a w w' : World} {g : Nat} (h : Below B a w) (hg : w.grownBy w' (some g)) (hB : B ≤ g) (hs : B ≤ w.heap.size) : Below B a w' :=
  ⟨hg.os.trans h.os, hg.tape.trans h.tape, hg.output.trans h.output, Nat.le_trans h.size hg.size, fun k hk => (hg.block k (by omega) (fun e => by injection e; omega)).trans (h.block k hk)⟩
theorem grown_set (w : World) (g i : Nat) (u : Value) : w.grownBy (w.setCell ⟨g, i, none⟩ u) (some g) :=
  ⟨rfl, rfl, rfl, by simp [World.setCell], fun k _ hne => Below.heap_setCell w ⟨g, i, none⟩ u k (fun e => hne (by rw [e]))⟩
theorem grown_trans' {a b c : World} {row : Option Nat} (h : a.grownBy b row) (k : b.grownBy c row) : a.grownBy c row :=
  ⟨k.os.trans h.os, k.tape.trans h.tape, k.output.trans h.output, Nat.le_trans h.size k.size, fun i hi hne => (k.block i (Nat.lt_of_lt_of_le hi h.size) hne).trans (h.block i hi hne)⟩
/-- make([]T, n) of one-cell elements. -/
theorem run_make1 {P : Program} (t e : TypeId) (i : TypeInfo) (z : Value) (ht : P.underlying t = some (.slice e)) (hi : P.info? e = some i) (hz : i.zero = some z) (hs : i.size = 1) (hc : z.cells = #[z]) (hb : i.bytes ≤ 8) (n : Nat) (hn : n ≤ 1099511627776) (m : Int) (hm : m = (n : Int)) (u : World) :
    (Instr.makeSlice t (.int .i64 m) (.int .i64 m)).run P u = .ok (.slice (some ⟨u.heap.size, 0, none⟩) n n) (u.alloc (.cells (List.replicate n z).toArray e)) := by
  subst hm
  have h8 : (i.bytes : Int) * (n : Int) ≤ 281474976710656 := by
    have : i.bytes * n ≤ 8 * 1099511627776 := Nat.mul_le_mul hb hn
    omega
  have h := run_make (P := P) u t e i z ht hi hz .i64 .i64 (n : Int) (n : Int) (by omega) (Int.le_refl _) h8 (by omega)
  rw [h]
  simp only [Int.toNat_natCast, hs, Nat.mul_one, hc]
  congr 3
  refine Array.ext (by simp [madeCells]) ?_
  intro j h1 h2
  simp [madeCells, Nat.mod_one]
end Go.Proofs.YthafhbogpfggjaaGreatDoor
