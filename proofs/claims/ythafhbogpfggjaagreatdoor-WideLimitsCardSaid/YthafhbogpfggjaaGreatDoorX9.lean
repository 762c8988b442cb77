/-
  Lists of the reference's integers, and what their slots hold.
-/
import Derived.Test.YthafhbogpfggjaaGreatDoorX0
namespace Go.Proofs.YthafhbogpfggjaaGreatDoor
open Go.RowKit Mag

/-- A slot that holds an N of at most k digits. -/
def sNS (k : Nat) : Spec Bel := ⟨fun v w => ∃ x : IV, v = .agg #[.bool x.neg, .slice x.A x.n x.c] ∧ ∃ z, Sm k z ∧ NI x w z, fun ⟨x, e, z, b, h⟩ u => ⟨x, e, z, b, h.on u⟩⟩
/-- A slot that holds an Int. -/
def sW (z : Int) : Spec Bel := ⟨fun v w => ∃ x : IV, v = .agg #[.bool x.neg, .slice x.A x.n x.c] ∧ x.is w z, fun ⟨x, e, h⟩ k => ⟨x, e, h.on k⟩⟩
/-- The N number i of the block g. -/
structure NAt (w : World) (g i k : Nat) (x : IV) (z : Int) : Prop where
  sm : Sm k z
  ni : NI x w z
  c0 : w.cell? ⟨g, i * 2, none⟩ = some (.bool x.neg)
  c1 : w.cell? ⟨g, i * 2 + 1, none⟩ = some (.slice x.A x.n x.c)
  lt : g < w.heap.size
theorem NAt.on {w w' : World} {g i k : Nat} {x : IV} {z : Int} (h : NAt w g i k x z) (hb : Below w.heap.size w w') : NAt w' g i k x z :=
  ⟨h.sm, h.ni.on hb, (hb.cell (p := ⟨g, i * 2, none⟩) h.lt).trans h.c0, (hb.cell (p := ⟨g, i * 2 + 1, none⟩) h.lt).trans h.c1, Nat.lt_of_lt_of_le h.lt hb.size⟩
theorem NAt.rules {w : World} {g i k : Nat} {x : IV} {z : Int} (h : NAt w g i k x z) : (∀ u, Below w.heap.size w u → u.cell? ⟨g, i * 2, none⟩ = some (.bool x.neg)) ∧ (∀ u, Below w.heap.size w u → u.cell? ⟨g, i * 2 + 1, none⟩ = some (.slice x.A x.n x.c)) :=
  ⟨fun _ hu => (h.on hu).c0, fun _ hu => (h.on hu).c1⟩
/-- A block of n N's. -/
def NList (w : World) (g n k : Nat) : Prop := ∀ i, i < n → ∃ x z, NAt w g i k x z
theorem NList.on {w w' : World} {g n k : Nat} (h : NList w g n k) (hb : Below w.heap.size w w') : NList w' g n k := fun i hi => by
  obtain ⟨x, z, hx⟩ := h i hi
  exact ⟨x, z, hx.on hb⟩
/-- A slot that holds a slice of n N's. -/
def sNL (n k : Nat) : Spec Bel := ⟨fun v w => ∃ g, v = .slice (some ⟨g, 0, none⟩) n n ∧ NList w g n k, fun ⟨x, e, h⟩ u => ⟨x, e, h.on u⟩⟩
theorem NList.mk3 {w : World} {t : TypeId} {x y z : IV} {k : Nat} (hx : ∃ a, Sm k a ∧ NI x w a) (hy : ∃ a, Sm k a ∧ NI y w a) (hz : ∃ a, Sm k a ∧ NI z w a) :
    NList (w.alloc (.cells #[.bool x.neg, .slice x.A x.n x.c, .bool y.neg, .slice y.A y.n y.c, .bool z.neg, .slice z.A z.n z.c] t)) w.heap.size 3 k := fun i hi => by
  have hb := below_new w (.cells #[.bool x.neg, .slice x.A x.n x.c, .bool y.neg, .slice y.A y.n y.c, .bool z.neg, .slice z.A z.n z.c] t)
  have hO : Own (w.alloc (.cells #[.bool x.neg, .slice x.A x.n x.c, .bool y.neg, .slice y.A y.n y.c, .bool z.neg, .slice z.A z.n z.c] t)) w.heap.size t [.bool x.neg, .slice x.A x.n x.c, .bool y.neg, .slice y.A y.n y.c, .bool z.neg, .slice z.A z.n z.c] := Own.new w t [.bool x.neg, .slice x.A x.n x.c, .bool y.neg, .slice y.A y.n y.c, .bool z.neg, .slice z.A z.n z.c]
  match i, hi with
  | 0, _ => obtain ⟨a, s, h⟩ := hx; exact ⟨x, a, s, h.on hb, hO.cell 0, hO.cell 1, hO.lt⟩
  | 1, _ => obtain ⟨a, s, h⟩ := hy; exact ⟨y, a, s, h.on hb, hO.cell 2, hO.cell 3, hO.lt⟩
  | 2, _ => obtain ⟨a, s, h⟩ := hz; exact ⟨z, a, s, h.on hb, hO.cell 4, hO.cell 5, hO.lt⟩
theorem NList.mk2 {w : World} {t : TypeId} {x y : IV} {k : Nat} (hx : ∃ a, Sm k a ∧ NI x w a) (hy : ∃ a, Sm k a ∧ NI y w a) :
    NList (w.alloc (.cells #[.bool x.neg, .slice x.A x.n x.c, .bool y.neg, .slice y.A y.n y.c] t)) w.heap.size 2 k := fun i hi => by
  have hb := below_new w (.cells #[.bool x.neg, .slice x.A x.n x.c, .bool y.neg, .slice y.A y.n y.c] t)
  have hO : Own (w.alloc (.cells #[.bool x.neg, .slice x.A x.n x.c, .bool y.neg, .slice y.A y.n y.c] t)) w.heap.size t [.bool x.neg, .slice x.A x.n x.c, .bool y.neg, .slice y.A y.n y.c] := Own.new w t [.bool x.neg, .slice x.A x.n x.c, .bool y.neg, .slice y.A y.n y.c]
  match i, hi with
  | 0, _ => obtain ⟨a, s, h⟩ := hx; exact ⟨x, a, s, h.on hb, hO.cell 0, hO.cell 1, hO.lt⟩
  | 1, _ => obtain ⟨a, s, h⟩ := hy; exact ⟨y, a, s, h.on hb, hO.cell 2, hO.cell 3, hO.lt⟩
/-- An N of at most k digits is returned. -/
def RetNS (w : World) (k : Nat) (e : Ending) (w' : World) : Prop := ∃ x : IV, e = .returned (.agg #[.bool x.neg, .slice x.A x.n x.c]) ∧ Below w.heap.size w w' ∧ ∃ z, Sm k z ∧ NI x w' z
theorem RetN.ns {w w' : World} {k : Nat} {z : Int} {e : Ending} (h : RetN w z e w') (b : Sm k z) : RetNS w k e w' := by
  obtain ⟨x, h1, h2, h3⟩ := h
  exact ⟨x, h1, h2, z, b, h3⟩
theorem Number_ns {w : World} {A : Option Addr} {l : List Int} {c : Nat} (h : IntsIs w A l c) (at_ : Nat) (hat : at_ ≤ 100) (i : Int) (hi : i = (at_ : Int)) {k : Nat} (hk : 18 ≤ k) :
    Calls Tryz.prog 29 #[.slice A l.length c, .int .i64 i] w (RetNS w k) :=
  (Number_sm h at_ hat i hi).mono fun _ _ ⟨_, b, h⟩ => h.ns (b.mono hk)
theorem neg_w {x : IV} {w : World} {a : Int} (hx : x.is w a) : Calls Tryz.prog 56 #[.agg #[.bool x.neg, .slice x.A x.n x.c]] w (IntP w (-a)) := neg_iv hx
theorem NI.len0 {x : IV} {w : World} {z : Int} (h : NI x w z) : (x.n = 0 ↔ z = 0) := by
  have h1 := (h.nd rfl).len_pos
  simp only at h1
  omega
theorem Sl.keeps64 {w w' : World} {A : Option Addr} {l : List Nat} (h : Sl w w.heap.size A (l.map d64)) (hk : Keeps w w') : Sl w' w'.heap.size A (l.map d64) := fun hn => by
  obtain ⟨g, off, e, hg, hc⟩ := h hn
  refine ⟨g, off, e, Nat.lt_of_lt_of_le hg hk.size, fun i x hx => hk.cell _ _ (hc i x hx) ?_⟩
  obtain ⟨y, _, rfl⟩ := List.mem_map.1 (List.mem_of_getElem? hx)
  exact ⟨(y : Int), .inr (.inr rfl)⟩
theorem NI.keeps {x : IV} {w w' : World} {z : Int} (h : NI x w z) (hk : Keeps w w') : NI x w' z := by
  obtain ⟨l, h1, h2, h3, h4⟩ := h
  exact ⟨l, h1, h2, ⟨h3.sl.keeps64 hk, h3.ws, h3.cap, h3.mx⟩, h4⟩
end Go.Proofs.YthafhbogpfggjaaGreatDoor
