/-
  Package query: rows of regions: one, many, read; the contracts of region, item, list.
-/
import Derived.Test.YtmlpibdincfgbaaDoorK11
namespace Go.Proofs.YtmlpibdincfgbaaDoor
open Go.RowKit

theorem own_news {w : World} {g : Nat} {t : TypeId} {xs : List Value} (h : Own w g t xs) : ∀ j u, xs[j]? = some u → w.cell? ((⟨g, 0, none⟩ : Addr).add j) = some u := by
  intro j u hu
  have hadd : (⟨g, 0, none⟩ : Addr).add j = ⟨g, j, none⟩ := by unfold Addr.add; split <;> simp_all
  rw [hadd, h.cell, hu]
/-- A row of one region, in the newest block. -/
theorem KRow.one {T : TypeId} {N : Nat → Prop} {w : World} {R : Qy.Reg} {A : Option Addr} {c : Nat} (h : RegAt w N (regCells R A c) R) (hN : N w.heap.size) :
    KRow T N (w.alloc (.cells (regCells R A c).toArray T)) (.slice (some ⟨w.heap.size, 0, none⟩) 1 1) [R] := by
  have hl := regCells_len R A c
  refine ⟨[regCells R A c], rfl, ⟨by simp [hl], .inr ⟨w.heap.size, 1, (regCells R A c).toArray, rfl, Nat.zero_le _, heap_alloc_new w _, Nat.le_refl _, by unfold maxLen; omega, by simp [hl], ?_⟩⟩, fun g hg => (by cases hg; exact hN), fun j cs R' hj hR => ?_⟩
  · simp only [List.flatten_cons, List.flatten_nil, List.append_nil]
    exact List.take_of_length_le (by simp [hl])
  · match j with
    | 0 =>
      simp only [List.getElem?_cons_zero, Option.some.injEq] at hj hR
      subst hj
      subst hR
      have hb : Below w.heap.size w (w.alloc (.cells (regCells R A c).toArray T)) := below_new w _
      exact ⟨hl, RegAt.keep hb.size (fun g hg hl => ⟨⟨hg, fun e => by cases e; exact absurd hl (Nat.lt_irrefl _)⟩, hb.block g hl⟩) _ _ h⟩
    | j + 1 => simp at hj
theorem flatten_at : ∀ (css : List (List Value)) (j i : Nat) (cs : List Value), (∀ c ∈ css, c.length = 9) → css[j]? = some cs → i < 9 → css.flatten[j * 9 + i]? = cs[i]?
  | [], j, i, cs, _, h, _ => by simp at h
  | c :: css, 0, i, cs, hl, h, hi => by
    simp only [List.getElem?_cons_zero, Option.some.injEq] at h
    subst h
    rw [List.flatten_cons, List.getElem?_append_left (by have := hl c (by simp); omega)]
    simp
  | c :: css, j + 1, i, cs, hl, h, hi => by
    have h9 := hl c (by simp)
    rw [List.flatten_cons, List.getElem?_append_right (by omega), h9, show (j + 1) * 9 + i - 9 = j * 9 + i by omega]
    exact flatten_at css j i cs (fun x hx => hl x (List.mem_cons_of_mem _ hx)) (by simpa using h) hi
theorem kids_of {w : World} {S : Nat → Prop} {g : Nat} (hS : S g) (hg : g < w.heap.size) : ∀ (l : List Qy.Reg) (css : List (List Value)) (i : Nat), css.length = l.length →
    (∀ (j k : Nat) (cs : List Value) (v : Value), css[j]? = some cs → cs[k]? = some v → w.cell? ⟨g, (i + j) * 9 + k, none⟩ = some v) → (∀ (j : Nat) (cs : List Value) (R : Qy.Reg), css[j]? = some cs → l[j]? = some R → RegAt w S cs R) → KidsAt w S (some ⟨g, 0, none⟩) i l
  | [], _, i, _, _, _ => by rw [KidsAt]; trivial
  | R :: l, [], i, hl, _, _ => by simp at hl
  | R :: l, cs :: css, i, hl, hc, hr => by
    rw [KidsAt]
    refine ⟨⟨g, 0, cs, rfl, hS, hg, fun j v hj => ?_, hr 0 cs R rfl rfl⟩, kids_of hS hg l css (i + 1) (by simpa using hl) (fun j k cs' v hj hv => ?_) fun j cs' R' hj hR => hr (j + 1) cs' R' (by simpa using hj) (by simpa using hR)⟩
    · have := hc 0 j cs v rfl hj
      rwa [Nat.add_zero, ← Nat.zero_add (i * 9)] at this
    · have := hc (j + 1) k cs' v (by simpa using hj) hv
      rwa [show i + (j + 1) = i + 1 + j by omega] at this
/-- A list of regions is returned. -/
def listV (w0 : World) (l : List Qy.Reg) (v : Value) (w : World) : Prop := ∃ A c, v = .slice A l.length c ∧ KidsAt w (New w0) A 0 l
theorem listV.at1 {w0 w w' : World} {r : Nat} {v : Value} {l : List Qy.Reg} (h : listV w0 l v w) (k : At1 r w w') (hr : r < w0.heap.size) : listV w0 l v w' := by
  obtain ⟨A, c, h1, h2⟩ := h
  exact ⟨A, c, h1, KidsAt.keep k.size (fun g hg hl => ⟨hg, k.heap hl (fun e => by unfold New at hg; omega)⟩) A 0 l h2⟩
theorem KRow.listV {T : TypeId} {N : Nat → Prop} {w0 w : World} {v : Value} {l : List Qy.Reg} (h : KRow T N w v l) (hN : ∀ g, N g → New w0 g) : listV w0 l v w := by
  obtain ⟨css, h1, h2, h3, h4⟩ := h
  rcases h2.2 with ⟨rfl, h0⟩ | ⟨g, cap, cur, rfl, hb, hg, hnc, hcm, hcs, htake⟩
  · have : l = [] := List.eq_nil_of_length_eq_zero h0
    subst this
    exact ⟨none, 0, rfl, by rw [KidsAt]; trivial⟩
  · have hall : ∀ c ∈ css, c.length = 9 := fun c hc => by
      obtain ⟨j, hj⟩ := List.mem_iff_getElem?.1 hc
      have hjl : j < l.length := by rw [← h1]; exact (List.getElem?_eq_some_iff.1 hj).1
      exact (h4 j c l[j] hj (List.getElem?_eq_getElem hjl)).1
    refine ⟨some ⟨g, 0, none⟩, cap, rfl, kids_of (hN g (h3 g rfl)) (heap_lt hg) l css 0 h1 (fun j k cs v hj hv => ?_) fun j cs R hj hR => RegAt.keep (Nat.le_refl _) (fun g hg _ => ⟨hN g hg.1, rfl⟩) cs R (h4 j cs R hj hR).2⟩
    have hjl : j < l.length := by rw [← h1]; exact (List.getElem?_eq_some_iff.1 hj).1
    have hk : k < 9 := by
      have := (List.getElem?_eq_some_iff.1 hv).1
      rw [hall cs (List.mem_of_getElem? hj)] at this
      exact this
    rw [Nat.zero_add]
    have e := flatten_at css j k cs hall hj hk
    rw [hv, ← htake, List.getElem?_take_of_lt (by omega)] at e
    simpa [World.cell?, hg] using e
theorem KRow.own {T : TypeId} {N : Nat → Prop} {w : World} {v : Value} {l : List Qy.Reg} (h : KRow T N w v l) : ∀ k, v.ownBlock = some k → N k ∧ k < w.heap.size := by
  obtain ⟨css, h1, h2, h3, h4⟩ := h
  exact fun k hk => ⟨h3 k hk, (h2.lt k hk).2⟩
/-- How many tokens the reader has ahead. -/
def restLen (r : Nat) (w : World) : Nat := match w.cell? ⟨r, 2, none⟩ with
  | some (.slice _ n _) => n
  | _ => 0
theorem RdAt.len {B r : Nat} {l : List Qy.Tok} {w : World} (h : RdAt B r l w) : restLen r w + 1 = l.length := by
  obtain ⟨_, _, t, rest, A, c, rfl, hO, _⟩ := h
  unfold restLen
  rw [hO.c2]
  rfl
theorem At1.row {w0 w w' : World} {r : Nat} {v : Value} (h : At1 r w0 w) (k : w.grownBy w' v.ownBlock) (hv : ∀ g, v.ownBlock = some g → w0.heap.size ≤ g) : At1 r w0 w' :=
  ⟨k.os.trans h.os, k.tape.trans h.tape, k.output.trans h.output, Nat.le_trans h.size k.size, fun j hj hr => (k.block j (Nat.lt_of_lt_of_le hj h.size) (fun e => by have := hv j e.symm; omega)).trans (h.block j hj hr)⟩
theorem RdAt.row {B r : Nat} {l : List Qy.Tok} {w w' : World} {v : Value} (h : RdAt B r l w) (k : w.grownBy w' v.ownBlock) (hv : ∀ g, v.ownBlock = some g → B ≤ g) : RdAt B r l w' :=
  h.keep k.size fun g hg => k.block g (by have := h.2.1; omega) (fun e => by have := hv g e.symm; omega)
/-- A block that is new since w0 is written. -/
theorem At1.at_ {w0 w w' : World} {r g : Nat} (h : At1 r w0 w) (k : At1 g w w') (hg : w0.heap.size ≤ g) : At1 r w0 w' :=
  ⟨k.os.trans h.os, k.tape.trans h.tape, k.output.trans h.output, Nat.le_trans h.size k.size, fun j hj hr => (k.heap (Nat.lt_of_lt_of_le hj h.size) (fun e => by omega)).trans (h.block j hj hr)⟩
theorem RdAt.at_ {B r g : Nat} {l : List Qy.Tok} {w w' : World} (h : RdAt B r l w) (k : At1 g w w') (hg : B ≤ g) : RdAt B r l w' :=
  h.keep k.size fun j hj => k.heap (by have := h.2.1; omega) (by omega)
section
variable {w : World} {g : Nat} {t : TypeId} {z0 z1 z2 z3 z4 z5 z6 z7 z8 : Value}
theorem Own.all9 (h : Own w g t [z0, z1, z2, z3, z4, z5, z6, z7, z8]) : (w.cell? ⟨g, 0, none⟩ = some z0 ∧ w.cell? ⟨g, 1, none⟩ = some z1 ∧ w.cell? ⟨g, 2, none⟩ = some z2 ∧ w.cell? ⟨g, 3, none⟩ = some z3 ∧ w.cell? ⟨g, 4, none⟩ = some z4 ∧ w.cell? ⟨g, 5, none⟩ = some z5 ∧ w.cell? ⟨g, 6, none⟩ = some z6 ∧ w.cell? ⟨g, 7, none⟩ = some z7 ∧ w.cell? ⟨g, 8, none⟩ = some z8) ∧
    (w.frozen? ⟨g, 0, none⟩ = false ∧ w.frozen? ⟨g, 1, none⟩ = false ∧ w.frozen? ⟨g, 2, none⟩ = false ∧ w.frozen? ⟨g, 3, none⟩ = false ∧ w.frozen? ⟨g, 4, none⟩ = false ∧ w.frozen? ⟨g, 5, none⟩ = false ∧ w.frozen? ⟨g, 6, none⟩ = false ∧ w.frozen? ⟨g, 7, none⟩ = false ∧ w.frozen? ⟨g, 8, none⟩ = false) :=
  ⟨⟨h.cell 0, h.cell 1, h.cell 2, h.cell 3, h.cell 4, h.cell 5, h.cell 6, h.cell 7, h.cell 8⟩, h.frozen 0, h.frozen 1, h.frozen 2, h.frozen 3, h.frozen 4, h.frozen 5, h.frozen 6, h.frozen 7, h.frozen 8⟩
theorem Own.new9 (w : World) (t : TypeId) (z0 z1 z2 z3 z4 z5 z6 z7 z8 : Value) : Own (w.alloc (.cells #[z0, z1, z2, z3, z4, z5, z6, z7, z8] t)) w.heap.size t [z0, z1, z2, z3, z4, z5, z6, z7, z8] := Own.new w t [z0, z1, z2, z3, z4, z5, z6, z7, z8]
/-- All nine cells are stored. -/
theorem Own.put9 {x0 x1 x2 x3 x4 x5 x6 x7 x8 : Value} (h : Own w g t [z0, z1, z2, z3, z4, z5, z6, z7, z8]) : Own (((((((((w.setCell ⟨g, 0, none⟩ x0).setCell ⟨g, 1, none⟩ x1).setCell ⟨g, 2, none⟩ x2).setCell ⟨g, 3, none⟩ x3).setCell ⟨g, 4, none⟩ x4).setCell ⟨g, 5, none⟩ x5).setCell ⟨g, 6, none⟩ x6).setCell ⟨g, 7, none⟩ x7).setCell ⟨g, 8, none⟩ x8) g t [x0, x1, x2, x3, x4, x5, x6, x7, x8] ∧ At1 g w (((((((((w.setCell ⟨g, 0, none⟩ x0).setCell ⟨g, 1, none⟩ x1).setCell ⟨g, 2, none⟩ x2).setCell ⟨g, 3, none⟩ x3).setCell ⟨g, 4, none⟩ x4).setCell ⟨g, 5, none⟩ x5).setCell ⟨g, 6, none⟩ x6).setCell ⟨g, 7, none⟩ x7).setCell ⟨g, 8, none⟩ x8) :=
  ⟨((((((((h.set_ 0 x0).set_ 1 x1).set_ 2 x2).set_ 3 x3).set_ 4 x4).set_ 5 x5).set_ 6 x6).set_ 7 x7).set_ 8 x8,
   ((((((((At1.set_ w (p := ⟨g, 0, none⟩) rfl x0).trans (At1.set_ _ (p := ⟨g, 1, none⟩) rfl x1)).trans (At1.set_ _ (p := ⟨g, 2, none⟩) rfl x2)).trans (At1.set_ _ (p := ⟨g, 3, none⟩) rfl x3)).trans (At1.set_ _ (p := ⟨g, 4, none⟩) rfl x4)).trans (At1.set_ _ (p := ⟨g, 5, none⟩) rfl x5)).trans (At1.set_ _ (p := ⟨g, 6, none⟩) rfl x6)).trans (At1.set_ _ (p := ⟨g, 7, none⟩) rfl x7)).trans (At1.set_ _ (p := ⟨g, 8, none⟩) rfl x8)⟩
theorem wp_put9 {P : Program} {Q : Exit → Act → World → Prop} {a : Act} {c : Code} {x0 x1 x2 x3 x4 x5 x6 x7 x8 : Value} (h : Own w g t [z0, z1, z2, z3, z4, z5, z6, z7, z8]) (k : ∀ W, Own W g t [x0, x1, x2, x3, x4, x5, x6, x7, x8] → At1 g w W → c.wp P Q a W) : c.wp P Q a (((((((((w.setCell ⟨g, 0, none⟩ x0).setCell ⟨g, 1, none⟩ x1).setCell ⟨g, 2, none⟩ x2).setCell ⟨g, 3, none⟩ x3).setCell ⟨g, 4, none⟩ x4).setCell ⟨g, 5, none⟩ x5).setCell ⟨g, 6, none⟩ x6).setCell ⟨g, 7, none⟩ x7).setCell ⟨g, 8, none⟩ x8) :=
  k _ h.put9.1 h.put9.2
end
theorem reg_info : (Tryd.prog.info? 32).map (fun i => (i.zero, i.size, i.bytes)) = some (some (.agg #[.int .i64 0, .string ⟨#[]⟩, .int .i64 0, .int .i64 0, .int .i64 0, .int .i64 0, .int .i64 0, .int .i64 0, .slice none 0 0]), 9, 96) := by kernel_rfl
/-- Nine cells, by name. -/
theorem regCells_lit (R : Qy.Reg) (A : Option Addr) (c : Nat) : ∃ x0 x1 x2 x3 x4 x5 x6 x7 x8, regCells R A c = [x0, x1, x2, x3, x4, x5, x6, x7, x8] ∧ ∀ u ∈ [x0, x1, x2, x3, x4, x5, x6, x7, x8], u.oneCell' = true := by
  obtain ⟨k, nm, ax, ay, b0, b1, b2, b3, kids⟩ := R
  exact ⟨_, _, _, _, _, _, _, _, _, rfl, by simp [Value.oneCell']⟩
/-- A region comes back from a call: its cells; a row of it alone. -/
theorem regV.open_ {w0 w : World} {R : Qy.Reg} {v : Value} (h : regV w0 R v w) : ∃ x0 x1 x2 x3 x4 x5 x6 x7 x8, v = .agg #[x0, x1, x2, x3, x4, x5, x6, x7, x8] ∧ (∀ u ∈ [x0, x1, x2, x3, x4, x5, x6, x7, x8], u.oneCell' = true) ∧ RegAt w (New w0) [x0, x1, x2, x3, x4, x5, x6, x7, x8] R ∧
    ∀ (T : TypeId) (N : Nat → Prop), (∀ g, New w0 g → N g) → N w.heap.size → KRow T N (w.alloc (.cells #[x0, x1, x2, x3, x4, x5, x6, x7, x8] T)) (.slice (some ⟨w.heap.size, 0, none⟩) 1 1) [R] := by
  obtain ⟨cs, rfl, hR⟩ := h
  obtain ⟨A, c, rfl, _⟩ := hR.cells
  obtain ⟨x0, x1, x2, x3, x4, x5, x6, x7, x8, e, h1⟩ := regCells_lit R A c
  refine ⟨x0, x1, x2, x3, x4, x5, x6, x7, x8, by rw [e], h1, e ▸ hR, fun T N hN hz => ?_⟩
  have := KRow.one (T := T) (RegAt.keep (Nat.le_refl _) (fun g hg _ => ⟨hN g hg, rfl⟩) _ _ hR) hz
  rw [e] at this
  exact this
theorem regCells_parts (R : Qy.Reg) (A : Option Addr) (c : Nat) : ∃ n0 s1 n2 n3 n4 n5 n6 n7 l8, regCells R A c = [.int .i64 n0, .string s1, .int .i64 n2, .int .i64 n3, .int .i64 n4, .int .i64 n5, .int .i64 n6, .int .i64 n7, .slice A l8 c] := by
  obtain ⟨k, nm, ax, ay, b0, b1, b2, b3, kids⟩ := R
  exact ⟨_, _, _, _, _, _, _, _, _, rfl⟩
/-- The same, the cells' kinds known. -/
theorem regV.lit {w0 w : World} {R : Qy.Reg} {v : Value} (h : regV w0 R v w) : ∃ n0 s1 n2 n3 n4 n5 n6 n7 A8 l8 c8, v = .agg #[.int .i64 n0, .string s1, .int .i64 n2, .int .i64 n3, .int .i64 n4, .int .i64 n5, .int .i64 n6, .int .i64 n7, .slice A8 l8 c8] ∧
    RegAt w (New w0) [.int .i64 n0, .string s1, .int .i64 n2, .int .i64 n3, .int .i64 n4, .int .i64 n5, .int .i64 n6, .int .i64 n7, .slice A8 l8 c8] R ∧ ∀ (T : TypeId) (w' : World) (N : Nat → Prop), RegAt w' N [.int .i64 n0, .string s1, .int .i64 n2, .int .i64 n3, .int .i64 n4, .int .i64 n5, .int .i64 n6, .int .i64 n7, .slice A8 l8 c8] R → N w'.heap.size →
      KRow T N (w'.alloc (.cells #[.int .i64 n0, .string s1, .int .i64 n2, .int .i64 n3, .int .i64 n4, .int .i64 n5, .int .i64 n6, .int .i64 n7, .slice A8 l8 c8] T)) (.slice (some ⟨w'.heap.size, 0, none⟩) 1 1) [R] := by
  obtain ⟨cs, rfl, hR⟩ := h
  obtain ⟨A, c, rfl, _⟩ := hR.cells
  obtain ⟨n0, s1, n2, n3, n4, n5, n6, n7, l8, e⟩ := regCells_parts R A c
  refine ⟨n0, s1, n2, n3, n4, n5, n6, n7, A, l8, c, by rw [e], e ▸ hR, fun T w' N hR' hz => ?_⟩
  have := KRow.one (T := T) (A := A) (c := c) (by rw [e]; exact hR') hz
  rw [e] at this
  exact this
/-- The contracts, with f as fuel. -/
def RegW (B r f : Nat) : Prop := ∀ l w, RdAt B r l w → Qy.Good l → 3 * l.length + 2 ≤ f → l.length ≤ 5000 → Calls Tryd.prog 54 #[.pointer (some ⟨r, 0, none⟩)] w (Ends B r w (Qy.pReg f l) (regV w))
def ListW (B r f : Nat) : Prop := ∀ l w, RdAt B r l w → Qy.Good l → 3 * l.length + 1 ≤ f → l.length ≤ 5000 → Calls Tryd.prog 95 #[.pointer (some ⟨r, 0, none⟩)] w (Ends B r w (Qy.pList f l) (listV w))
def ItemW (B r f : Nat) : Prop := ∀ l w, RdAt B r l w → Qy.Good l → 3 * l.length + 1 ≤ f → l.length ≤ 5000 → Calls Tryd.prog 80 #[.pointer (some ⟨r, 0, none⟩)] w (Ends B r w (Qy.pItem f l) (regV w))
end Go.Proofs.YtmlpibdincfgbaaDoor
