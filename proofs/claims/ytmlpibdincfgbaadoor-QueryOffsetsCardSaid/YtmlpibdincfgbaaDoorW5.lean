/-
  Contracts of package wide: carrier, sum.
-/
import Derived.Test.YtmlpibdincfgbaaDoorT1
namespace Go.Proofs.YtmlpibdincfgbaaDoor
open Go.RowKit Mag


def CarryPost (w : World) (g : Nat) (s : Int) (e : Ending) (w' : World) : Prop :=
  e = .returned (.int .u32 (s % 4294967296)) ∧ Own w' g 155 [.int .u64 (s / 4294967296)] ∧ w.grownBy w' (some g)
theorem u32_info : (Tryd.prog.info? 175).map (fun i => (i.zero, i.size, i.bytes)) = some (some (.int .u32 0), 1, 4) := by kernel_rfl
def SumPost (w : World) (a b : List Nat) (e : Ending) (w' : World) : Prop :=
  ∃ g ds, e = .returned (.slice (some ⟨g, 0, none⟩) ds.length ds.length) ∧ Own w' g 175 (ds.map w32) ∧ Ws ds ∧ Hid (val ds = val a + val b) ∧ ds.length ≤ max a.length b.length + 1 ∧ Below w.heap.size w w' ∧ w.heap.size ≤ g

/-- The state at a round's head. -/
structure SumSt (w : World) (B go gc n : Nat) (a b : List Nat) (k : Nat) (ds : List Nat) (cy : Nat) (wr : World) : Prop where
  len : ds.length = k
  ws : Ws ds
  cy1 : cy ≤ 1
  eq : val ds + cy * 4294967296 ^ k = val (a.take k) + val (b.take k)
  out : Own wr go 175 ((ds ++ List.replicate (n - k) 0).map w32)
  car : Own wr gc 155 [.int .u64 (cy : Nat)]
  bel : Below B w wr
theorem SumSt.cell {w : World} {B go gc n : Nat} {a b : List Nat} {k : Nat} {ds : List Nat} {cy : Nat} {wr w1 : World} (h : SumSt w B go gc n a b k ds cy wr) (hk : k < n) (hne : go ≠ gc) (hg : wr.grownBy w1 (some gc)) :
    w1.cell? ⟨go, k, none⟩ = some (w32 0) ∧ w1.frozen? ⟨go, k, none⟩ = false := by
  have hO := h.out.grown hg (by intro e; injection e; omega)
  exact ⟨by rw [hO.cell, mid_cell h.len (by omega)], hO.frozen k⟩
theorem SumSt.step {w : World} {B go gc n : Nat} {a b : List Nat} {k : Nat} {ds : List Nat} {cy : Nat} {wr w1 : World} (h : SumSt w B go gc n a b k ds cy wr) (hk : k < n) (hne : go ≠ gc) (hwa : Ws a) (hwb : Ws b)
    {s : Int} (hs : s = ((cy + (a.getD k 0 + b.getD k 0) : Nat) : Int)) (hc : Own w1 gc 155 [.int .u64 (s / 4294967296)]) (hg : wr.grownBy w1 (some gc)) (hB : B ≤ go) (hB' : B ≤ gc) (hBw : B ≤ w.heap.size) :
    SumSt w B go gc n a b (k + 1) (ds ++ [(cy + (a.getD k 0 + b.getD k 0)) % 4294967296]) ((cy + (a.getD k 0 + b.getD k 0)) / 4294967296) (w1.setCell ⟨go, k, none⟩ (.int .u32 (s % 4294967296))) := by
  subst hs
  have hO := h.out.grown hg (by intro e; injection e; omega)
  have hst := sum_step (i := k) (c := cy) hwa hwb h.len h.cy1 h.eq
  refine ⟨by simp [h.len], h.ws.append (Ws.cons (by omega) Ws.nil), hst.1, hst.2, ?_, ?_, (below_grown h.bel hg hB' (by have := h.bel.size; omega)).setCell hB _⟩
  · have := hO.set_ k (w32 ((cy + (a.getD k 0 + b.getD k 0)) % 4294967296))
    rw [mid_set h.len (by omega)] at this
    rw [show n - (k + 1) = n - k - 1 by omega]
    exact this
  · exact Own.far (p := ⟨go, k, none⟩) hc (fun e => hne e.symm) _

theorem SumPost.comm {w w' : World} {a b : List Nat} {e : Ending} (h : SumPost w a b e w') : SumPost w b a e w' := by
  obtain ⟨g, ds, h1, h2, h3, h4, h5, h6⟩ := h
  exact ⟨g, ds, h1, h2, h3, Lib.hid (h4.out.trans (Nat.add_comm _ _)), by omega, h6⟩
end Go.Proofs.YtmlpibdincfgbaaDoor

/-
  (second part)
-/
namespace Go.Proofs.YtmlpibdincfgbaaDoor
open Go.RowKit Mag

structure SubSt (w : World) (g : Nat) (a b : List Nat) (k : Nat) (ds : List Nat) (cy : Nat) (wr : World) : Prop where
  len : ds.length = k
  ws : Ws ds
  cy1 : cy ≤ 1
  eq : val ds + val (b.take k) = val (a.take k) + cy * 4294967296 ^ k
  out : Own wr g 175 ((ds ++ a.drop k).map w32)
  grw : w.grownBy wr (some g)
theorem SubSt.step {w : World} {g : Nat} {a b : List Nat} {k : Nat} {ds : List Nat} {cy : Nat} {wr : World} (h : SubSt w g a b k ds cy wr) (hk : k < a.length)
    {s : Int} {d c' : Nat} (hs : s = (d : Int)) (hd : d < 4294967296) (hc : c' ≤ 1) (he : d + (cy + b.getD k 0) = a.getD k 0 + c' * 4294967296) :
    SubSt w g a b (k + 1) (ds ++ [d]) c' (wr.setCell ⟨g, k, none⟩ (.int .u32 s)) := by
  subst hs
  refine ⟨by simp [h.len], h.ws.append (Ws.cons hd Ws.nil), hc, sub_step h.len h.eq he, ?_, grown_trans' h.grw (grown_set _ _ _ _)⟩
  have := h.out.set_ k (w32 d)
  rw [mid_set2 h.len hk] at this
  exact this
def SubPost (w : World) (g : Nat) (a b : List Nat) (e : Ending) (w' : World) : Prop :=
  ∃ ds r, e = .returned (.int .u32 r) ∧ Own w' g 175 (ds.map w32) ∧ Ws ds ∧ val ds = val a - val b ∧ ds.length = a.length ∧ w.grownBy w' (some g)

theorem addr_add (g o j : Nat) : (⟨g, o, none⟩ : Addr).add j = ⟨g, o + j, none⟩ := by
  unfold Addr.add
  split
  · subst_vars; rfl
  · rfl
theorem u32_size : (Tryd.prog.info? 175).map (·.size) = some 1 := by kernel_rfl
theorem w32_one (l : List Nat) : ∀ v ∈ l.map w32, v.oneCell' = true := by
  intro v hv
  obtain ⟨x, _, rfl⟩ := List.mem_map.1 hv
  rfl
theorem Sl.copies {w w' : World} {B : Nat} {A : Option Addr} {xs : List Value} (h : Sl w B A xs) (hk : ∀ p : Addr, p.block < B → w'.cell? p = w.cell? p) (h0 : 0 < xs.length) :
    ∃ ad, A = some ad ∧ ∀ (j : Nat) (v : Value), xs[j]? = some v → w'.cell? (ad.add j) = some v := by
  obtain ⟨g, off, rfl, hg, hc⟩ := h (by intro e; subst e; simp at h0)
  exact ⟨_, rfl, fun j v hj => by rw [addr_add]; exact (hk _ hg).trans (hc j v hj)⟩
theorem splice_all {α : Type} (L cs : List α) (h : L.length = cs.length) : splice L 0 cs = cs := by
  unfold splice
  rw [List.take_zero, List.nil_append, Nat.zero_add, ← h, List.drop_length, List.append_nil]

def DiffPost (w : World) (a b : List Nat) (e : Ending) (w' : World) : Prop :=
  ∃ g ds, e = .returned (.slice (some ⟨g, 0, none⟩) ds.length ds.length) ∧ Own w' g 175 (ds.map w32) ∧ Ws ds ∧ Hid (val ds = val a - val b) ∧ ds.length ≤ a.length ∧ Below w.heap.size w w' ∧ w.heap.size ≤ g

end Go.Proofs.YtmlpibdincfgbaaDoor

/-
  (second part)
-/
namespace Go.Proofs.YtmlpibdincfgbaaDoor
open Go.RowKit Mag

/-- The error, and the value, of a result that is in range or not. -/
def lim (z : Int) : Int := if z.natAbs < top then 0 else 4
def clip (z : Int) : Int := if z.natAbs < top then z else 0
theorem lim_in {z : Int} (h : z.natAbs < top) : lim z = 0 := by unfold lim; rw [if_pos h]
theorem clip_in {z : Int} (h : z.natAbs < top) : clip z = z := by unfold clip; rw [if_pos h]
theorem lim_out {z : Int} (h : ¬ z.natAbs < top) : lim z = 4 := by unfold lim; rw [if_neg h]
theorem clip_out {z : Int} (h : ¬ z.natAbs < top) : clip z = 0 := by unfold clip; rw [if_neg h]

theorem sgn_add (neg : Bool) (x y : Nat) : sgn neg x + sgn neg y = sgn neg (x + y) := by unfold sgn; cases neg <;> simp <;> omega

theorem Below.of_drew {w w' : World} (h : Below w.drew.heap.size w.drew w') : Below w.heap.size w w' := ⟨h.os, h.tape, h.output, h.size, h.block⟩
/-- A store into a cell that holds no word leaves every magnitude as it was. -/
theorem Sl.put {w : World} {B : Nat} {A : Option Addr} {l : List Nat} (h : Sl w B A (l.map w32)) {p : Addr} {v : Value} (hp : w.cell? p = some v) (hv : ∀ n, v ≠ .int .u32 n) (u : Value) : Sl (w.setCell p u) B A (l.map w32) := by
  intro hn
  obtain ⟨g, off, rfl, hg, hc⟩ := h hn
  refine ⟨g, off, rfl, hg, fun i x hx => ?_⟩
  have h1 := hc i x hx
  rw [World.cell?_setCell_other _ _ _ _ ?_]
  · exact h1
  · intro e
    have h2 : w.cell? ⟨g, off + i, none⟩ = some v := by rw [← hp, e]
    rw [h2] at h1
    rw [List.getElem?_map] at hx
    cases hl : l[i]? with
    | none => rw [hl] at hx; cases hx
    | some y =>
      rw [hl] at hx
      injection hx with hx
      injection h1 with h1
      exact hv y (h1.trans hx.symm)
theorem WI.put {w : World} {neg : Bool} {A : Option Addr} {n c : Nat} {z : Int} (h : WI w neg A n c z) {p : Addr} {v : Value} (hp : w.cell? p = some v) (hv : ∀ n, v ≠ .int .u32 n) (u : Value) : WI (w.setCell p u) neg A n c z := by
  obtain ⟨l, h1, h2, h3, h4⟩ := h
  refine ⟨l, h1, h2, ⟨?_, h3.ws, h3.nz, h3.cap, h3.mx⟩, h4⟩
  have := h3.sl.put hp hv u
  simpa [World.setCell] using this
/-- Three structs of two cells, laid one behind the other. -/
structure Box3 (w W : World) (x0 x1 y0 y1 z0 z1 : Value) : Prop where
  x0 : W.cell? ⟨w.heap.size, 0, none⟩ = some x0
  x1 : W.cell? ⟨w.heap.size, 1, none⟩ = some x1
  y0 : W.cell? ⟨w.heap.size + 1, 0, none⟩ = some y0
  y1 : W.cell? ⟨w.heap.size + 1, 1, none⟩ = some y1
  z0 : W.cell? ⟨w.heap.size + 1 + 1, 0, none⟩ = some z0
  z1 : W.cell? ⟨w.heap.size + 1 + 1, 1, none⟩ = some z1
  fx : ∀ o, W.frozen? ⟨w.heap.size, o, none⟩ = false
  fy : ∀ o, W.frozen? ⟨w.heap.size + 1, o, none⟩ = false
  fz : ∀ o, W.frozen? ⟨w.heap.size + 1 + 1, o, none⟩ = false
  bel : Below w.heap.size w W
  sz : w.heap.size + 2 < W.heap.size
theorem Box3.mk_ (w : World) (x0 x1 y0 y1 z0 z1 : Value) (t u v : TypeId) : Box3 w (((w.alloc (.cells #[x0, x1] t)).alloc (.cells #[y0, y1] u)).alloc (.cells #[z0, z1] v)) x0 x1 y0 y1 z0 z1 := by
  refine ⟨?_, ?_, ?_, ?_, ?_, ?_, ?_, ?_, ?_, by go_grown, by simp⟩
  all_goals simp [go_sem]
theorem Box3.on {w W W' : World} {x0 x1 y0 y1 z0 z1 : Value} (h : Box3 w W x0 x1 y0 y1 z0 z1) (hb : Below W.heap.size W W') : Box3 w W' x0 x1 y0 y1 z0 z1 := by
  obtain ⟨hc, hf⟩ := bcell hb
  have h1 := h.sz
  have h2 := hb.size
  exact ⟨(hc _ _ (by omega)).trans h.x0, (hc _ _ (by omega)).trans h.x1, (hc _ _ (by omega)).trans h.y0, (hc _ _ (by omega)).trans h.y1, (hc _ _ (by omega)).trans h.z0, (hc _ _ (by omega)).trans h.z1,
    fun o => (hf _ _ (by omega)).trans (h.fx o), fun o => (hf _ _ (by omega)).trans (h.fy o), fun o => (hf _ _ (by omega)).trans (h.fz o), h.bel.trans (hb.mono (by omega)), by omega⟩

theorem Box3.put {w W : World} {x0 x1 y0 y1 z0 z1 : Value} (h : Box3 w W x0 x1 y0 y1 z0 z1) (u v : Value) : Box3 w ((W.setCell ⟨w.heap.size + 1 + 1, 0, none⟩ u).setCell ⟨w.heap.size + 1 + 1, 1, none⟩ v) x0 x1 y0 y1 u v := by
  have h0 := h.sz
  have e0 := h.z0
  have e1 := h.z1
  have far : ∀ b o, b ≠ w.heap.size + 1 + 1 → ((W.setCell ⟨w.heap.size + 1 + 1, 0, none⟩ u).setCell ⟨w.heap.size + 1 + 1, 1, none⟩ v).cell? ⟨b, o, none⟩ = W.cell? ⟨b, o, none⟩ := fun b o hb =>
    (World.cell?_setCell_other _ ⟨_, 1, none⟩ ⟨b, o, none⟩ v (by intro e; injection e; omega)).trans (World.cell?_setCell_other _ ⟨_, 0, none⟩ ⟨b, o, none⟩ u (by intro e; injection e; omega))
  have fr : ∀ b o, ((W.setCell ⟨w.heap.size + 1 + 1, 0, none⟩ u).setCell ⟨w.heap.size + 1 + 1, 1, none⟩ v).frozen? ⟨b, o, none⟩ = W.frozen? ⟨b, o, none⟩ := fun b o => by simp [go_sem]
  refine ⟨(far _ _ (by omega)).trans h.x0, (far _ _ (by omega)).trans h.x1, (far _ _ (by omega)).trans h.y0, (far _ _ (by omega)).trans h.y1, by simp [go_sem, e0], by simp [go_sem, e1], fun o => (fr _ _).trans (h.fx o), fun o => (fr _ _).trans (h.fy o), fun o => (fr _ _).trans (h.fz o), by have := h.bel; go_grown, by simp [World.setCell]; omega⟩

theorem MagIs.put {w : World} {A : Option Addr} {l : List Nat} {c : Nat} (h : MagIs w A l c) {p : Addr} {v : Value} (hp : w.cell? p = some v) (hv : ∀ n, v ≠ .int .u32 n) (u : Value) : MagIs (w.setCell p u) A l c := by
  refine ⟨?_, h.ws, h.nz, h.cap, h.mx⟩
  have := h.sl.put hp hv u
  simpa [World.setCell] using this
theorem MagIs.drewN {w : World} {A : Option Addr} {l : List Nat} {c : Nat} (h : MagIs w A l c) (n : Nat) : MagIs (w.drewN n) A l c := ⟨h.sl, h.ws, h.nz, h.cap, h.mx⟩
theorem Box3.drewN {w W : World} {x0 x1 y0 y1 z0 z1 : Value} (h : Box3 w W x0 x1 y0 y1 z0 z1) (n : Nat) : Box3 w (W.drewN n) x0 x1 y0 y1 z0 z1 :=
  ⟨h.x0, h.x1, h.y0, h.y1, h.z0, h.z1, h.fx, h.fy, h.fz, below_drewN' h.bel n, h.sz⟩
theorem cell_put (w : World) {p q : Addr} (u : Value) (h : p ≠ q) : (w.setCell p u).cell? q = w.cell? q := World.cell?_setCell_other w p q u h
theorem frz_put (w : World) (p : Addr) (u : Value) (b o : Nat) : (w.setCell p u).frozen? ⟨b, o, none⟩ = w.frozen? ⟨b, o, none⟩ := by simp [go_sem]
/-- The first two structs anew. -/
theorem Box3.swap {w W : World} {x0 x1 y0 y1 z0 z1 : Value} (h : Box3 w W x0 x1 y0 y1 z0 z1) (u0 u1 v0 v1 : Value) :
    Box3 w ((((W.setCell ⟨w.heap.size, 0, none⟩ u0).setCell ⟨w.heap.size, 1, none⟩ u1).setCell ⟨w.heap.size + 1, 0, none⟩ v0).setCell ⟨w.heap.size + 1, 1, none⟩ v1) u0 u1 v0 v1 z0 z1 := by
  have h0 := h.sz
  have a0 := h.x0
  have a1 := h.x1
  have b0 := h.y0
  have b1 := h.y1
  have c0 := h.z0
  have c1 := h.z1
  refine ⟨by simp [go_sem, a0], by simp [go_sem, a1], by simp [go_sem, b0], by simp [go_sem, b1], ?_, ?_, fun o => ?_, fun o => ?_, fun o => ?_, by have := h.bel; go_grown, by simp [World.setCell]; omega⟩
  · rw [cell_put, cell_put, cell_put, cell_put]
    · exact c0
    all_goals (intro e; injection e; omega)
  · rw [cell_put, cell_put, cell_put, cell_put]
    · exact c1
    all_goals (intro e; injection e; omega)
  · rw [frz_put, frz_put, frz_put, frz_put]; exact h.fx o
  · rw [frz_put, frz_put, frz_put, frz_put]; exact h.fy o
  · rw [frz_put, frz_put, frz_put, frz_put]; exact h.fz o
theorem MagIs.swap {w W : World} {x0 x1 y0 y1 z0 z1 : Value} (h : Box3 w W x0 x1 y0 y1 z0 z1) {A : Option Addr} {l : List Nat} {c : Nat} (hm : MagIs W A l c) (u0 u1 v0 v1 : Value)
    (hx0 : ∀ n, x0 ≠ .int .u32 n) (hx1 : ∀ n, x1 ≠ .int .u32 n) (hy0 : ∀ n, y0 ≠ .int .u32 n) (hy1 : ∀ n, y1 ≠ .int .u32 n) :
    MagIs ((((W.setCell ⟨w.heap.size, 0, none⟩ u0).setCell ⟨w.heap.size, 1, none⟩ u1).setCell ⟨w.heap.size + 1, 0, none⟩ v0).setCell ⟨w.heap.size + 1, 1, none⟩ v1) A l c := by
  have h0 := h.sz
  refine (((hm.put h.x0 hx0 u0).put (v := x1) ?_ hx1 u1).put (v := y0) ?_ hy0 v0).put (v := y1) ?_ hy1 v1
  · rw [cell_put _ _ (by intro e; injection e; omega)]; exact h.x1
  · rw [cell_put _ _ (by intro e; injection e; omega), cell_put _ _ (by intro e; injection e; omega)]; exact h.y0
  · rw [cell_put _ _ (by intro e; injection e; omega), cell_put _ _ (by intro e; injection e; omega), cell_put _ _ (by intro e; injection e; omega)]; exact h.y1
theorem sgn_sub {p q : Bool} (x y : Nat) (hn : p ≠ q) (h : y ≤ x) : sgn p x + sgn q y = sgn p (x - y) := by
  unfold sgn
  cases p <;> cases q <;> simp at * <;> omega

end Go.Proofs.YtmlpibdincfgbaaDoor
