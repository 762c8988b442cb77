/-
  Contracts of package wide: Add, Sub.
-/
import Derived.Test.YthafhbogpfggjaaGreatDoorW4
namespace Go.Proofs.YthafhbogpfggjaaGreatDoor
open Go.RowKit Mag

/-- The error, and the value, of a result that is in range or not. -/
def lim (z : Int) : Int := if z.natAbs < top then 0 else 4
def clip (z : Int) : Int := if z.natAbs < top then z else 0
theorem lim_in {z : Int} (h : z.natAbs < top) : lim z = 0 := by unfold lim; rw [if_pos h]
theorem clip_in {z : Int} (h : z.natAbs < top) : clip z = z := by unfold clip; rw [if_pos h]
theorem lim_out {z : Int} (h : ¬ z.natAbs < top) : lim z = 4 := by unfold lim; rw [if_neg h]
theorem clip_out {z : Int} (h : ¬ z.natAbs < top) : clip z = 0 := by unfold clip; rw [if_neg h]

theorem signed_lim (neg : Bool) (A : Option Addr) (c : Nat) (l : List Nat) (w : World) (z : Int) (hS : Sl w w.heap.size A (l.map w32)) (hc : l.length ≤ c) (hm : c ≤ maxLen) (hw : Ws l) (hz : z = sgn neg (val l)) :
    Calls Tryz.prog 119 #[.bool neg, .slice A l.length c] w (IntErr w (clip z) (lim z)) := by
  subst hz
  have hn : (sgn neg (val l)).natAbs = val l := by unfold sgn; cases neg <;> simp
  by_cases h : val l < top
  · rw [clip_in (by rw [hn]; exact h), lim_in (by rw [hn]; exact h)]
    exact signed_any neg A c l w hS hc hm hw h
  · rw [clip_out (by rw [hn]; exact h), lim_out (by rw [hn]; exact h)]
    exact signed_over neg A c l w hS hc hm hw (by omega)
theorem sgn_add (neg : Bool) (x y : Nat) : sgn neg x + sgn neg y = sgn neg (x + y) := by unfold sgn; cases neg <;> simp <;> omega

theorem Below.of_drew {w w' : World} (h : Below w.drew.heap.size w.drew w') : Below w.heap.size w w' := ⟨h.os, h.tape, h.output, h.size, h.block⟩
/-- A store into a cell that holds no word leaves every magnitude as it was. -/
theorem Sl.put {w : World} {B : Nat} {A : Option Addr} {l : List Nat} (h : Sl w B A (l.map w32)) {p : Addr} {v : Value} (hp : w.cell? p = some v) (hv : ∀ n, v ≠ .int .u32 n) (u : Value) : Sl (w.setCell p u) B A (l.map w32) := by
  intro hn
  obtain ⟨g, off, rfl, hg, hc⟩ := h hn
  refine ⟨g, off, rfl, hg, fun i x hx => ?_⟩
  have h1 := hc i x hx
  rw [World.cell?_setCell_other _ _ _ _ ?_]
  · exact h1
  · intro e
    have h2 : w.cell? ⟨g, off + i, none⟩ = some v := by rw [← hp, e]
    rw [h2] at h1
    rw [List.getElem?_map] at hx
    cases hl : l[i]? with
    | none => rw [hl] at hx; cases hx
    | some y =>
      rw [hl] at hx
      injection hx with hx
      injection h1 with h1
      exact hv y (h1.trans hx.symm)
theorem WI.put {w : World} {neg : Bool} {A : Option Addr} {n c : Nat} {z : Int} (h : WI w neg A n c z) {p : Addr} {v : Value} (hp : w.cell? p = some v) (hv : ∀ n, v ≠ .int .u32 n) (u : Value) : WI (w.setCell p u) neg A n c z := by
  obtain ⟨l, h1, h2, h3, h4⟩ := h
  refine ⟨l, h1, h2, ⟨?_, h3.ws, h3.nz, h3.cap, h3.mx⟩, h4⟩
  have := h3.sl.put hp hv u
  simpa [World.setCell] using this
/-- Three structs of two cells, laid one behind the other. -/
structure Box3 (w W : World) (x0 x1 y0 y1 z0 z1 : Value) : Prop where
  x0 : W.cell? ⟨w.heap.size, 0, none⟩ = some x0
  x1 : W.cell? ⟨w.heap.size, 1, none⟩ = some x1
  y0 : W.cell? ⟨w.heap.size + 1, 0, none⟩ = some y0
  y1 : W.cell? ⟨w.heap.size + 1, 1, none⟩ = some y1
  z0 : W.cell? ⟨w.heap.size + 1 + 1, 0, none⟩ = some z0
  z1 : W.cell? ⟨w.heap.size + 1 + 1, 1, none⟩ = some z1
  fx : ∀ o, W.frozen? ⟨w.heap.size, o, none⟩ = false
  fy : ∀ o, W.frozen? ⟨w.heap.size + 1, o, none⟩ = false
  fz : ∀ o, W.frozen? ⟨w.heap.size + 1 + 1, o, none⟩ = false
  bel : Below w.heap.size w W
  sz : w.heap.size + 2 < W.heap.size
theorem Box3.mk_ (w : World) (x0 x1 y0 y1 z0 z1 : Value) (t u v : TypeId) : Box3 w (((w.alloc (.cells #[x0, x1] t)).alloc (.cells #[y0, y1] u)).alloc (.cells #[z0, z1] v)) x0 x1 y0 y1 z0 z1 := by
  refine ⟨?_, ?_, ?_, ?_, ?_, ?_, ?_, ?_, ?_, by go_grown, by simp⟩
  all_goals simp [go_sem]
theorem Box3.on {w W W' : World} {x0 x1 y0 y1 z0 z1 : Value} (h : Box3 w W x0 x1 y0 y1 z0 z1) (hb : Below W.heap.size W W') : Box3 w W' x0 x1 y0 y1 z0 z1 := by
  obtain ⟨hc, hf⟩ := bcell hb
  have h1 := h.sz
  have h2 := hb.size
  exact ⟨(hc _ _ (by omega)).trans h.x0, (hc _ _ (by omega)).trans h.x1, (hc _ _ (by omega)).trans h.y0, (hc _ _ (by omega)).trans h.y1, (hc _ _ (by omega)).trans h.z0, (hc _ _ (by omega)).trans h.z1,
    fun o => (hf _ _ (by omega)).trans (h.fx o), fun o => (hf _ _ (by omega)).trans (h.fy o), fun o => (hf _ _ (by omega)).trans (h.fz o), h.bel.trans (hb.mono (by omega)), by omega⟩

theorem Box3.put {w W : World} {x0 x1 y0 y1 z0 z1 : Value} (h : Box3 w W x0 x1 y0 y1 z0 z1) (u v : Value) : Box3 w ((W.setCell ⟨w.heap.size + 1 + 1, 0, none⟩ u).setCell ⟨w.heap.size + 1 + 1, 1, none⟩ v) x0 x1 y0 y1 u v := by
  have h0 := h.sz
  have e0 := h.z0
  have e1 := h.z1
  have far : ∀ b o, b ≠ w.heap.size + 1 + 1 → ((W.setCell ⟨w.heap.size + 1 + 1, 0, none⟩ u).setCell ⟨w.heap.size + 1 + 1, 1, none⟩ v).cell? ⟨b, o, none⟩ = W.cell? ⟨b, o, none⟩ := fun b o hb =>
    (World.cell?_setCell_other _ ⟨_, 1, none⟩ ⟨b, o, none⟩ v (by intro e; injection e; omega)).trans (World.cell?_setCell_other _ ⟨_, 0, none⟩ ⟨b, o, none⟩ u (by intro e; injection e; omega))
  have fr : ∀ b o, ((W.setCell ⟨w.heap.size + 1 + 1, 0, none⟩ u).setCell ⟨w.heap.size + 1 + 1, 1, none⟩ v).frozen? ⟨b, o, none⟩ = W.frozen? ⟨b, o, none⟩ := fun b o => by simp [go_sem]
  refine ⟨(far _ _ (by omega)).trans h.x0, (far _ _ (by omega)).trans h.x1, (far _ _ (by omega)).trans h.y0, (far _ _ (by omega)).trans h.y1, by simp [go_sem, e0], by simp [go_sem, e1], fun o => (fr _ _).trans (h.fx o), fun o => (fr _ _).trans (h.fy o), fun o => (fr _ _).trans (h.fz o), by have := h.bel; go_grown, by simp [World.setCell]; omega⟩

set_option maxRecDepth 100000 in
set_option maxHeartbeats 400000 in
theorem Add_same {n1 : Bool} {A B : Option Addr} {k m c d : Nat} {x y : Int} {w : World} (hx : WI w n1 A k c x) (hy : WI w n1 B m d y) :
    Calls Tryz.prog 48 #[.agg #[.bool n1, .slice A k c], .agg #[.bool n1, .slice B m d]] w (IntErr w (clip (x + y)) (lim (x + y))) := by
  obtain ⟨a, rfl, h5, ha, hna, rfl⟩ := hx.open_
  obtain ⟨b, rfl, h6, hb, hnb, rfl⟩ := hy.open_
  clear hx hy
  have hz := sgn_add n1 (val a) (val b)
  have HZ := Lib.hid hz
  clear hz
  go_enter Tryz.func48, Tryz.ntmps48
  go_wp2_with fail
  have hB := Box3.mk_ w (.bool n1) (.slice A a.length c) (.bool n1) (.slice B b.length d) (.bool false) (.slice none 0 0) 29 29 29
  generalize (((w.alloc (.cells #[.bool n1, .slice A a.length c] 29)).alloc (.cells #[.bool n1, .slice B b.length d] 29)).alloc (.cells #[.bool false, .slice none 0 0] 29)) = W at hB ⊢
  have ha' := ha.on hB.bel
  have hb' := hb.on hB.bel
  go_region_held3 (fun w' => w'.cell? ⟨w.heap.size, 0, none⟩ = some (.bool n1) ∧ w'.cell? ⟨w.heap.size, 1, none⟩ = some (.slice A a.length c) ∧ w'.cell? ⟨w.heap.size + 1, 1, none⟩ = some (.slice B b.length d)) (first | exact ⟨hB.x0, hB.x1, hB.y1⟩ | exact ⟨hB1.x0, hB1.x1, hB1.y1⟩ | exact ⟨hB2.x0, hB2.x1, hB2.y1⟩ | exact ⟨(hB2.put _ _).x0, (hB2.put _ _).x1, (hB2.put _ _).y1⟩)
    (first
      | (go_at_call 117; refine (sum_any (by exact ha'.sl) (by exact hb'.sl) ha.ws hb.ws (by omega) (by omega)).mono ?_; rintro e w1 ⟨g, ds, rfl, h11, h12, h13, h14, h15, h16⟩; have hB1 := hB.on (W' := w1) (Below.of_drew h15))
      | (go_at_call 119; refine (signed_lim _ _ _ ds _ (sgn n1 (val a) + sgn n1 (val b)) (h11.sl h11.lt) (Nat.le_refl _) (by unfold maxLen; omega) h12 (by rw [HZ.out, h13.out])).mono ?_; rintro e w2 ⟨neg, A2, k2, c2, rfl, hb2, hwi⟩; have hB2 := hB1.on (W' := w2) hb2; have z0 := hB2.z0; have z1 := hB2.z1; have f0 := hB2.fz 0; have f1 := hB2.fz 1))
  have hwi2 := (hwi.put z0 (fun n => by simp) (.bool neg)).put (p := ⟨w.heap.size + 1 + 1, 1, none⟩) (v := .slice none 0 0) (by simp [go_sem, z1]) (fun n => by simp) (.slice A2 k2 c2)
  have HP : IntErr w (clip (sgn n1 (val a) + sgn n1 (val b))) (lim (sgn n1 (val a) + sgn n1 (val b))) (.returned (.tuple #[.agg #[.bool neg, .slice A2 k2 c2], .int .i64 (lim (sgn n1 (val a) + sgn n1 (val b)))])) _ := ⟨_, _, _, _, rfl, (hB2.put (.bool neg) (.slice A2 k2 c2)).bel, hwi2⟩
  have HQ := Lib.hid HP
  have q0 := (hB2.put (.bool neg) (.slice A2 k2 c2)).z0
  have q1 := (hB2.put (.bool neg) (.slice A2 k2 c2)).z1
  clear HP hwi hwi2
  generalize (w2.setCell ⟨w.heap.size + 1 + 1, 0, none⟩ (.bool neg)).setCell ⟨w.heap.size + 1 + 1, 1, none⟩ (.slice A2 k2 c2) = W3 at HQ q0 q1 ⊢
  go_wp2
  exact bodyPost_ret (v := .tuple #[.agg #[.bool neg, .slice A2 k2 c2], .int .i64 (lim (sgn n1 (val a) + sgn n1 (val b)))]) (by simp [results, Tryz.results48, go_sem, q0, q1]) rfl HQ.out

theorem MagIs.put {w : World} {A : Option Addr} {l : List Nat} {c : Nat} (h : MagIs w A l c) {p : Addr} {v : Value} (hp : w.cell? p = some v) (hv : ∀ n, v ≠ .int .u32 n) (u : Value) : MagIs (w.setCell p u) A l c := by
  refine ⟨?_, h.ws, h.nz, h.cap, h.mx⟩
  have := h.sl.put hp hv u
  simpa [World.setCell] using this
theorem MagIs.drewN {w : World} {A : Option Addr} {l : List Nat} {c : Nat} (h : MagIs w A l c) (n : Nat) : MagIs (w.drewN n) A l c := ⟨h.sl, h.ws, h.nz, h.cap, h.mx⟩
theorem Box3.drewN {w W : World} {x0 x1 y0 y1 z0 z1 : Value} (h : Box3 w W x0 x1 y0 y1 z0 z1) (n : Nat) : Box3 w (W.drewN n) x0 x1 y0 y1 z0 z1 :=
  ⟨h.x0, h.x1, h.y0, h.y1, h.z0, h.z1, h.fx, h.fy, h.fz, below_drewN' h.bel n, h.sz⟩
theorem cell_put (w : World) {p q : Addr} (u : Value) (h : p ≠ q) : (w.setCell p u).cell? q = w.cell? q := World.cell?_setCell_other w p q u h
theorem frz_put (w : World) (p : Addr) (u : Value) (b o : Nat) : (w.setCell p u).frozen? ⟨b, o, none⟩ = w.frozen? ⟨b, o, none⟩ := by simp [go_sem]
/-- The first two structs anew. -/
theorem Box3.swap {w W : World} {x0 x1 y0 y1 z0 z1 : Value} (h : Box3 w W x0 x1 y0 y1 z0 z1) (u0 u1 v0 v1 : Value) :
    Box3 w ((((W.setCell ⟨w.heap.size, 0, none⟩ u0).setCell ⟨w.heap.size, 1, none⟩ u1).setCell ⟨w.heap.size + 1, 0, none⟩ v0).setCell ⟨w.heap.size + 1, 1, none⟩ v1) u0 u1 v0 v1 z0 z1 := by
  have h0 := h.sz
  have a0 := h.x0
  have a1 := h.x1
  have b0 := h.y0
  have b1 := h.y1
  have c0 := h.z0
  have c1 := h.z1
  refine ⟨by simp [go_sem, a0], by simp [go_sem, a1], by simp [go_sem, b0], by simp [go_sem, b1], ?_, ?_, fun o => ?_, fun o => ?_, fun o => ?_, by have := h.bel; go_grown, by simp [World.setCell]; omega⟩
  · rw [cell_put, cell_put, cell_put, cell_put]
    · exact c0
    all_goals (intro e; injection e; omega)
  · rw [cell_put, cell_put, cell_put, cell_put]
    · exact c1
    all_goals (intro e; injection e; omega)
  · rw [frz_put, frz_put, frz_put, frz_put]; exact h.fx o
  · rw [frz_put, frz_put, frz_put, frz_put]; exact h.fy o
  · rw [frz_put, frz_put, frz_put, frz_put]; exact h.fz o
theorem MagIs.swap {w W : World} {x0 x1 y0 y1 z0 z1 : Value} (h : Box3 w W x0 x1 y0 y1 z0 z1) {A : Option Addr} {l : List Nat} {c : Nat} (hm : MagIs W A l c) (u0 u1 v0 v1 : Value)
    (hx0 : ∀ n, x0 ≠ .int .u32 n) (hx1 : ∀ n, x1 ≠ .int .u32 n) (hy0 : ∀ n, y0 ≠ .int .u32 n) (hy1 : ∀ n, y1 ≠ .int .u32 n) :
    MagIs ((((W.setCell ⟨w.heap.size, 0, none⟩ u0).setCell ⟨w.heap.size, 1, none⟩ u1).setCell ⟨w.heap.size + 1, 0, none⟩ v0).setCell ⟨w.heap.size + 1, 1, none⟩ v1) A l c := by
  have h0 := h.sz
  refine (((hm.put h.x0 hx0 u0).put (v := x1) ?_ hx1 u1).put (v := y0) ?_ hy0 v0).put (v := y1) ?_ hy1 v1
  · rw [cell_put _ _ (by intro e; injection e; omega)]; exact h.x1
  · rw [cell_put _ _ (by intro e; injection e; omega), cell_put _ _ (by intro e; injection e; omega)]; exact h.y0
  · rw [cell_put _ _ (by intro e; injection e; omega), cell_put _ _ (by intro e; injection e; omega), cell_put _ _ (by intro e; injection e; omega)]; exact h.y1
theorem sgn_sub {p q : Bool} (x y : Nat) (hn : p ≠ q) (h : y ≤ x) : sgn p x + sgn q y = sgn p (x - y) := by
  unfold sgn
  cases p <;> cases q <;> simp at * <;> omega

set_option maxRecDepth 100000 in
set_option maxHeartbeats 400000 in
theorem Add_diff_ge {n1 n2 : Bool} {A B : Option Addr} {c d : Nat} {a b : List Nat} {w : World} (ha : MagIs w A a c) (hb : MagIs w B b d) (hl1 : a.length ≤ 512) (hn : n1 ≠ n2) (hge : val b ≤ val a) :
    Calls Tryz.prog 48 #[.agg #[.bool n1, .slice A a.length c], .agg #[.bool n2, .slice B b.length d]] w (IntErr w (clip (sgn n1 (val a) + sgn n2 (val b))) (lim (sgn n1 (val a) + sgn n2 (val b)))) := by
  have hz := sgn_sub (val a) (val b) hn hge
  have HZ := Lib.hid hz
  clear hz
  have hbl : b.length ≤ a.length := by
    rcases Nat.lt_or_ge a.length b.length with h | h
    · have := lt_of_length ha.ws hb.nz h; omega
    · exact h
  have hcmp : ¬ cmpI (val a) (val b) < 0 := by unfold cmpI; split <;> (try split) <;> omega
  have hE : (n1 == n2) = false := by simpa using hn
  go_enter Tryz.func48, Tryz.ntmps48
  go_wp2_with fail
  refine (compare_any (((hb.alloc _).alloc _).alloc _) (((ha.alloc _).alloc _).alloc _)).mono ?_
  rintro e w1 ⟨rfl, nd, rfl⟩
  have hB := (Box3.mk_ w (.bool n1) (.slice A a.length c) (.bool n2) (.slice B b.length d) (.bool false) (.slice none 0 0) 29 29 29).drewN nd
  generalize ((((w.alloc (.cells #[.bool n1, .slice A a.length c] 29)).alloc (.cells #[.bool n2, .slice B b.length d] 29)).alloc (.cells #[.bool false, .slice none 0 0] 29)).drewN nd) = W at hB ⊢
  have ha' := ha.on hB.bel
  have hb' := hb.on hB.bel
  go_wp2_with fail
  go_region_held3 (fun w' => w'.cell? ⟨w.heap.size, 0, none⟩ = some (.bool n1) ∧ w'.cell? ⟨w.heap.size, 1, none⟩ = some (.slice A a.length c) ∧ w'.cell? ⟨w.heap.size + 1, 1, none⟩ = some (.slice B b.length d)) (first | exact ⟨hB.x0, hB.x1, hB.y1⟩ | exact ⟨hB1.x0, hB1.x1, hB1.y1⟩ | exact ⟨hB2.x0, hB2.x1, hB2.y1⟩ | exact ⟨(hB2.put _ _).x0, (hB2.put _ _).x1, (hB2.put _ _).y1⟩)
    (first
      | (go_at_call 131; refine (difference_any (by exact ha'.sl) (by exact hb'.sl) ha'.ws hb'.ws hbl (by omega) hge).mono ?_; rintro e w1 ⟨g, ds, rfl, h11, h12, h13, h14, h15, h16⟩; have hB1 := hB.on (W' := w1) (Below.of_drew h15))
      | (go_at_call 119; refine (signed_lim _ _ _ ds _ (sgn n1 (val a) + sgn n2 (val b)) (h11.sl h11.lt) (Nat.le_refl _) (by unfold maxLen; omega) h12 (by rw [HZ.out, h13.out])).mono ?_; rintro e w2 ⟨neg, A2, k2, c2, rfl, hb2, hwi⟩; have hB2 := hB1.on (W' := w2) hb2; have z0 := hB2.z0; have z1 := hB2.z1; have f0 := hB2.fz 0; have f1 := hB2.fz 1))
  have hwi2 := (hwi.put z0 (fun n => by simp) (.bool neg)).put (p := ⟨w.heap.size + 1 + 1, 1, none⟩) (v := .slice none 0 0) (by simp [go_sem, z1]) (fun n => by simp) (.slice A2 k2 c2)
  have HP : IntErr w (clip (sgn n1 (val a) + sgn n2 (val b))) (lim (sgn n1 (val a) + sgn n2 (val b))) (.returned (.tuple #[.agg #[.bool neg, .slice A2 k2 c2], .int .i64 (lim (sgn n1 (val a) + sgn n2 (val b)))])) _ := ⟨_, _, _, _, rfl, (hB2.put (.bool neg) (.slice A2 k2 c2)).bel, hwi2⟩
  have HQ := Lib.hid HP
  have q0 := (hB2.put (.bool neg) (.slice A2 k2 c2)).z0
  have q1 := (hB2.put (.bool neg) (.slice A2 k2 c2)).z1
  clear HP hwi hwi2
  generalize (w2.setCell ⟨w.heap.size + 1 + 1, 0, none⟩ (.bool neg)).setCell ⟨w.heap.size + 1 + 1, 1, none⟩ (.slice A2 k2 c2) = W3 at HQ q0 q1 ⊢
  go_wp2
  exact bodyPost_ret (v := .tuple #[.agg #[.bool neg, .slice A2 k2 c2], .int .i64 (lim (sgn n1 (val a) + sgn n2 (val b)))]) (by simp [results, Tryz.results48, go_sem, q0, q1]) rfl HQ.out

set_option maxRecDepth 100000 in
set_option maxHeartbeats 400000 in
theorem Add_diff_lt {n1 n2 : Bool} {A B : Option Addr} {c d : Nat} {a b : List Nat} {w : World} (ha : MagIs w A a c) (hb : MagIs w B b d) (hl1 : a.length ≤ 512) (hn : n1 ≠ n2) (hlt : val b < val a) :
    Calls Tryz.prog 48 #[.agg #[.bool n2, .slice B b.length d], .agg #[.bool n1, .slice A a.length c]] w (IntErr w (clip (sgn n1 (val a) + sgn n2 (val b))) (lim (sgn n1 (val a) + sgn n2 (val b)))) := by
  have hge : val b ≤ val a := by omega
  have hz := sgn_sub (val a) (val b) hn hge
  have HZ := Lib.hid hz
  clear hz
  have hbl : b.length ≤ a.length := by
    rcases Nat.lt_or_ge a.length b.length with h | h
    · have := lt_of_length ha.ws hb.nz h; omega
    · exact h
  have hcmp : cmpI (val b) (val a) < 0 := by rw [cmpI_lt (by omega)]; omega
  have hE : (n2 == n1) = false := by simpa using fun h => hn (Eq.symm h)
  go_enter Tryz.func48, Tryz.ntmps48
  go_wp2_with fail
  refine (compare_any (((ha.alloc _).alloc _).alloc _) (((hb.alloc _).alloc _).alloc _)).mono ?_
  rintro e w1 ⟨rfl, nd, rfl⟩
  have hB := (Box3.mk_ w (.bool n2) (.slice B b.length d) (.bool n1) (.slice A a.length c) (.bool false) (.slice none 0 0) 29 29 29).drewN nd
  generalize ((((w.alloc (.cells #[.bool n2, .slice B b.length d] 29)).alloc (.cells #[.bool n1, .slice A a.length c] 29)).alloc (.cells #[.bool false, .slice none 0 0] 29)).drewN nd) = W at hB ⊢
  have ha' := ha.on hB.bel
  have hb' := hb.on hB.bel
  have a0 := hB.x0
  have a1 := hB.x1
  have b0 := hB.y0
  have b1 := hB.y1
  have fa0 := hB.fx 0
  have fa1 := hB.fx 1
  have fb0 := hB.fy 0
  have fb1 := hB.fy 1
  go_wp2_with fail
  have hC := hB.swap (.bool n1) (.slice A a.length c) (.bool n2) (.slice B b.length d)
  have ha2 := MagIs.swap hB ha' (.bool n1) (.slice A a.length c) (.bool n2) (.slice B b.length d) (fun n => by simp) (fun n => by simp) (fun n => by simp) (fun n => by simp)
  have hb2 := MagIs.swap hB hb' (.bool n1) (.slice A a.length c) (.bool n2) (.slice B b.length d) (fun n => by simp) (fun n => by simp) (fun n => by simp) (fun n => by simp)
  clear a0 a1 b0 b1 fa0 fa1 fb0 fb1
  generalize (((W.setCell ⟨w.heap.size, 0, none⟩ (.bool n1)).setCell ⟨w.heap.size, 1, none⟩ (.slice A a.length c)).setCell ⟨w.heap.size + 1, 0, none⟩ (.bool n2)).setCell ⟨w.heap.size + 1, 1, none⟩ (.slice B b.length d) = V at hC ha2 hb2 ⊢
  go_region_held3 (fun w' => w'.cell? ⟨w.heap.size, 0, none⟩ = some (.bool n1) ∧ w'.cell? ⟨w.heap.size, 1, none⟩ = some (.slice A a.length c) ∧ w'.cell? ⟨w.heap.size + 1, 1, none⟩ = some (.slice B b.length d)) (first | exact ⟨hC.x0, hC.x1, hC.y1⟩ | exact ⟨hB1.x0, hB1.x1, hB1.y1⟩ | exact ⟨hB2.x0, hB2.x1, hB2.y1⟩ | exact ⟨(hB2.put _ _).x0, (hB2.put _ _).x1, (hB2.put _ _).y1⟩)
    (first
      | (go_at_call 131; refine (difference_any (by exact ha2.sl) (by exact hb2.sl) ha2.ws hb2.ws hbl (by omega) hge).mono ?_; rintro e w1 ⟨g, ds, rfl, h11, h12, h13, h14, h15, h16⟩; have hB1 := hC.on (W' := w1) (Below.of_drew h15))
      | (go_at_call 119; refine (signed_lim _ _ _ ds _ (sgn n1 (val a) + sgn n2 (val b)) (h11.sl h11.lt) (Nat.le_refl _) (by unfold maxLen; omega) h12 (by rw [HZ.out, h13.out])).mono ?_; rintro e w2 ⟨neg, A2, k2, c2, rfl, hbb, hwi⟩; have hB2 := hB1.on (W' := w2) hbb; have z0 := hB2.z0; have z1 := hB2.z1; have f0 := hB2.fz 0; have f1 := hB2.fz 1))
  have hwi2 := (hwi.put z0 (fun n => by simp) (.bool neg)).put (p := ⟨w.heap.size + 1 + 1, 1, none⟩) (v := .slice none 0 0) (by simp [go_sem, z1]) (fun n => by simp) (.slice A2 k2 c2)
  have HP : IntErr w (clip (sgn n1 (val a) + sgn n2 (val b))) (lim (sgn n1 (val a) + sgn n2 (val b))) (.returned (.tuple #[.agg #[.bool neg, .slice A2 k2 c2], .int .i64 (lim (sgn n1 (val a) + sgn n2 (val b)))])) _ := ⟨_, _, _, _, rfl, (hB2.put (.bool neg) (.slice A2 k2 c2)).bel, hwi2⟩
  have HQ := Lib.hid HP
  have q0 := (hB2.put (.bool neg) (.slice A2 k2 c2)).z0
  have q1 := (hB2.put (.bool neg) (.slice A2 k2 c2)).z1
  clear HP hwi hwi2
  generalize (w2.setCell ⟨w.heap.size + 1 + 1, 0, none⟩ (.bool neg)).setCell ⟨w.heap.size + 1 + 1, 1, none⟩ (.slice A2 k2 c2) = W3 at HQ q0 q1 ⊢
  go_wp2
  exact bodyPost_ret (v := .tuple #[.agg #[.bool neg, .slice A2 k2 c2], .int .i64 (lim (sgn n1 (val a) + sgn n2 (val b)))]) (by simp [results, Tryz.results48, go_sem, q0, q1]) rfl HQ.out

theorem Add_any {n1 n2 : Bool} {A B : Option Addr} {k m c d : Nat} {x y : Int} {w : World} (hx : WI w n1 A k c x) (hy : WI w n2 B m d y) :
    Calls Tryz.prog 48 #[.agg #[.bool n1, .slice A k c], .agg #[.bool n2, .slice B m d]] w (IntErr w (clip (x + y)) (lim (x + y))) := by
  by_cases hn : n1 = n2
  · subst hn
    exact Add_same hx hy
  · obtain ⟨a, rfl, h5, ha, hna, rfl⟩ := hx.open_
    obtain ⟨b, rfl, h6, hb, hnb, rfl⟩ := hy.open_
    rcases Nat.lt_or_ge (val a) (val b) with h | h
    · have := Add_diff_lt hb ha h6 (fun e => hn e.symm) h
      rw [Int.add_comm] at this
      exact this
    · exact Add_diff_ge ha hb h5 hn h
end Go.Proofs.YthafhbogpfggjaaGreatDoor
