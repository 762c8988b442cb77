/-
  Contract of package wide: divide, the long division.
-/
import Derived.Test.YtfbbnphpapmpcaaGreatDoorW9
import Derived.Test.YtfbbnphpapmpcaaGreatDoorT1
import Derived.Deep.LoopGhost
import Derived.StillTailTactics
namespace Go.Proofs.YtfbbnphpapmpcaaGreatDoor
open Go.RowKit Mag

theorem nz_top {l : List Nat} {k : Nat} (h : Nz l) (hl : l.length = k + 1) : 0 < l.getD k 0 := by
  rcases List.eq_nil_or_concat l with rfl | ⟨l', y, rfl⟩
  · simp at hl
  · rw [List.concat_eq_append] at *
    have hk : l'.length = k := by simpa using hl
    simp only [Nz, List.getLast?_append, List.getLast?_singleton, Option.some_or, ne_eq, Option.some.injEq] at h
    rw [List.getD_eq_getElem?_getD, List.getElem?_append_right (by omega), hk, Nat.sub_self]
    simpa using Nat.pos_of_ne_zero h

theorem Below.of_drewN {w w' : World} {k : Nat} (h : Below (w.drewN k).heap.size (w.drewN k) w') : Below w.heap.size w w' := ⟨h.os, h.tape, h.output, h.size, h.block⟩
def LzPost (t : Nat) (w : World) (e : Ending) (w' : World) : Prop :=
  ∃ s, e = .returned (.int .i64 (s : Nat)) ∧ w = w' ∧ s < 32 ∧ Hid (2147483648 ≤ t * 2 ^ s ∧ t * 2 ^ s < 4294967296)
theorem lz_any {t : Nat} (h0 : 0 < t) (h1 : t < 4294967296) (w : World) : Calls Tryz.prog 90 #[.int .u32 (t : Nat)] w (LzPost t w) := by
  obtain ⟨b1, b2, b3, b4⟩ := lead_fits h0 h1
  refine (Tryz.bits_LeadingZeros32 t w (by omega) (by omega)).mono ?_
  rintro e w' ⟨rfl, rfl⟩
  refine ⟨32 - Lib.bitLen t, ?_, rfl, by omega, b3, b4⟩
  rw [Int.toNat_natCast]
  exact ret_i64 (by omega)

structure DivSt (w : World) (gu gv go m x Av : Nat) (v : List Nat) (k : Nat) (u out : List Nat) (wr : World) : Prop where
  ul : u.length = m + 3 + x
  uw : Ws u
  ol : out.length = x + 1
  ow : Ws out
  eq : Av = val (out.drop k) * 4294967296 ^ k * val v + val u
  lt : val (u.drop k) < val v
  uo : Own wr gu 91 (u.map w32)
  oo : Own wr go 91 (out.map w32)
  vo : ∀ i, i < m + 2 → wr.cell? ⟨gv, i, none⟩ = some (.int .u32 (v.getD i 0 : Nat))
  gl : gv < wr.heap.size
  bel : Below w.heap.size w wr

theorem DivSt.drewN {w wr : World} {gu gv go m x Av : Nat} {v : List Nat} {k : Nat} {u out : List Nat} (h : DivSt w gu gv go m x Av v k u out wr) (n : Nat) : DivSt w gu gv go m x Av v k u out (wr.drewN n) :=
  ⟨h.ul, h.uw, h.ol, h.ow, h.eq, h.lt, h.uo, h.oo, h.vo, h.gl, below_drewN' h.bel n⟩
theorem DivSt.ucell {w wr : World} {gu gv go m x Av : Nat} {v : List Nat} {k : Nat} {u out : List Nat} (h : DivSt w gu gv go m x Av v k u out wr) {i : Nat} (hi : i < m + 3 + x) : wr.cell? ⟨gu, i, none⟩ = some (.int .u32 (u.getD i 0 : Nat)) := by
  have hl := h.ul
  rw [h.uo.cell, List.getElem?_map, List.getElem?_eq_getElem (by omega), getD_lt (by omega)]; rfl

theorem win_len {u ds : List Nat} {j n : Nat} (hd : ds.length = n) (hj : j + n ≤ u.length) : (u.take j ++ ds ++ u.drop (j + n)).length = u.length := by simp; omega
theorem win_take {u ds : List Nat} {j n : Nat} (hj : j ≤ u.length) : (u.take j ++ ds ++ u.drop (j + n)).take j = u.take j := by
  rw [List.append_assoc, List.take_append_of_le_length (by simp; omega), List.take_take, Nat.min_self]
theorem win_drop {u ds : List Nat} {j n : Nat} (hj : j ≤ u.length) : (u.take j ++ ds ++ u.drop (j + n)).drop j = ds ++ u.drop (j + n) := by
  rw [List.append_assoc, List.drop_append_of_le_length (by simp; omega), List.drop_of_length_le (by rw [List.length_take]; omega), List.nil_append]
theorem DivSt.next {w wr w' : World} {gu gv go m x Av j q' W : Nat} {v u out ds : List Nat} (h : DivSt w gu gv go m x Av v (j + 1) u out wr) (hj : j + 1 ≤ x + 1) (hdl : ds.length = m + 3) (hdw : Ws ds)
    (hq : q' < 4294967296) (hW : W = val ((u.drop j).take (m + 3))) (he : val ds + q' * val v = W) (hlt : val ds < val v) (hz : val (u.drop (j + (m + 2) + 1)) = 0)
    (hu : Own w' gu 91 ((u.take j ++ ds ++ u.drop (j + (m + 3))).map w32)) (ho : Own w' go 91 ((out.set j q').map w32)) (hv : ∀ i, i < m + 2 → w'.cell? ⟨gv, i, none⟩ = some (.int .u32 (v.getD i 0 : Nat)))
    (hgl : gv < w'.heap.size) (hb : Below w.heap.size w w') : DivSt w gu gv go m x Av v j (u.take j ++ ds ++ u.drop (j + (m + 3))) (out.set j q') w' := by
  have hul := h.ul
  have hol := h.ol
  have e1 := win_len (u := u) (j := j) hdl (by omega)
  have e2 := win_take (u := u) (ds := ds) (j := j) (n := m + 3) (by omega)
  have e3 := win_drop (u := u) (ds := ds) (j := j) (n := m + 3) (by omega)
  have e4 : (u.take j ++ ds ++ u.drop (j + (m + 3))).drop (j + (m + 2) + 1) = u.drop (j + (m + 2) + 1) := by
    rw [show j + (m + 2) + 1 = j + (m + 3) by omega, ← List.drop_drop, e3, List.drop_append_of_le_length (by omega), List.drop_of_length_le (by omega), List.nil_append]
  have e5 : ((u.take j ++ ds ++ u.drop (j + (m + 3))).drop j).take (m + 2 + 1) = ds := by
    rw [e3, List.take_append_of_le_length (by omega), List.take_of_length_le (by omega)]
  have hp := digit_put (n := m + 2) (by omega) (by omega) h.eq (q := q') (by rw [e5, show m + 2 + 1 = m + 3 by omega, ← hW]; exact he) hz e1 e2 e4
  refine ⟨by rw [e1, hul], ((h.uw.take j).append hdw).append (h.uw.drop _), by simp [hol], h.ow.set j hq, hp.1, ?_, hu, ho, hv, hgl, hb⟩
  rw [hp.2, e5]
  exact hlt

theorem win_get {u ds : List Nat} {j n k : Nat} (hd : ds.length = n) (hj : j ≤ u.length) (hk : k < n) : (u.take j ++ ds ++ u.drop (j + n)).getD (j + k) 0 = ds.getD k 0 := by
  rw [← getD_drop', win_drop hj, List.getD_eq_getElem?_getD, List.getD_eq_getElem?_getD, List.getElem?_append_left (by omega)]
/-- The divisor is added back: the state at a round's head. -/
structure BackSt (w : World) (gu gv gw gc m j : Nat) (u1 v ds outq : List Nat) (k : Nat) (es : List Nat) (cy : Nat) (wr : World) : Prop where
  len : es.length = k
  ws : Ws es
  cy1 : cy ≤ 1
  eq : val es + cy * 4294967296 ^ k = val (ds.take k) + val (v.take k)
  uo : Own wr gu 91 ((u1.take j ++ es ++ u1.drop (j + k)).map w32)
  oo : Own wr gw 91 (outq.map w32)
  car : Own wr gc 89 [.int .u64 (cy : Nat)]
  vo : ∀ i, i < m + 2 → wr.cell? ⟨gv, i, none⟩ = some (.int .u32 (v.getD i 0 : Nat))
  gl : gv < wr.heap.size
  bel : Below w.heap.size w wr
theorem BackSt.cell {w wr w1 : World} {gu gv gw gc m j k cy : Nat} {u1 v ds outq es : List Nat} (h : BackSt w gu gv gw gc m j u1 v ds outq k es cy wr) (hj : j + k < u1.length) (hne : gu ≠ gc) (hg : wr.grownBy w1 (some gc)) :
    w1.cell? ⟨gu, j + k, none⟩ = some (.int .u32 (u1.getD (j + k) 0 : Nat)) ∧ w1.frozen? ⟨gu, j + k, none⟩ = false := by
  have hO := h.uo.grown hg (by intro e; injection e; omega)
  exact ⟨by rw [hO.cell, win_cell h.len hj], hO.frozen _⟩
theorem BackSt.step {w wr w1 : World} {gu gv gw gc m j k cy : Nat} {u1 v ds outq es : List Nat} (h : BackSt w gu gv gw gc m j u1 v ds outq k es cy wr) (hj : j + k < u1.length) (hds : Ws ds) (hv : Ws v)
    (h1 : gu ≠ gc) (h2 : gu ≠ gw) (h3 : gw ≠ gc) (h4 : gv ≠ gc) (h5 : gv ≠ gu) (hB : w.heap.size ≤ gu) (hB' : w.heap.size ≤ gc)
    {s : Int} (hs : s = ((cy + (ds.getD k 0 + v.getD k 0) : Nat) : Int)) (hc : Own w1 gc 89 [.int .u64 (s / 4294967296)]) (hg : wr.grownBy w1 (some gc)) :
    BackSt w gu gv gw gc m j u1 v ds outq (k + 1) (es ++ [(cy + (ds.getD k 0 + v.getD k 0)) % 4294967296]) ((cy + (ds.getD k 0 + v.getD k 0)) / 4294967296) (w1.setCell ⟨gu, j + k, none⟩ (.int .u32 (s % 4294967296))) := by
  subst hs
  have hO := h.uo.grown hg (by intro e; injection e; omega)
  have hO2 := h.oo.grown hg (by intro e; injection e; omega)
  have hst := sum_step (i := k) (c := cy) hds hv h.len h.cy1 h.eq
  refine ⟨by simp [h.len], h.ws.append (Ws.cons (by omega) Ws.nil), hst.1, hst.2, ?_, hO2.far (p := ⟨gu, j + k, none⟩) (fun e => h2 e.symm) _, hc.far (p := ⟨gu, j + k, none⟩) (fun e => h1 e.symm) _, fun i hi => ?_, ?_, (below_grown h.bel hg hB' h.bel.size).setCell hB _⟩
  · have := hO.set_ (j + k) (w32 ((cy + (ds.getD k 0 + v.getD k 0)) % 4294967296))
    rw [win_set h.len hj] at this
    exact this
  · rw [cell_put _ _ (by intro e; injection e with e; exact h5 e.symm), World.cell?_of_block (hg.block gv h.gl (by intro e; injection e with e; exact h4 e))]
    exact h.vo i hi
  · have := Nat.lt_of_lt_of_le h.gl hg.size
    simpa [World.setCell] using this

/-- The rest is shifted back: the state at a round's head. -/
structure UnSt (w : World) (gu gw gr m D : Nat) (u out : List Nat) (k : Nat) (ds : List Nat) (wr : World) : Prop where
  len : ds.length = k
  ws : Ws ds
  eq : val ds * D + u.getD 0 0 % D = val (u.take k) + u.getD k 0 % D * 4294967296 ^ k
  ro : Own wr gr 91 ((ds ++ List.replicate (m + 2 - k) 0).map w32)
  uo : Own wr gu 91 (u.map w32)
  oo : Own wr gw 91 (out.map w32)
  bel : Below w.heap.size w wr
theorem UnSt.step {w wr : World} {gu gw gr m D E k : Nat} {u out ds : List Nat} (h : UnSt w gu gw gr m D u out k ds wr) (hk : k < m + 2) (hu : Ws u) (hDE : D * E = 4294967296) (h1 : gu ≠ gr) (h2 : gw ≠ gr) (hB : w.heap.size ≤ gr)
    {s : Int} (hs : s = (((u.getD (k + 1) 0 * 4294967296 + u.getD k 0) / D % 4294967296 : Nat) : Int)) :
    UnSt w gu gw gr m D u out (k + 1) (ds ++ [(u.getD (k + 1) 0 * 4294967296 + u.getD k 0) / D % 4294967296]) (wr.setCell ⟨gr, k, none⟩ (.int .u32 s)) := by
  subst hs
  obtain ⟨e1, e2⟩ := unshift_word (u1 := u.getD (k + 1) 0) hDE (hu.getD k)
  refine ⟨by simp [h.len], h.ws.append (Ws.cons (by omega) Ws.nil), unshift_step h.len hDE h.eq e1, ?_, h.uo.far (p := ⟨gr, k, none⟩) h1 _, h.oo.far (p := ⟨gr, k, none⟩) h2 _, h.bel.setCell hB _⟩
  have := h.ro.set_ k (w32 ((u.getD (k + 1) 0 * 4294967296 + u.getD k 0) / D % 4294967296))
  rw [mid_set h.len (by omega)] at this
  rw [show m + 2 - (k + 1) = m + 2 - k - 1 by omega]
  exact this

theorem UnSt.drew {w wr : World} {gu gw gr m D k : Nat} {u out ds : List Nat} (h : UnSt w gu gw gr m D u out k ds wr) : UnSt w gu gw gr m D u out k ds wr.drew :=
  ⟨h.len, h.ws, h.eq, h.ro, h.uo, h.oo, ⟨h.bel.os, h.bel.tape, h.bel.output, h.bel.size, h.bel.block⟩⟩
theorem div_fin {a b u out ds v : List Nat} {m s x : Nat} (hs : s < 32) (hul : u.length = m + 3 + x) (hv : Ws v) (hvl : v.length = m + 2) (hvv : val v = val b * 2 ^ s)
    (heq : val a * 2 ^ s = val (out.drop 0) * 4294967296 ^ 0 * val v + val u) (hlt : val (u.drop 0) < val v) (hus : val ds * 2 ^ s + u.getD 0 0 % 2 ^ s = val (u.take (m + 2)) + u.getD (m + 2) 0 % 2 ^ s * 4294967296 ^ (m + 2)) :
    val out = val a / val b ∧ val ds = val a % val b := by
  rw [List.drop_zero, Nat.pow_zero, Nat.mul_one] at heq
  rw [List.drop_zero] at hlt
  have hp : 0 < 2 ^ s := Nat.pow_pos (by decide)
  obtain ⟨r, hU, hA, hr⟩ := div_end hp heq hvv hlt
  have hz := val_zero_drop (l := u) (n := m + 2) (by omega) (by have := val_lt hv; rw [hvl] at this; omega)
  have hd := unshift_end hp (pow_split hs) (by omega) (by omega) hz hU hus
  rw [hd]
  exact div_by hA hr

set_option maxRecDepth 100000 in
set_option maxHeartbeats 16000000 in
theorem divide_big {A B : Option Addr} {c d m x : Nat} {a b : List Nat} {w : World} (ha : MagIs w A a c) (hb : MagIs w B b d) (hge : val b ≤ val a) (hL : a.length = m + 2 + x) (hn : b.length = m + 2) (hal : m + 2 + x ≤ 1000000) :
    Calls Tryz.prog 63 #[.slice A (m + 2 + x) c, .slice B (m + 2) d] w (DivPost w a b) := by
  have hcmp : ¬ cmpI (val a) (val b) < 0 := by unfold cmpI; split <;> (try split) <;> omega
  have hCmp := fun n => compare_any (hb.drewN n) (ha.drewN n)
  rw [hL, hn] at hCmp
  have HC := Lib.hid hCmp
  have HL := Lib.hid hL
  have HN := Lib.hid hn
  obtain ⟨g, o, rfl, hg, hc⟩ := hb.sl.w32at (i := m + 1) (by omega)
  have htop := nz_top hb.nz hn
  have htw := hb.ws.getD (m + 1)
  rw [← getD_lt (by omega : m + 1 < b.length)] at hc
  obtain ⟨t, ht⟩ : ∃ t, t = b.getD (m + 1) 0 := ⟨_, rfl⟩
  rw [← ht] at hc htop htw
  have HT := Lib.hid ht
  clear hCmp hL hn ht
  go_enter Tryz.func63, Tryz.ntmps63
  go_wp2_with fail
  go_step3
  go_wp2_with fail
  refine (HC.out 0).mono ?_
  rintro e w1 ⟨rfl, nd, rfl⟩
  go_wp2_with fail
  refine (lz_any htop htw _).mono ?_
  rintro e w2 ⟨s, rfl, rfl, hs32, HS⟩
  have hSA := fun (W : World) (hb : Below w.heap.size w W) => shifted_any (c := c) (s := s) (ha.on hb).sl ha.ws (by rw [HL.out]; omega) hs32
  rw [HL.out] at hSA
  have HSA := Lib.hid hSA
  have hSB := fun (W : World) (hb' : Below w.heap.size w W) => shifted_any (c := d) (s := s) (hb.on hb').sl hb.ws (by rw [HN.out]; omega) hs32
  rw [HN.out] at hSB
  have HSB := Lib.hid hSB
  clear hSA hSB
  go_wp2_with fail
  have hmax : max ((m : Int) + 2) 0 = (m : Int) + 2 := by omega
  have hto : ((m : Int) + 2).toNat = m + 2 := by omega
  go_region_held3 (fun _ => True) (trivial)
    (first
      | (go_at_call 91; (with_reducible refine (HSA.out _ (below_drewN' (Below.refl _ _) _)).mono ?_); rintro e w1 ⟨gu, U, rfl, u11, u12, u13, u14, u15, u16⟩; have hbw1 := Below.of_drewN u15)
      | (go_at_call 91; (with_reducible refine (HSB.out _ hbw1).mono ?_); rintro e w2 ⟨gv, V, rfl, v11, v12, v13, v14, v15, v16⟩; have hvl : m + 2 ≤ V.length := (by rw [v14.out, HN.out]; omega); have hvl2 : (m : Int) + 2 ≤ (V.length : Int) := (by omega); have hvl0 : (0 : Int) ≤ (m : Int) + 2 := (by omega)))
  have hvlen : V.length = m + 3 := by rw [v14.out, HN.out]
  have hulen : U.length = m + 3 + x := by rw [u14.out, HL.out]; omega
  obtain ⟨hset1, hset2⟩ := div_setup (k := m + 1) hb.ws HN.out HT.out v12 hvlen v13.out (pow_split hs32) HS.out.1 HS.out.2
  obtain ⟨v, hv0⟩ : ∃ v, v = V.take (m + 2) := ⟨_, rfl⟩
  have hvw : Ws v := by rw [hv0]; exact v12.take _
  have hvl' : v.length = m + 2 := by rw [hv0, List.length_take]; omega
  have hvv : val v = val b * 2 ^ s := by rw [hv0]; exact hset1
  have hvget : ∀ i, i < m + 2 → V.getD i 0 = v.getD i 0 := fun i hi => by rw [hv0, getD_take' _ hi]
  have hst0 : DivSt w gu gv w2.heap.size m x (val a * 2 ^ s) v (x + 1) U (List.replicate (x + 1) 0) (w2.alloc (.cells (Array.replicate (x + 1) (w32 0)) 91)) := by
    refine ⟨hulen, u12, by simp, Ws.replicate _, ?_, ?_, (u11.on v15).alloc _, by simpa using Own.rep w2 91 (x + 1) (w32 0), fun i hi => ?_, by have := v11.lt; simp; omega, (hbw1.trans (v15.mono hbw1.size)).alloc (by have := hbw1.size; have := v15.size; omega) _⟩
    · rw [List.drop_of_length_le (by simp), u13.out]; simp [val]
    · have := div_start (a := a) (b := b) (u := U) (v := v) (D := 2 ^ s) (L := m + 2 + x) (n := m + 2) (by rw [hulen]; omega) ha.ws HL.out HN.out hb.nz (by omega) (by omega) (Nat.pow_pos (by decide)) u13.out hvv
      rw [show m + 2 + x - (m + 2) + 1 = x + 1 by omega] at this
      exact this
    · rw [World.cell?_alloc_lt w2 _ ⟨gv, i, none⟩ v11.lt, v11.cell, List.getElem?_map, List.getElem?_eq_getElem (by omega), ← hvget i hi, getD_lt (by omega)]; rfl
  have htop2 : 2147483648 ≤ v.getD (m + 1) 0 := by rw [← hvget _ (by omega)]; exact hset2
  have hblk : gu ≠ gv ∧ gv ≠ w2.heap.size ∧ gu ≠ w2.heap.size ∧ w.heap.size ≤ gu ∧ w.heap.size ≤ gv ∧ w.heap.size ≤ w2.heap.size := by
    have h1 := u11.lt
    have h2 := v11.lt
    have h3 := v15.size
    have h4 : w.heap.size ≤ gu := u16
    omega
  have hmk := make_u32 (x + 1) (by omega) ((m : Int) + 2 + x - ((m : Int) + 2) + 1) (by omega)
  go_wp2_with fail
  generalize w2.alloc (.cells (Array.replicate (x + 1) (w32 0)) 91) = w3 at hst0 ⊢
  obtain ⟨gw, hgw⟩ : ∃ gw, gw = w2.heap.size := ⟨_, rfl⟩
  rw [← hgw] at hst0 hblk ⊢
  obtain ⟨tp, htp⟩ : ∃ tp, tp = v.getD (m + 1) 0 := ⟨_, rfl⟩
  obtain ⟨nx, hnx⟩ : ∃ nx, nx = v.getD m 0 := ⟨_, rfl⟩
  have htpl := hvw.getD (m + 1)
  have hnxl := hvw.getD m
  have hc1 := hst0.vo (m + 1) (by omega)
  have hc0 := hst0.vo m (by omega)
  rw [← htp] at htop2 htpl hc1
  rw [← hnx] at hnxl hc0
  have hul1 : m + 3 + x ≤ U.length := by omega
  have hul2 : U.length ≤ m + 3 + x := by omega
  have hvl1 : m + 3 ≤ V.length := by omega
  have hvl2 : V.length ≤ m + 3 := by omega
  have HTP := Lib.hid htp
  have HNX := Lib.hid hnx
  have HVV := Lib.hid hvv
  have HVL := Lib.hid hvl'
  have HUL := Lib.hid hulen
  clear hmk htp hnx hvv hvl' hulen hvlen hv0 hvget hset1 hset2 hgw u11 u13 u14 v11 v13 v14 HSA HSB HC
  have q1 : IntKind.i64.wrap ((m : Int) + 2 - 1) = (m : Int) + 1 := by rw [IntWalk.i64_in _ (by omega)]; omega
  have q2 : IntKind.i64.wrap ((m : Int) + 2 - 2) = (m : Int) := by rw [IntWalk.i64_in _ (by omega)]; omega
  have q3 : ((m : Int) + 1).toNat = m + 1 := by omega
  have q4 : (m : Int) + 1 < (m : Int) + 2 := by omega
  have q5 : (m : Int) < (m : Int) + 2 := by omega
  have q6 : (0 : Int) ≤ (m : Int) + 1 := by omega
  go_quiet (fail)
  have hst1 := hst0.drewN nq
  generalize w3.drewN nq = w4 at hst1 ⊢
  clear hst0 hc0 hc1 q1 q2 q3 q4 q5 q6
  go_wp2_with fail
  go_step3
  go_wp2_with fail
  go_loopw [15] (fun i wr => ∃ (k : Nat) (u out : List Nat), k ≤ x + 1 ∧ i = .int .i64 ((k : Int) - 1) ∧ DivSt w gu gv gw m x (val a * 2 ^ s) v k u out wr)
    (fun i _ => (intOf i + 1).toNat)
  case atStart => exact ⟨x + 1, U, _, by omega, by go_num, hst1⟩
  case round =>
    obtain ⟨k, u, out, hk, rfl, hst⟩ := hrel
    rcases Nat.eq_zero_or_pos k with h0 | h0
    · skip
      --BEGIN out
      subst h0
      have hmk2 := make_u32 (m + 2) (by omega) ((m : Int) + 2) (by omega)
      clear hst1
      go_wp2_with fail
      have hgu := hst.uo.lt
      have hgo := hst.oo.lt
      have hul := hst.ul
      have huw := hst.uw
      have hU0 : UnSt w gu gw wr.heap.size m (2 ^ s) u out 0 [] (wr.alloc (.cells (Array.replicate (m + 2) (w32 0)) 91)) :=
        ⟨rfl, Ws.nil, by simp [val], by simpa using Own.rep wr 91 (m + 2) (w32 0), hst.uo.alloc _, hst.oo.alloc _, hst.bel.alloc hst.bel.size _⟩
      have hwB := hst.bel.size
      generalize wr.alloc (.cells (Array.replicate (m + 2) (w32 0)) 91) = w5 at hU0 ⊢
      obtain ⟨gr, hgr⟩ : ∃ gr, gr = wr.heap.size := ⟨_, rfl⟩
      rw [← hgr] at hU0 hgu hgo hwB ⊢
      clear hgr
      have HUL2 := Lib.hid hul
      clear hul
      go_loopw [202] (fun kv wx => ∃ (k : Nat) (ds : List Nat), k ≤ m + 2 ∧ kv = .int .i64 (k : Nat) ∧ UnSt w gu gw gr m (2 ^ s) u out k ds wx) (fun kv _ => m + 2 - (intOf kv).toNat)
      case atStart => exact ⟨0, [], by omega, rfl, hU0⟩
      case round =>
        obtain ⟨k, ds, hkm, rfl, hus⟩ := hrel
        by_cases hlt : k < m + 2
        · obtain ⟨ua, hua⟩ : ∃ ua, ua = u.getD (k + 1) 0 := ⟨_, rfl⟩
          obtain ⟨ub, hub⟩ : ∃ ub, ub = u.getD k 0 := ⟨_, rfl⟩
          have la := huw.getD (k + 1)
          have lb := huw.getD k
          have ca : wr.cell? ⟨gu, k + 1, none⟩ = some (.int .u32 (u.getD (k + 1) 0 : Nat)) := by
            have := HUL2.out
            rw [hus.uo.cell, List.getElem?_map, List.getElem?_eq_getElem (by omega), getD_lt (by omega)]; rfl
          have cb : wr.cell? ⟨gu, k, none⟩ = some (.int .u32 (u.getD k 0 : Nat)) := by
            have := HUL2.out
            rw [hus.uo.cell, List.getElem?_map, List.getElem?_eq_getElem (by omega), getD_lt (by omega)]; rfl
          have cr : wr.cell? ⟨gr, k, none⟩ = some (w32 0) := by rw [hus.ro.cell, mid_cell hus.len (by omega)]
          have fr := hus.ro.frozen k
          have hst9 := fun s => hus.step (E := 2 ^ (32 - s)) hlt huw
          rw [← hua] at ca la
          rw [← hub] at cb lb
          have hor := or_word ua ub la lb
          obtain ⟨nm, hnm⟩ : ∃ nm, nm = ua * 4294967296 + ub := ⟨_, rfl⟩
          rw [show (ua : Int) * 4294967296 + (ub : Int) = (nm : Int) by omega] at hor
          have HUA := Lib.hid hua
          have HUB := Lib.hid hub
          have HNM := Lib.hid hnm
          clear hua hub hnm
          have q1 : IntKind.i64.wrap ((k : Int) + 1) = (k : Int) + 1 := IntWalk.i64_in _ (by omega)
          have q3 : ((k : Int) + 1).toNat = k + 1 := by omega
          have q5 : (k : Int) + 1 < (U.length : Int) := by omega
          have q6 : (k : Int) < (U.length : Int) := by omega
          have q7 : (0 : Int) ≤ (k : Int) + 1 := by omega
          have q8 : (k : Int) < (m : Int) + 2 := by omega
          have q9 : IntKind.u64.wrap ((ua : Int) * 4294967296) = (ua : Int) * 4294967296 := IntWalk.u64_in _ (by omega)
          have q10 : (s : Int) < 64 := by omega
          have q11 : (0 : Int) ≤ (s : Int) := by omega
          have q12 : (0 : Int) ≤ (k : Int) := by omega
          have q13 : (k : Int) < ((m + 2 : Nat) : Int) := by omega
          have cr2 : wr.drew.cell? ⟨gr, k, none⟩ = some (w32 0) := cr
          have fr2 : wr.drew.frozen? ⟨gr, k, none⟩ = false := fr
          go_wp2_with fail
          go_still_tail 19, (by kernel_rfl)
          go_wp2
          go_roundw
          case rel =>
            (repeat apply Exists.intro)
            refine ⟨⟨k + 1, _, by omega, by go_num, (hst9 s (pow_split hs32) (by omega) (by omega) (by omega) ?_).drew⟩, rfl⟩
            rw [← HUA.out, ← HUB.out, ← HNM.out]
            rfl
          case measure => simp [intOf] <;> omega
        · obtain rfl : k = m + 2 := by omega
          have hol := hst.ol
          have hdl := hus.len
          have hro := hus.ro
          rw [Nat.sub_self, List.replicate_zero, List.append_nil] at hro
          have hN1 := normal_any (some ⟨gw, 0, none⟩) (x + 1) out wr (hus.oo.sl hus.oo.lt) (by omega) (by unfold maxLen; omega)
          rw [hol, show x + 1 = x + 1 from rfl] at hN1
          have hN2 := normal_any (some ⟨gr, 0, none⟩) (m + 2) ds wr (hro.sl hro.lt) (by omega) (by unfold maxLen; omega)
          rw [hdl] at hN2
          obtain ⟨f1, f2⟩ := div_fin hs32 HUL2.out hvw HVL.out HVV.out hst.eq hst.lt hus.eq
          have how := hst.ow
          have hdw := hus.ws
          have hrs := hro.sl hro.lt
          have hos := hus.oo.sl hus.oo.lt
          have hbl := hus.bel
          have HN1 := Lib.hid hN1
          have HN2 := Lib.hid hN2
          have F1 := Lib.hid f1
          have F2 := Lib.hid f2
          have HOL := Lib.hid hol
          have HDL := Lib.hid hdl
          clear hN1 hN2 f1 f2 hol hdl hst hus hU0 hro
          go_wp2_with fail
          refine HN1.out.mono ?_
          rintro e w11 ⟨k1, hk1, rfl, rfl, hnz1, hval1⟩
          have HV1 := Lib.hid hval1
          clear hval1
          go_wp2_with fail
          refine HN2.out.mono ?_
          rintro e w12 ⟨k2, hk2, rfl, rfl, hnz2, hval2⟩
          have HV2 := Lib.hid hval2
          clear hval2
          have m1 : MagIs wr (some ⟨gw, 0, none⟩) (out.take k1) (x + 1) := ⟨by rw [List.map_take]; exact hos.take k1, how.take k1, hnz1, by rw [List.length_take, HOL.out]; omega, by unfold maxLen; omega⟩
          have m2 : MagIs wr (some ⟨gr, 0, none⟩) (ds.take k2) (m + 2) := ⟨by rw [List.map_take]; exact hrs.take k2, hdw.take k2, hnz2, by rw [List.length_take, HDL.out]; omega, by unfold maxLen; omega⟩
          have HP : DivPost w a b (.returned (.tuple #[.slice (some ⟨gw, 0, none⟩) (out.take k1).length (x + 1), .slice (some ⟨gr, 0, none⟩) (ds.take k2).length (m + 2)])) wr := ⟨_, _, _, _, _, _, rfl, m1, m2, Lib.hid (by rw [HV1.out, F1.out]), Lib.hid (by rw [HV2.out, F2.out]), hbl⟩
          rw [List.length_take, List.length_take, Nat.min_eq_left hk1, Nat.min_eq_left hk2] at HP
          have HQ := Lib.hid HP
          clear HP m1 m2
          go_wp2
          rw [Exit.noGoto_ret]
          go_ret2
          exact HQ.out
      --END out
    · obtain ⟨j, rfl⟩ : ∃ j, k = j + 1 := ⟨k - 1, by omega⟩
      rw [show (((j + 1 : Nat) : Int) - 1) = (j : Int) by omega]
      obtain ⟨W, hW0, hW1, hW2, hW3, hW4, hW5⟩ := digit_setup (u := u) (v := v) (j := j) (k := m) hst.uw hvw HVL.out (by rw [hst.ul]; omega) hst.lt
      obtain ⟨uh, huh⟩ : ∃ uh, uh = u.getD (j + (m + 2)) 0 := ⟨_, rfl⟩
      obtain ⟨um, hum⟩ : ∃ um, um = u.getD (j + (m + 1)) 0 := ⟨_, rfl⟩
      obtain ⟨ue, hue⟩ : ∃ ue, ue = u.getD (j + m) 0 := ⟨_, rfl⟩
      rw [show j + (m + 2) - 1 = j + (m + 1) by omega, ← huh, ← hum, ← hue] at hW4 hW5
      have c1 := hst.ucell (i := j + (m + 2)) (by omega)
      have c2 := hst.ucell (i := j + (m + 1)) (by omega)
      have c3 := hst.ucell (i := j + m) (by omega)
      have l1 := hst.uw.getD (j + (m + 2))
      have l2 := hst.uw.getD (j + (m + 1))
      have l3 := hst.uw.getD (j + m)
      rw [← huh] at c1 l1
      rw [← hum] at c2 l2
      rw [← hue] at c3 l3
      obtain ⟨num, hnum⟩ : ∃ num, num = uh * 4294967296 + um := ⟨_, rfl⟩
      rw [← hnum] at hW4 hW5
      have hor := or_word uh um l1 l2
      rw [show (uh : Int) * 4294967296 + (um : Int) = (num : Int) by omega] at hor
      obtain ⟨dg, hdg⟩ : ∃ dg, dg = num / tp := ⟨_, rfl⟩
      obtain ⟨rs, hrs⟩ : ∃ rs, rs = num % tp := ⟨_, rfl⟩
      have e1 : (num : Int).tdiv (tp : Int) = (dg : Int) := by rw [hdg]; rfl
      have e2 : (num : Int).tmod (tp : Int) = (rs : Int) := by rw [hrs]; rfl
      have HNUM := Lib.hid hnum
      have HDG := Lib.hid hdg
      have HRS := Lib.hid hrs
      have HUH := Lib.hid huh
      have HUM := Lib.hid hum
      have HUE := Lib.hid hue
      have HW0 := Lib.hid hW0
      have HW1 := Lib.hid hW1
      have HW2 := Lib.hid hW2
      have HW3 := Lib.hid hW3
      have HW4 := Lib.hid hW4
      have HW5 := Lib.hid hW5
      have dgl : dg ≤ 8589934592 := by
        rw [hdg]
        exact Nat.le_trans (Nat.div_le_div (b := 18446744073709551615) (d := 2147483648) (by omega) htop2 (by decide)) (by decide)
      have rsl : rs < tp := by rw [hrs]; exact Nat.mod_lt _ (by omega)
      clear hnum hdg hrs huh hum hue hW0 hW1 hW2 hW3 hW4 hW5
      have q1 : IntKind.i64.wrap ((j : Int) + ((m : Int) + 2)) = (j : Int) + ((m : Int) + 2) := by rw [IntWalk.i64_in _ (by omega)]
      have q2 : IntKind.i64.wrap ((j : Int) + ((m : Int) + 2) - 1) = (j : Int) + ((m : Int) + 1) := by rw [IntWalk.i64_in _ (by omega)]; omega
      have q3 : ((j : Int) + ((m : Int) + 2)).toNat = j + (m + 2) := by omega
      have q4 : ((j : Int) + ((m : Int) + 1)).toNat = j + (m + 1) := by omega
      have q5 : (j : Int) + ((m : Int) + 2) < (U.length : Int) := by omega
      have q6 : (j : Int) + ((m : Int) + 1) < (U.length : Int) := by omega
      have q7 : (0 : Int) ≤ (j : Int) + ((m : Int) + 2) := by omega
      have q8 : (0 : Int) ≤ (j : Int) + ((m : Int) + 1) := by omega
      have q9 : IntKind.u64.wrap ((uh : Int) * 4294967296) = (uh : Int) * 4294967296 := IntWalk.u64_in _ (by omega)
      have qz : ((tp : Int) == 0) = false := by simp; omega
      go_wp2_with fail
      go_quiet (fail)
      have hst2 := hst.drewN nq
      generalize wr.drewN nq = w5 at hst2 ⊢
      clear hst c1 c2 c3
      go_wp2_with fail
      go_quiet (fail)
      have hst3 := hst2.drewN nq
      generalize w5.drewN nq = w6 at hst3 ⊢
      clear hst2 q2 q4 q6 q8
      have c3 := hst3.ucell (i := j + m) (by omega)
      rw [← HUE.out] at c3
      obtain ⟨t1, t2, t3⟩ := div_top hvw HVL.out HTP.out HNX.out htop2
      have hV0 : 0 < val v := Nat.lt_of_lt_of_le (Nat.mul_pos (by decide) (pow_pos m)) t3
      have hEst : Est W (val v) num ue tp nx (4294967296 ^ m) (W / val v) := ⟨HW4.out, HW5.out, t1, t2, t3, num_lim HW4.out HW2.out t2 hnxl, hnxl, Nat.div_mul_le_self _ _, by rw [Nat.div_lt_iff_lt_mul hV0]; exact HW2.out, by omega⟩
      have hS0 := Srch.start hEst l3
      rw [← HDG.out, ← HRS.out] at hS0
      clear t1 t2 t3
      obtain ⟨q, hq⟩ : ∃ q, q = W / val v := ⟨_, rfl⟩
      rw [← hq] at hEst hS0
      have HQ := Lib.hid hq
      clear hq
      go_upto_block 2 with fail
      go_cut [17] (fun dv wx => ∃ d' : Nat, dv = .int .u64 (d' : Nat) ∧ d' < 4294967296 ∧ q ≤ d' ∧ Hid (d' * val v < W + val v) ∧ w6 = wx)
      case first =>
        --BEGIN first
        go_wp2_with fail
        go_loopw [17, 18] (fun dv rv wx => ∃ d1 r1 : Nat, dv = .int .u64 (d1 : Nat) ∧ rv = .int .u64 (r1 : Nat) ∧ d1 ≤ 8589934592 ∧ r1 < 4294967296 ∧ Srch num tp q d1 r1 ∧ w6 = wx) (fun dv _ _ => (intOf dv).toNat)
        case atStart => exact ⟨dg, rs, rfl, rfl, dgl, by omega, hS0, rfl⟩
        case round =>
          obtain ⟨d1, r1, rfl, rfl, hd1, hr1, hsr, rfl⟩ := hrel
          by_cases hA : 4294967296 ≤ d1
          · obtain ⟨hp, hs'⟩ := Srch.dec hEst hsr (.inl hA)
            rcases Nat.lt_or_ge (r1 + tp) 4294967296 with hR | hR
            · go_wp2
              go_roundw
              case rel => exact ⟨d1 - 1, r1 + tp, u64_of (by omega), u64_of (by omega), by omega, hR, hs', by first | rfl | trivial⟩
              case measure => simp [intOf] <;> omega
            · obtain ⟨f1, f2, f3⟩ := Srch.brk hEst hs' hR
              go_wp2_with fail
              go_meet
              exact ⟨d1 - 1, u64_of (by omega), f1, f2, Lib.hid f3, rfl⟩
          · have hor2 := or_word r1 ue hr1 l3
            obtain ⟨rr, hrr⟩ : ∃ rr, rr = r1 * 4294967296 + ue := ⟨_, rfl⟩
            rw [show (r1 : Int) * 4294967296 + (ue : Int) = (rr : Int) by omega] at hor2
            obtain ⟨pr, hpr⟩ : ∃ pr, pr = d1 * nx := ⟨_, rfl⟩
            have hprl := mul_lim (x := d1) (y := nx) (by omega) hnxl
            rw [← hpr] at hprl
            have hpi : (d1 : Int) * (nx : Int) = (pr : Int) := by rw [hpr, Int.natCast_mul]
            have hrl : rr ≤ 18446744073709551615 := by omega
            have c3b := c3
            rw [show j + m = j + (m + 2) - 2 by omega] at c3b
            have HRL := Lib.hid hrl
            have HPL := Lib.hid hprl
            by_cases hB : rr < pr
            · obtain ⟨hp, hs'⟩ := Srch.dec hEst hsr (.inr (by rw [← hrr, ← hpr]; exact hB))
              clear hrr hpr
              rcases Nat.lt_or_ge (r1 + tp) 4294967296 with hR | hR
              · go_wp2
                go_roundw
                case rel => exact ⟨d1 - 1, r1 + tp, u64_of (by omega), u64_of (by omega), by omega, hR, hs', by first | rfl | trivial⟩
                case measure => simp [intOf] <;> omega
              · obtain ⟨f1, f2, f3⟩ := Srch.brk hEst hs' hR
                go_wp2_with fail
                go_meet
                exact ⟨d1 - 1, u64_of (by omega), f1, f2, Lib.hid f3, rfl⟩
            · obtain ⟨f1, f2, f3⟩ := Srch.fin hEst hsr (by omega) (by rw [← hrr, ← hpr]; omega)
              clear hrr hpr
              go_wp2_with fail
              go_meet
              exact ⟨d1, rfl, f1, f2, Lib.hid f3, rfl⟩
        --END first
      case rest =>
        obtain ⟨d', rfl, hd1, hd2, hd3, rfl⟩ := hcut
        --BEGIN rest
        clear hor e1 e2 hEst hS0 c3 HDG HRS HNUM q9 qz dgl rsl
        have e5 : (gw : Nat) < w6.heap.size := hst3.oo.lt
        have oc : w6.cell? ⟨gw, j, none⟩ = some (.int .u32 (out.getD j 0 : Nat)) := by
          have hl := hst3.ol
          rw [hst3.oo.cell, List.getElem?_map, List.getElem?_eq_getElem (by omega), getD_lt (by omega)]; rfl
        have of := hst3.oo.frozen j
        go_wp2_with fail
        have hu7 : Own (w6.setCell ⟨gw, j, none⟩ (.int .u32 (d' : Nat))) gu 91 (u.map w32) := hst3.uo.far (p := ⟨gw, j, none⟩) (fun e => hblk.2.2.1 e) _
        have ho7 : Own (w6.setCell ⟨gw, j, none⟩ (.int .u32 (d' : Nat))) gw 91 ((out.set j d').map w32) := by
          have := hst3.oo.set_ j (w32 d')
          rw [← List.map_set] at this
          exact this
        have hv7 : ∀ i, i < m + 2 → (w6.setCell ⟨gw, j, none⟩ (.int .u32 (d' : Nat))).cell? ⟨gv, i, none⟩ = some (.int .u32 (v.getD i 0 : Nat)) := fun i hi => by
          rw [cell_put _ _ (by intro e; injection e with e; exact hblk.2.1 e.symm)]
          exact hst3.vo i hi
        have hb7 : Below w.heap.size w (w6.setCell ⟨gw, j, none⟩ (.int .u32 (d' : Nat))) := hst3.bel.setCell (show w.heap.size ≤ gw by omega) _
        have hg7 : gv < (w6.setCell ⟨gw, j, none⟩ (.int .u32 (d' : Nat))).heap.size := by simpa [World.setCell] using hst3.gl
        generalize w6.setCell ⟨gw, j, none⟩ (.int .u32 (d' : Nat)) = w7 at hu7 ho7 hv7 hb7 hg7 ⊢
        rw [show j + (m + 2) + 1 - j = m + 3 by omega]
        refine (take_any (m := m + 3) (n := m + 2) hu7 (fun i hi => by rw [hv7 i (by rw [← HVL.out]; exact hi), getD_lt hi]) (fun e => hblk.1 e.symm) hg7 hst3.uw hvw HVL.out rfl (by rw [hst3.ul]; omega) (by rw [hst3.ul]; omega) hd1).mono ?_
        rintro e w8 ⟨ds, bw, rfl, hbw, hds, hdl, hde, hu8, hg8⟩
        have ho8 := ho7.grown hg8 (by intro e; injection e with e; exact hblk.2.2.1 e.symm)
        have hv8 : ∀ i, i < m + 2 → w8.cell? ⟨gv, i, none⟩ = some (.int .u32 (v.getD i 0 : Nat)) := fun i hi => by
          rw [World.cell?_of_block (hg8.block gv hg7 (by intro e; injection e with e; exact hblk.1 e.symm))]
          exact hv7 i hi
        have hb8 := below_grown hb7 hg8 hblk.2.2.2.1 hb7.size
        have hg8' : gv < w8.heap.size := Nat.lt_of_lt_of_le hg7 hg8.size
        clear hu7 ho7 hv7 hb7 hg7 oc of e5
        rcases (by omega : bw = 0 ∨ bw = 1) with rfl | rfl
        · have hE : val ds + d' * val v = W := by rw [hde.out, HW0.out, Nat.zero_mul, Nat.add_zero]
          have hV0 : 0 < val v := by
            rcases Nat.eq_zero_or_pos (val v) with h | h
            · have := hst3.lt; omega
            · exact h
          have hdq : d' = q := by
            have h1 : d' ≤ W / val v := (Nat.le_div_iff_mul_le hV0).2 (by omega)
            rw [← HQ.out] at h1
            omega
          have hlt : val ds < val v := by
            have h1 := Nat.mod_lt W hV0
            have h2 := Nat.div_add_mod W (val v)
            rw [← HQ.out, ← hdq, Nat.mul_comm] at h2
            omega
          have hN := hst3.next hk hdl.out hds hd1 HW0.out hE hlt HW3.out hu8 ho8 hv8 hg8' hb8
          have HNX2 := Lib.hid hN
          clear hN hdq hE hst3 hst1 hu8 ho8 hv8
          go_wp2_with fail
          go_roundw
          case rel => exact ⟨j, _, _, by omega, by go_num, HNX2.out⟩
          case measure => simp [intOf] <;> omega
        · skip
          --BEGIN back
          have hV0 : 0 < val v := by
            rcases Nat.eq_zero_or_pos (val v) with h | h
            · have := hst3.lt; omega
            · exact h
          have hdlt : val ds < 4294967296 ^ (m + 3) := by rw [← hdl.out]; exact val_lt hds
          have hE : val ds + d' * val v = W + 4294967296 ^ (m + 3) := by rw [hde.out, HW0.out, Nat.one_mul]
          have hdq : d' = q + 1 := by
            have h1 : q < d' := by
              have : q * val v < d' * val v := by
                have h2 := Nat.div_mul_le_self W (val v)
                rw [← HQ.out] at h2
                omega
              exact Nat.lt_of_mul_lt_mul_right this
            have h3 : (d' - 1) * val v < W := by
              have h4 := hd3.out
              obtain ⟨z, rfl⟩ : ∃ z, d' = z + 1 := ⟨d' - 1, by omega⟩
              rw [Nat.add_sub_cancel]
              rw [Nat.add_mul, Nat.one_mul] at h4
              omega
            have h5 : d' - 1 ≤ W / val v := (Nat.le_div_iff_mul_le hV0).2 (by omega)
            rw [← HQ.out] at h5
            omega
          have oc8 : w8.cell? ⟨gw, j, none⟩ = some (.int .u32 (d' : Nat)) := by
            have hl := hst3.ol
            rw [ho8.cell, List.getElem?_map, List.getElem?_set_self (by omega)]; rfl
          have of8 := ho8.frozen j
          have hd0 : 1 ≤ d' := by omega
          have HDQ := Lib.hid hdq
          have HEE := Lib.hid hE
          have HDL := Lib.hid hdlt
          clear hdq hE hdlt
          go_wp2_with fail
          refine (carrier_any _).mono ?_
          rintro e w9 ⟨rfl, rfl⟩
          go_wp2_with fail
          have hulen := hst3.ul
          have hb0 : BackSt w gu gv gw w8.heap.size m j (u.take j ++ ds ++ u.drop (j + (m + 3))) v ds (out.set j q) 0 [] 0 ((w8.setCell ⟨gw, j, none⟩ (.int .u32 ((d' : Int) - 1))).alloc (.cells #[.int .u64 0] 89)) := by
            refine ⟨rfl, Ws.nil, by omega, by simp [val], ?_, ?_, by simpa using Own.new (w8.setCell ⟨gw, j, none⟩ (.int .u32 ((d' : Int) - 1))) 89 [.int .u64 0], fun i hi => ?_, by simp [World.setCell]; omega, (hb8.setCell hblk.2.2.2.2.2 _).alloc (by have := hb8.size; simpa [World.setCell] using this) _⟩
            · simp only [Nat.add_zero, List.append_nil, List.take_append_drop]
              exact (hu8.far (p := ⟨gw, j, none⟩) (fun e => hblk.2.2.1 e) _).alloc _
            · have h1 := ho8.set_ j (w32 q)
              rw [← List.map_set, List.set_set] at h1
              have h2 : Value.int .u32 ((d' : Int) - 1) = w32 q := w32_of (by have := HDQ.out; omega)
              rw [h2]
              exact h1.alloc _
            · rw [World.cell?_alloc_lt _ _ ⟨gv, i, none⟩ (by simp [World.setCell]; omega), cell_put _ _ (by intro e; injection e with e; exact hblk.2.1 e.symm)]
              exact hv8 i hi
          have hgc : gu < w8.heap.size ∧ gv < w8.heap.size ∧ gw < w8.heap.size := ⟨hu8.lt, hg8', ho8.lt⟩
          have hgb : w.heap.size ≤ w8.heap.size := hb8.size
          generalize (w8.setCell ⟨gw, j, none⟩ (.int .u32 ((d' : Int) - 1))).alloc (.cells #[.int .u64 0] 89) = w10 at hb0 ⊢
          obtain ⟨gc, hgc0⟩ : ∃ gc, gc = w8.heap.size := ⟨_, rfl⟩
          rw [← hgc0] at hb0 hgc hgb ⊢
          have hu1l : (u.take j ++ ds ++ u.drop (j + (m + 3))).length = m + 3 + x := by rw [win_len hdl.out (by omega), hulen]
          have hwg : ∀ k, k < m + 3 → (u.take j ++ ds ++ u.drop (j + (m + 3))).getD (j + k) 0 = ds.getD k 0 := fun k hk => win_get hdl.out (by omega) hk
          obtain ⟨u1, hu1⟩ : ∃ u1, u1 = u.take j ++ ds ++ u.drop (j + (m + 3)) := ⟨_, rfl⟩
          rw [← hu1] at hb0 hu1l
          have HU1 := Lib.hid hu1
          have HWG := Lib.hid hwg
          have HU1L := Lib.hid hu1l
          clear hu1 hwg hu1l hu8 ho8 hv8 hb8 hg8' hg8 oc8 of8 hgc0 hulen hst1
          go_loopw [170] (fun kv wx => ∃ (k : Nat) (es : List Nat) (cy : Nat), k ≤ m + 3 ∧ kv = .int .i64 (k : Nat) ∧ BackSt w gu gv gw gc m j u1 v ds (out.set j q) k es cy wx) (fun kv _ => m + 3 - (intOf kv).toNat)
          case atStart => exact ⟨0, [], 0, by omega, rfl, hb0⟩
          case round =>
            obtain ⟨k, es, cy, hkm, rfl, hbs⟩ := hrel
            by_cases hlt : k < m + 3
            · have hjk : j + k < u1.length := by rw [HU1L.out]; omega
              have hcy := hbs.cy1
              have cu : wr.cell? ⟨gu, j + k, none⟩ = some (.int .u32 (u1.getD (j + k) 0 : Nat)) := by rw [hbs.uo.cell, win_cell hbs.len hjk]
              rw [HU1.out, HWG.out k hlt] at cu
              have fu := hbs.uo.frozen (j + k)
              have ld := hds.getD k
              have lv := hvw.getD k
              obtain ⟨de, hde0⟩ : ∃ de, de = ds.getD k 0 := ⟨_, rfl⟩
              obtain ⟨ve, hve0⟩ : ∃ ve, ve = v.getD k 0 := ⟨_, rfl⟩
              rw [← hde0] at cu ld
              rw [← hve0] at lv
              have HDE := Lib.hid hde0
              have HVE := Lib.hid hve0
              rcases Nat.lt_or_ge k (m + 2) with hkn | hkn
              · have cv := hbs.vo k hkn
                rw [← hve0] at cv
                clear hde0 hve0
                go_wp2_with fail
                refine (carry_any _ _ _ _ hbs.car (by omega) (by omega) (by omega)).mono ?_
                rintro e w11 ⟨rfl, hcar, hg11⟩
                obtain ⟨k1, k2⟩ := hbs.cell hjk (by omega) hg11
                have hnx := hbs.step hjk hds hvw (by omega) hblk.2.2.1 (by omega) (by omega) (fun e => hblk.1 e.symm) hblk.2.2.2.1 hgb (by rw [← HDE.out, ← HVE.out]; omega) hcar hg11
                have HN2 := Lib.hid hnx
                clear hnx hcar
                go_wp2
                go_roundw
                case rel => exact ⟨k + 1, _, _, by omega, by go_num, HN2.out⟩
                case measure => simp [intOf] <;> omega
              · have hv0 : ve = 0 := by rw [hve0]; exact getD_ge (by rw [HVL.out]; exact hkn)
                have HV0 := Lib.hid hv0
                clear hde0 hve0 hv0
                go_wp2_with fail
                refine (carry_any _ _ _ _ hbs.car (by omega) (by omega) (by omega)).mono ?_
                rintro e w11 ⟨rfl, hcar, hg11⟩
                obtain ⟨k1, k2⟩ := hbs.cell hjk (by omega) hg11
                have hnx := hbs.step hjk hds hvw (by omega) hblk.2.2.1 (by omega) (by omega) (fun e => hblk.1 e.symm) hblk.2.2.2.1 hgb (by rw [← HDE.out, ← HVE.out, HV0.out]; omega) hcar hg11
                have HN2 := Lib.hid hnx
                clear hnx hcar
                go_wp2
                go_roundw
                case rel => exact ⟨k + 1, _, _, by omega, by go_num, HN2.out⟩
                case measure => simp [intOf] <;> omega
            · obtain rfl : k = m + 3 := by omega
              have h1 := hbs.eq
              rw [List.take_of_length_le (by rw [hdl.out]; omega : ds.length ≤ m + 3), List.take_of_length_le (by rw [HVL.out]; omega : v.length ≤ m + 3)] at h1
              have h2 := val_lt hbs.ws
              rw [hbs.len] at h2
              have h3 := HEE.out
              have h4 := HDQ.out
              have hW : q * val v ≤ W := by have := Nat.div_mul_le_self W (val v); rwa [← HQ.out] at this
              have hWl : W < q * val v + val v := by
                have a1 := Nat.mod_lt W hV0
                have a2 := Nat.div_add_mod W (val v)
                rw [← HQ.out, Nat.mul_comm] at a2
                omega
              rw [h4, Nat.add_mul, Nat.one_mul] at h3
              have hcy1 : cy = 1 := by
                have := hbs.cy1
                rcases (by omega : cy = 0 ∨ cy = 1) with h | h
                · subst h; rw [Nat.zero_mul] at h1; omega
                · exact h
              rw [hcy1, Nat.one_mul] at h1
              have hes : val es + q * val v = W := by omega
              have hN := hst3.next hk hbs.len hbs.ws (by omega) HW0.out hes (by omega) HW3.out (by have := hbs.uo; rw [HU1.out, win_take (by rw [hst3.ul]; omega), ← List.drop_drop, win_drop (by rw [hst3.ul]; omega), List.drop_append_of_le_length (by rw [hdl.out]; omega), List.drop_of_length_le (by rw [hdl.out]; omega), List.nil_append] at this; exact this) hbs.oo hbs.vo hbs.gl hbs.bel
              have HN2 := Lib.hid hN
              clear hN h1 h2 h3 h4 hes hcy1 hbs
              go_wp2_with fail
              go_roundw
              case rel => exact ⟨j, _, _, by omega, by go_num, HN2.out⟩
              case measure => simp [intOf] <;> omega
          --END back
        --END rest
end Go.Proofs.YtfbbnphpapmpcaaGreatDoor
