/-
  Contracts of package wide: Div by 0, Gcd.
-/
import Derived.Test.YthafhbogpfggjaaGreatDoorW11
namespace Go.Proofs.YthafhbogpfggjaaGreatDoor
open Go.RowKit Mag

set_option maxRecDepth 100000 in
set_option maxHeartbeats 400000 in
theorem Div_zero {n1 n2 : Bool} {A B : Option Addr} {k c d : Nat} {w : World} :
    Calls Tryz.prog 46 #[.agg #[.bool n1, .slice A k c], .agg #[.bool n2, .slice B 0 d]] w (DivErr w 0 0 1) := by
  go_enter Tryz.func46, Tryz.ntmps46
  go_wp2
  go_returns
  exact ⟨_, _, _, _, _, _, _, _, rfl, by go_grown, WI.zero _, WI.zero _⟩

theorem sgn_abs (b : Bool) (m : Nat) : (sgn b m).natAbs = m := by unfold sgn; cases b <;> simp
set_option maxRecDepth 100000 in
set_option maxHeartbeats 1600000 in
theorem Gcd_any {n1 n2 : Bool} {A B : Option Addr} {k m c d : Nat} {x y : Int} {w : World} (hx : WI w n1 A k c x) (hy : WI w n2 B m d y) :
    Calls Tryz.prog 57 #[.agg #[.bool n1, .slice A k c], .agg #[.bool n2, .slice B m d]] w (IntPost w (Int.gcd x y : Nat)) := by
  obtain ⟨a, rfl, h5, ha, hna, rfl⟩ := hx.open_
  obtain ⟨b, rfl, h6, hb, hnb, rfl⟩ := hy.open_
  clear hx hy
  obtain ⟨gg, hgg⟩ : ∃ gg, gg = Nat.gcd (val a) (val b) := ⟨_, rfl⟩
  have hg : Int.gcd (sgn n1 (val a)) (sgn n2 (val b)) = gg := by rw [Int.gcd, sgn_abs, sgn_abs, hgg]
  rw [hg]
  have HGG := Lib.hid hgg
  have hat := lt_top ha.ws h5
  clear hg hgg
  go_enter Tryz.func57, Tryz.ntmps57
  go_wp2_with fail
  have hB := Box3.mk_ w (.bool n1) (.slice A a.length c) (.bool n2) (.slice B b.length d) (.bool false) (.slice none 0 0) 29 29 29
  generalize (((w.alloc (.cells #[.bool n1, .slice A a.length c] 29)).alloc (.cells #[.bool n2, .slice B b.length d] 29)).alloc (.cells #[.bool false, .slice none 0 0] 29)) = W at hB ⊢
  have ha' := ha.on hB.bel
  have hb' := hb.on hB.bel
  have x1 := hB.x1
  have y1 := hB.y1
  go_quiet (fail)
  have hB' := hB.drewN nq
  have ha2 := ha'.drewN nq
  have hb2 := hb'.drewN nq
  clear x1 y1 hB ha' hb'
  generalize W.drewN nq = V at hB' ha2 hb2 ⊢
  go_wp2_with fail
  go_loopg [5, 6] (val b) (fun n s5 s6 wr => ∃ P cp lp Q cq lq, s5 = .slice P (List.length lp) cp ∧ s6 = .slice Q (List.length lq) cq ∧ MagIs wr P lp cp ∧ MagIs wr Q lq cq ∧ Hid (Nat.gcd (val lp) (val lq) = gg) ∧ Hid (val lq = n) ∧ lp.length ≤ 512 ∧ lq.length ≤ 512 ∧ Box3 w wr (.bool n1) (.slice A a.length c) (.bool n2) (.slice B b.length d) (.bool false) (.slice none 0 0))
  case atStart => exact ⟨A, c, a, B, d, b, rfl, rfl, ha2, hb2, Lib.hid HGG.out.symm, Lib.hid rfl, h5, h6, hB'⟩
  case round =>
    obtain ⟨P, cp, lp, Q, cq, lq, rfl, rfl, hp, hq, hg, hn, hp5, hq5, hbx⟩ := hrel
    rcases Nat.eq_zero_or_pos lq.length with h0 | h0
    · obtain rfl : lq = [] := List.eq_nil_of_length_eq_zero h0
      have hgp : val lp = gg := by rw [← hg.out]; simp [val]
      have HGP := Lib.hid hgp
      clear hgp h0
      simp only [List.length_nil]
      go_wp2_with fail
      refine (hp.mg.signed (lt_top hp.ws hp5) false).mono ?_
      rintro e w1 ⟨ng, B3, k3, c3, rfl, hb1, hwi⟩
      have hwg : WI w1 ng B3 k3 c3 (gg : Nat) := by rw [← HGP.out]; exact hwi
      have hB1 := hbx.on hb1
      have z0 := hB1.z0
      have z1 := hB1.z1
      have f0 := hB1.fz 0
      have f1 := hB1.fz 1
      have hz : w.heap.size + 1 + 1 < w1.heap.size := hB1.sz
      have hB2 := (hB1.put (.bool ng) (.slice B3 k3 c3)).on ((Below.refl _ _).alloc (Nat.le_refl _) (.cells #[.bool ng, .slice B3 k3 c3] 29))
      have hwi2 := ((hwg.put z0 (fun n => by simp) (.bool ng)).put (p := ⟨w.heap.size + 1 + 1, 1, none⟩) (v := .slice none 0 0) (by simp [go_sem, z1]) (fun n => by simp) (.slice B3 k3 c3)).on ((Below.refl _ _).alloc (Nat.le_refl _) (.cells #[.bool ng, .slice B3 k3 c3] 29))
      have HP : IntPost w (gg : Nat) (.returned (.agg #[.bool ng, .slice B3 k3 c3])) _ := ⟨_, _, _, _, rfl, hB2.bel, hwi2⟩
      have HQ := Lib.hid HP
      have q0 := hB2.z0
      have q1 := hB2.z1
      clear HP hB2 hwi2 hwg hwi
      go_wp2
      exact bodyPost_ret (v := .agg #[.bool ng, .slice B3 k3 c3]) (by simp [results, Tryz.results57, go_sem, q0, q1]) rfl HQ.out
    · have hlq : lq ≠ [] := by intro e; subst e; simp at h0
      go_wp2_with fail
      refine (divide_any hp hq hlq (by omega)).mono ?_
      rintro e w1 ⟨A1, c1, A2, c2, q, r, rfl, mq, mr, hdq, hdr, hb1⟩
      have hlt : val r < val lq := by rw [hdr.out]; exact Nat.mod_lt _ (hq.nz.pos hlq)
      have hg2 : Nat.gcd (val lq) (val r) = gg := by rw [← hg.out, hdr.out, Nat.gcd_comm (val lp), Nat.gcd_rec (val lq) (val lp), Nat.gcd_comm]
      have hrl : r.length ≤ 512 := by
        rcases Nat.lt_or_ge lq.length r.length with h | h
        · have := lt_of_length hq.ws mr.nz h; omega
        · omega
      have HG2 := Lib.hid hg2
      have hB1 := hbx.on hb1
      have hq1 := hq.on hb1
      clear hg2
      go_wp2_with fail
      go_roundg (val r)
      case measure => rw [← hn.out]; exact hlt
      case rel => exact ⟨Q, cq, lq, A2, c2, r, rfl, rfl, hq1, mr, HG2, Lib.hid rfl, hq5, hrl, hB1⟩
end Go.Proofs.YthafhbogpfggjaaGreatDoor
