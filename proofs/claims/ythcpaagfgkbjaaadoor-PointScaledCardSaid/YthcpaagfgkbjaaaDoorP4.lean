/-
  Contracts of package point: cmp.Or, Compare.
-/
import Derived.Test.YthcpaagfgkbjaaaDoorP2
namespace Go.Proofs.YthcpaagfgkbjaaaDoor
open Go.RowKit Mag

def orI (a b : Int) : Int := if a = 0 then b else a
set_option maxRecDepth 100000 in
theorem or_int {a b : Int} {g : Nat} {t : TypeId} {w : World} (hO : Own w g t [.int .i64 a, .int .i64 b]) : Calls Tryd.prog 41 #[.slice (some ⟨g, 0, none⟩) 2 2] w (RetInt w (orI a b)) := by
  go_enter Tryd.func41, Tryd.ntmps41
  have e0 := hO.c0
  have e1 := hO.c1
  go_wp2_with fail
  go_loopw [8] (fun i wr => ∃ k : Nat, k ≤ 2 ∧ i = .int .i64 k ∧ Hid ((0 < k → a = 0) ∧ (1 < k → b = 0)) ∧ Below w.heap.size w wr) (fun i _ => 2 - (intOf i).toNat)
  case atStart => exact ⟨0, by omega, rfl, Lib.hid ⟨by omega, by omega⟩, Below.refl _ _⟩
  case round =>
    obtain ⟨k, hk, rfl, hg, hb⟩ := hrel
    have hO1 := hO.on hb
    have c0 := hO1.c0
    have c1 := hO1.c1
    clear e0 e1
    rcases (by omega : k = 0 ∨ k = 1 ∨ k = 2) with rfl | rfl | rfl
    · by_cases hc : a = 0
      · have hd : (a != 0) = false := by simp [hc]
        have HC := Lib.hid hc
        clear hc
        go_wp2_with fail
        go_roundw
        case rel => exact ⟨1, by omega, rfl, Lib.hid ⟨by intro _; exact HC.out, by omega⟩, hb⟩
        case measure => simp [intOf]
      · have hd : (a != 0) = true := by simp [hc]
        have hv : orI a b = a := if_neg hc
        have HV := Lib.hid hv
        clear hc hv
        go_wp2
        go_returns
        exact ⟨by rw [HV.out]; simp, hb⟩
    · by_cases hc : b = 0
      · have hd : (b != 0) = false := by simp [hc]
        have HC := Lib.hid hc
        clear hc
        go_wp2_with fail
        go_roundw
        case rel => exact ⟨2, by omega, rfl, Lib.hid ⟨by intro _; exact hg.out.1 (by omega), by intro _; exact HC.out⟩, hb⟩
        case measure => simp [intOf]
      · have hd : (b != 0) = true := by simp [hc]
        have hv : orI a b = b := if_pos (hg.out.1 (by omega))
        have HV := Lib.hid hv
        clear hc hv
        go_wp2
        go_returns
        exact ⟨by rw [HV.out]; simp, hb⟩
    · have hv : orI a b = 0 := by rw [orI, if_pos (hg.out.1 (by omega))]; exact hg.out.2 (by omega)
      have HV := Lib.hid hv
      clear hv
      go_wp2
      go_returns
      exact ⟨by rw [HV.out]; simp, hb⟩

/-- The order of two points. -/
def cmpPt (p q r s p' q' r' s' : Int) : Int := orI (cmpI (p * q') (p' * q)) (cmpI (r * s') (r' * s))
theorem Own.newPt (w : World) (t : TypeId) (a : PV) : Own (w.alloc (.cells #[.bool a.x.p.neg, .slice a.x.p.A a.x.p.n a.x.p.c, .bool a.x.l.neg, .slice a.x.l.A a.x.l.n a.x.l.c, .bool a.y.p.neg, .slice a.y.p.A a.y.p.n a.y.p.c, .bool a.y.l.neg, .slice a.y.l.A a.y.l.n a.y.l.c] t)) w.heap.size t [.bool a.x.p.neg, .slice a.x.p.A a.x.p.n a.x.p.c, .bool a.x.l.neg, .slice a.x.l.A a.x.l.n a.x.l.c, .bool a.y.p.neg, .slice a.y.p.A a.y.p.n a.y.p.c, .bool a.y.l.neg, .slice a.y.l.A a.y.l.n a.y.l.c] := Own.new w t [.bool a.x.p.neg, .slice a.x.p.A a.x.p.n a.x.p.c, .bool a.x.l.neg, .slice a.x.l.A a.x.l.n a.x.l.c, .bool a.y.p.neg, .slice a.y.p.A a.y.p.n a.y.p.c, .bool a.y.l.neg, .slice a.y.l.A a.y.l.n a.y.l.c]
set_option maxRecDepth 100000 in
set_option maxHeartbeats 1600000 in
theorem PCompare_any {a b : PV} {p q r s p' q' r' s' : Int} {w : World} (ha : a.is w p q r s) (hb : b.is w p' q' r' s') : Calls Tryd.prog 13 #[.agg #[.bool a.x.p.neg, .slice a.x.p.A a.x.p.n a.x.p.c, .bool a.x.l.neg, .slice a.x.l.A a.x.l.n a.x.l.c, .bool a.y.p.neg, .slice a.y.p.A a.y.p.n a.y.p.c, .bool a.y.l.neg, .slice a.y.l.A a.y.l.n a.y.l.c], .agg #[.bool b.x.p.neg, .slice b.x.p.A b.x.p.n b.x.p.c, .bool b.x.l.neg, .slice b.x.l.A b.x.l.n b.x.l.c, .bool b.y.p.neg, .slice b.y.p.A b.y.p.n b.y.p.c, .bool b.y.l.neg, .slice b.y.l.A b.y.l.n b.y.l.c]] w (RetInt w (cmpPt p q r s p' q' r' s')) := by
  go_enter Tryd.func13, Tryd.ntmps13
  go_upto_region 1 with fail
  have hS1 := (Own.newPt w 31 a).alloc (.cells #[.bool b.x.p.neg, .slice b.x.p.A b.x.p.n b.x.p.c, .bool b.x.l.neg, .slice b.x.l.A b.x.l.n b.x.l.c, .bool b.y.p.neg, .slice b.y.p.A b.y.p.n b.y.p.c, .bool b.y.l.neg, .slice b.y.l.A b.y.l.n b.y.l.c] 31)
  have hS2 := Own.newPt (w.alloc (.cells #[.bool a.x.p.neg, .slice a.x.p.A a.x.p.n a.x.p.c, .bool a.x.l.neg, .slice a.x.l.A a.x.l.n a.x.l.c, .bool a.y.p.neg, .slice a.y.p.A a.y.p.n a.y.p.c, .bool a.y.l.neg, .slice a.y.l.A a.y.l.n a.y.l.c] 31)) 31 b
  have hB : Below w.heap.size w ((w.alloc (.cells #[.bool a.x.p.neg, .slice a.x.p.A a.x.p.n a.x.p.c, .bool a.x.l.neg, .slice a.x.l.A a.x.l.n a.x.l.c, .bool a.y.p.neg, .slice a.y.p.A a.y.p.n a.y.p.c, .bool a.y.l.neg, .slice a.y.l.A a.y.l.n a.y.l.c] 31)).alloc (.cells #[.bool b.x.p.neg, .slice b.x.p.A b.x.p.n b.x.p.c, .bool b.x.l.neg, .slice b.x.l.A b.x.l.n b.x.l.c, .bool b.y.p.neg, .slice b.y.p.A b.y.p.n b.y.p.c, .bool b.y.l.neg, .slice b.y.l.A b.y.l.n b.y.l.c] 31)) := by go_grown
  have hgs : (w.alloc (.cells #[.bool a.x.p.neg, .slice a.x.p.A a.x.p.n a.x.p.c, .bool a.x.l.neg, .slice a.x.l.A a.x.l.n a.x.l.c, .bool a.y.p.neg, .slice a.y.p.A a.y.p.n a.y.p.c, .bool a.y.l.neg, .slice a.y.l.A a.y.l.n a.y.l.c] 31)).heap.size = w.heap.size + 1 := by simp
  rw [hgs] at hS2
  clear hgs
  generalize (w.alloc (.cells #[.bool a.x.p.neg, .slice a.x.p.A a.x.p.n a.x.p.c, .bool a.x.l.neg, .slice a.x.l.A a.x.l.n a.x.l.c, .bool a.y.p.neg, .slice a.y.p.A a.y.p.n a.y.p.c, .bool a.y.l.neg, .slice a.y.l.A a.y.l.n a.y.l.c] 31)).alloc (.cells #[.bool b.x.p.neg, .slice b.x.p.A b.x.p.n b.x.p.c, .bool b.x.l.neg, .slice b.x.l.A b.x.l.n b.x.l.c, .bool b.y.p.neg, .slice b.y.p.A b.y.p.n b.y.p.c, .bool b.y.l.neg, .slice b.y.l.A b.y.l.n b.y.l.c] 31) = W at hS1 hS2 hB ⊢
  have haW := ha.on hB
  have hbW := hb.on hB
  obtain ⟨b1, hb1⟩ : ∃ b1, b1 = w.heap.size := ⟨_, rfl⟩
  obtain ⟨b2, hb2⟩ : ∃ b2, b2 = w.heap.size + 1 := ⟨_, rfl⟩
  rw [← hb2] at hS2 ⊢
  rw [← hb1] at hS1 ⊢
  clear hb1 hb2
  go_region_held3 (fun w' => w'.cell? ⟨b1, 0, none⟩ = some (.bool a.x.p.neg) ∧ w'.cell? ⟨b1, 1, none⟩ = some (.slice a.x.p.A a.x.p.n a.x.p.c) ∧ w'.cell? ⟨b1, 2, none⟩ = some (.bool a.x.l.neg) ∧ w'.cell? ⟨b1, 3, none⟩ = some (.slice a.x.l.A a.x.l.n a.x.l.c) ∧
      w'.cell? ⟨b1, 4, none⟩ = some (.bool a.y.p.neg) ∧ w'.cell? ⟨b1, 5, none⟩ = some (.slice a.y.p.A a.y.p.n a.y.p.c) ∧ w'.cell? ⟨b1, 6, none⟩ = some (.bool a.y.l.neg) ∧ w'.cell? ⟨b1, 7, none⟩ = some (.slice a.y.l.A a.y.l.n a.y.l.c) ∧
      w'.cell? ⟨b2, 0, none⟩ = some (.bool b.x.p.neg) ∧ w'.cell? ⟨b2, 1, none⟩ = some (.slice b.x.p.A b.x.p.n b.x.p.c) ∧ w'.cell? ⟨b2, 2, none⟩ = some (.bool b.x.l.neg) ∧ w'.cell? ⟨b2, 3, none⟩ = some (.slice b.x.l.A b.x.l.n b.x.l.c) ∧
      w'.cell? ⟨b2, 4, none⟩ = some (.bool b.y.p.neg) ∧ w'.cell? ⟨b2, 5, none⟩ = some (.slice b.y.p.A b.y.p.n b.y.p.c) ∧ w'.cell? ⟨b2, 6, none⟩ = some (.bool b.y.l.neg) ∧ w'.cell? ⟨b2, 7, none⟩ = some (.slice b.y.l.A b.y.l.n b.y.l.c))
    (first | with_reducible exact ⟨hS1.drew.c0, hS1.drew.c1, hS1.drew.c2, hS1.drew.c3, hS1.drew.c4, hS1.drew.c5, hS1.drew.c6, hS1.drew.c7, hS2.drew.c0, hS2.drew.c1, hS2.drew.c2, hS2.drew.c3, hS2.drew.c4, hS2.drew.c5, hS2.drew.c6, hS2.drew.c7⟩ | with_reducible exact ⟨hT1.c0, hT1.c1, hT1.c2, hT1.c3, hT1.c4, hT1.c5, hT1.c6, hT1.c7, hT2.c0, hT2.c1, hT2.c2, hT2.c3, hT2.c4, hT2.c5, hT2.c6, hT2.c7⟩ | with_reducible exact ⟨hU1.c0, hU1.c1, hU1.c2, hU1.c3, hU1.c4, hU1.c5, hU1.c6, hU1.c7, hU2.c0, hU2.c1, hU2.c2, hU2.c3, hU2.c4, hU2.c5, hU2.c6, hU2.c7⟩ | with_reducible exact ⟨hV1.c0, hV1.c1, hV1.c2, hV1.c3, hV1.c4, hV1.c5, hV1.c6, hV1.c7, hV2.c0, hV2.c1, hV2.c2, hV2.c3, hV2.c4, hV2.c5, hV2.c6, hV2.c7⟩ | with_reducible exact ⟨hX1.c0, hX1.c1, hX1.c2, hX1.c3, hX1.c4, hX1.c5, hX1.c6, hX1.c7, hX2.c0, hX2.c1, hX2.c2, hX2.c3, hX2.c4, hX2.c5, hX2.c6, hX2.c7⟩)
    (first
      | (go_at_call 18; (with_reducible refine (Compare_frac haW.x.drew hbW.x.drew).mono ?_); rintro e w1 ⟨rfl, k1'⟩; have k1 := Below.of_drew k1'; have hT1 := hS1.on k1; have hT2 := hS2.on k1; have hB1 := Below.call hB k1; have ha1 := haW.on k1; have hb1 := hbW.on k1; generalize hz : cmpI (p * q') (p' * q) = z1; have HZ1 := Lib.hid hz; clear hz)
      | (go_at_call 18; (with_reducible refine (Compare_frac ha1.y hb1.y).mono ?_); rintro e w2 ⟨rfl, k2⟩; have hU1 := hT1.on k2; have hU2 := hT2.on k2; have hB2 := Below.call hB1 k2; generalize hz : cmpI (r * s') (r' * s) = z2; have HZ2 := Lib.hid hz; clear hz; have hN := Own.new2 w2 3 (.int .i64 z1) (.int .i64 z2); have k4 := below_new w2 (.cells #[.int .i64 z1, .int .i64 z2] 3); have hV1 := hU1.alloc (.cells #[.int .i64 z1, .int .i64 z2] 3); have hV2 := hU2.alloc (.cells #[.int .i64 z1, .int .i64 z2] 3))
      | (go_at_call 41; (with_reducible refine (or_int hN).mono ?_); rintro e w3 ⟨rfl, k3⟩; have hX1 := hV1.on k3; have hX2 := hV2.on k3; have hB3 := Below.call (Below.call hB2 k4) k3))
  have HV : Hid (cmpPt p q r s p' q' r' s' = orI z1 z2) := Lib.hid (by rw [cmpPt, HZ1.out, HZ2.out])
  clear hX1 hX2 hV1 hV2
  go_wp2
  go_returns
  exact ⟨by rw [HV.out]; simp, hB3⟩
end Go.Proofs.YthcpaagfgkbjaaaDoor
