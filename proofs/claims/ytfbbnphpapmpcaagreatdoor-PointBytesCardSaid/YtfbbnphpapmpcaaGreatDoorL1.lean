/-
  Chapter 05: lives.
-/
import Derived.Test.YtfbbnphpapmpcaaGreatDoorP9
import Derived.Test.YtfbbnphpapmpcaaGreatDoorP7
import Derived.Test.YtfbbnphpapmpcaaGreatDoorR6
namespace Go.Proofs.YtfbbnphpapmpcaaGreatDoor
open Go.RowKit Mag

theorem lt_top_small {z : Int} (h : z.natAbs < 18446744073709551616) : z.natAbs < top := by
  have h1 := two_top (m := z.natAbs) (by omega)
  rw [two_val] at h1
  exact h1
theorem mid01 : midOK 0 1 1 1 := ⟨⟨lt_top_small (by decide +kernel), lt_top_small (by decide +kernel), lt_top_small (by decide +kernel), lt_top_small (by decide +kernel)⟩, lt_top_small (by decide +kernel), lt_top_small (by decide +kernel)⟩
theorem mid03 : midOK 0 1 3 1 := ⟨⟨lt_top_small (by decide +kernel), lt_top_small (by decide +kernel), lt_top_small (by decide +kernel), lt_top_small (by decide +kernel)⟩, lt_top_small (by decide +kernel), lt_top_small (by decide +kernel)⟩
set_option maxRecDepth 100000 in
set_option maxHeartbeats 1600000 in
theorem lives_any (w : World) (ht : Tab w) : Calls Tryz.prog 11 #[] w (RetB w true) := by
  go_enter Tryz.func11, Tryz.ntmps11
  go_wp2_with fail
  refine (POf_any 0 0 _ (by omega) (by omega) (by omega) (by omega)).mono ?_
  rintro e w1 ⟨a, rfl, k1, ha⟩
  go_wp2_with fail
  refine (POf_any 1 3 _ (by omega) (by omega) (by omega) (by omega)).mono ?_
  rintro e w2 ⟨b, rfl, k2, hb⟩
  have hB := Below.call k1 k2
  go_wp2_with fail
  refine (PMid_ok (ha.on k2) hb (Lib.hid mid01) (Lib.hid mid03)).mono ?_
  rintro e w3 ⟨m, rfl, k3, hm⟩
  have hB := Below.call hB k3
  have hm2 : m.is w3 1 2 3 2 := by
    have e1 : midP 0 1 1 1 = 1 := by decide +kernel
    have e2 : midQ 0 1 1 1 = 2 := by decide +kernel
    have e3 : midP 0 1 3 1 = 3 := by decide +kernel
    have e4 : midQ 0 1 3 1 = 2 := by decide +kernel
    rw [e1, e2, e3, e4] at hm
    exact hm
  clear hm
  go_upto_region 2 with fail
  have k4 := below_new w3 (.cells #[.bool m.x.p.neg, .slice m.x.p.A m.x.p.n m.x.p.c, .bool m.x.l.neg, .slice m.x.l.A m.x.l.n m.x.l.c, .bool m.y.p.neg, .slice m.y.p.A m.y.p.n m.y.p.c, .bool m.y.l.neg, .slice m.y.l.A m.y.l.n m.y.l.c] 33)
  have hO := Own.newPt w3 33 m
  generalize w3.alloc (.cells #[.bool m.x.p.neg, .slice m.x.p.A m.x.p.n m.x.p.c, .bool m.x.l.neg, .slice m.x.l.A m.x.l.n m.x.l.c, .bool m.y.p.neg, .slice m.y.p.A m.y.p.n m.y.p.c, .bool m.y.l.neg, .slice m.y.l.A m.y.l.n m.y.l.c] 33) = w4 at k4 hO ⊢
  obtain ⟨b1, hb1⟩ : ∃ b1, b1 = w3.heap.size := ⟨_, rfl⟩
  rw [← hb1] at hO ⊢
  clear hb1
  have hm3 := hm2.on k4
  have hB := Below.call hB k4
  have l0 := hO.c0
  have l1 := hO.c1
  have l2 := hO.c2
  have l3 := hO.c3
  have l4 := hO.c4
  have l5 := hO.c5
  have l6 := hO.c6
  have l7 := hO.c7
  go_wp2_with fail
  refine (PRound_any hm3).mono ?_
  rintro e w5 ⟨rfl, k5⟩
  have e1 : pick0 (rdOK 1 2 3 2) (nr 1 2) = 0 := by decide +kernel
  have e2 : pick0 (rdOK 1 2 3 2) (nr 3 2) = 1 := by decide +kernel
  have e3 : err5 (rdOK 1 2 3 2) = 0 := by decide +kernel
  rw [e1, e2, e3]
  have hO := hO.on k5
  have hm3 := hm3.on k5
  have hB := Below.call hB k5
  clear l0 l1 l2 l3 l4 l5 l6 l7 e1 e2 e3
  go_upto_region 3 with fail
  have k6 := below_new w5 (.cells #[.int .i64 0, .int .i64 1] 55)
  have hQ := Own.new2 w5 55 (.int .i64 0) (.int .i64 1)
  generalize w5.alloc (.cells #[.int .i64 0, .int .i64 1] 55) = w6 at k6 hQ ⊢
  obtain ⟨b2, hb2⟩ : ∃ b2, b2 = w5.heap.size := ⟨_, rfl⟩
  rw [← hb2] at hQ ⊢
  clear hb2
  have hO := hO.on k6
  have hm3 := hm3.on k6
  have hB := Below.call hB k6
  have l0 := hO.c0
  have l1 := hO.c1
  have l2 := hO.c2
  have l3 := hO.c3
  go_wp2_with fail
  refine (FString_any hm3.x (ht.on hB)).mono ?_
  rintro e w7 ⟨rfl, k7⟩
  have e1 : ftext 1 2 = [49, 47, 50] := by decide +kernel
  rw [e1]
  have hO := hO.on k7
  have hQ := hQ.on k7
  have hm3 := hm3.on k7
  have hB := Below.call hB k7
  clear l0 l1 l2 l3 e1
  have l4 := hO.c4
  have l5 := hO.c5
  have l6 := hO.c6
  have l7 := hO.c7
  go_wp2_with fail
  refine (FString_any hm3.y (ht.on hB)).mono ?_
  rintro e w8 ⟨rfl, k8⟩
  have e1 : ftext 3 2 = [51, 47, 50] := by decide +kernel
  rw [e1]
  have hQ := hQ.on k8
  have hB := Below.call hB k8
  clear l4 l5 l6 l7 e1
  have y0 := hQ.c0
  have y1 := hQ.c1
  go_wp2_with fail
  refine (POf_any 1 5 _ (by omega) (by omega) (by omega) (by omega)).mono ?_
  rintro e w9 ⟨c, rfl, k9, hc⟩
  have hB := Below.call hB k9
  go_wp2_with fail
  refine (POf_any 2 0 _ (by omega) (by omega) (by omega) (by omega)).mono ?_
  rintro e w10 ⟨d, rfl, k10, hd⟩
  have hB := Below.call hB k10
  go_wp2_with fail
  refine (PCompare_any (hc.on k10) hd).mono ?_
  rintro e w11 ⟨rfl, k11⟩
  have hB := Below.call hB k11
  have e1 : cmpPt 1 1 5 1 2 1 0 1 = -1 := by decide +kernel
  rw [e1]
  go_wp2
  go_returns
  exact ⟨by simp, hB⟩
end Go.Proofs.YtfbbnphpapmpcaaGreatDoor
