/-
  Contracts of package point: Meets, In.
-/
import Derived.Test.YthcpaagfgkbjaaaDoorP5
namespace Go.Proofs.YthcpaagfgkbjaaaDoor
open Go.RowKit Mag

def meets (a0 a1 a2 a3 b0 b1 b2 b3 : Int) : Bool := decide (max a0 b0 ≤ min a2 b2) && decide (max a1 b1 ≤ min a3 b3)
set_option maxRecDepth 100000 in
set_option maxHeartbeats 800000 in
theorem PMeets_any (a0 a1 a2 a3 b0 b1 b2 b3 : Int) (w : World) : Calls Tryd.prog 25 #[.agg #[.int .i64 a0, .int .i64 a1, .int .i64 a2, .int .i64 a3], .agg #[.int .i64 b0, .int .i64 b1, .int .i64 b2, .int .i64 b3]] w (RetB w (meets a0 a1 a2 a3 b0 b1 b2 b3)) := by
  go_enter Tryd.func25, Tryd.ntmps25
  go_upto_region 1 with fail
  have hO1 := (Own.newB w 56 a0 a1 a2 a3).alloc (.cells #[.int .i64 b0, .int .i64 b1, .int .i64 b2, .int .i64 b3] 56)
  have hO2 := Own.newB (w.alloc (.cells #[.int .i64 a0, .int .i64 a1, .int .i64 a2, .int .i64 a3] 56)) 56 b0 b1 b2 b3
  have hB : Below w.heap.size w ((w.alloc (.cells #[.int .i64 a0, .int .i64 a1, .int .i64 a2, .int .i64 a3] 56)).alloc (.cells #[.int .i64 b0, .int .i64 b1, .int .i64 b2, .int .i64 b3] 56)) := by go_grown
  have hgs : (w.alloc (.cells #[.int .i64 a0, .int .i64 a1, .int .i64 a2, .int .i64 a3] 56)).heap.size = w.heap.size + 1 := by simp
  rw [hgs] at hO2
  clear hgs
  generalize (w.alloc (.cells #[.int .i64 a0, .int .i64 a1, .int .i64 a2, .int .i64 a3] 56)).alloc (.cells #[.int .i64 b0, .int .i64 b1, .int .i64 b2, .int .i64 b3] 56) = W at hO1 hO2 hB ⊢
  have c0 := hO1.c0
  have c1 := hO1.c1
  have c2 := hO1.c2
  have c3 := hO1.c3
  have d0 := hO2.c0
  have d1 := hO2.c1
  have d2 := hO2.c2
  have d3 := hO2.c3
  obtain ⟨m1, hm1⟩ : ∃ m1, m1 = decide (max a0 b0 ≤ min a2 b2) := ⟨_, rfl⟩
  have HV : Hid (meets a0 a1 a2 a3 b0 b1 b2 b3 = (m1 && decide (max a1 b1 ≤ min a3 b3))) := Lib.hid (by rw [hm1]; rfl)
  cases m1
  all_goals (replace hm1 := hm1.symm)
  · go_wp2_with fail
    clear hm1
    go_returns
    exact ⟨by rw [HV.out]; simp, hB⟩
  · go_wp2_with fail
    clear hm1
    go_returns
    exact ⟨by rw [HV.out]; simp, hB⟩

theorem within_b {lo x hi : FV} {p q r s t u : Int} {w : World} {b : Bool} (hl : lo.is w p q) (hx : x.is w r s) (hh : hi.is w t u) (hb : (decide (p * s ≤ r * q) && decide (r * u ≤ t * s)) = b) : Calls Tryd.prog 52 #[.agg #[.bool lo.p.neg, .slice lo.p.A lo.p.n lo.p.c, .bool lo.l.neg, .slice lo.l.A lo.l.n lo.l.c], .agg #[.bool x.p.neg, .slice x.p.A x.p.n x.p.c, .bool x.l.neg, .slice x.l.A x.l.n x.l.c], .agg #[.bool hi.p.neg, .slice hi.p.A hi.p.n hi.p.c, .bool hi.l.neg, .slice hi.l.A hi.l.n hi.l.c], .func (.func 18) #[] #[]] w (RetB w b) := by
  subst hb
  exact within_frac hl hx hh
theorem ib {m : Int} (h : Hid (in64 m)) : -9223372036854775808 ≤ m ∧ m ≤ 9223372036854775807 := h.out
theorem whole_b {n : Int} {W w : World} (h : -9223372036854775808 ≤ n ∧ n ≤ 9223372036854775807) (hb : Below W.heap.size W w) : Calls Tryd.prog 39 #[.int .i64 n] w fun e w' => ∃ v : Value, e = .returned v ∧ Below W.heap.size W w' ∧ Below w.heap.size w w' ∧ IsF w' v n 1 :=
  (whole_any n w h.1 h.2).mono (fun _ _ ⟨f, h1, h2, h3⟩ => ⟨_, h1, Below.call hb h2, h2, f, rfl, h3⟩)
def IsB (_w : World) (v : Value) (b : Bool) : Prop := ∃ c : Bool, v = .bool c ∧ c = b
theorem IsB.on {w w' : World} {v : Value} {b : Bool} (h : IsB w v b) (_hb : Below w.heap.size w w') : IsB w' v b := h
theorem within_bb {lo x hi : FV} {p q r s t u : Int} {W w : World} {b : Bool} (hl : lo.is w p q) (hx : x.is w r s) (hh : hi.is w t u) (hb : (decide (p * s ≤ r * q) && decide (r * u ≤ t * s)) = b) (hw : Below W.heap.size W w) : Calls Tryd.prog 52 #[.agg #[.bool lo.p.neg, .slice lo.p.A lo.p.n lo.p.c, .bool lo.l.neg, .slice lo.l.A lo.l.n lo.l.c], .agg #[.bool x.p.neg, .slice x.p.A x.p.n x.p.c, .bool x.l.neg, .slice x.l.A x.l.n x.l.c], .agg #[.bool hi.p.neg, .slice hi.p.A hi.p.n hi.p.c, .bool hi.l.neg, .slice hi.l.A hi.l.n hi.l.c], .func (.func 18) #[] #[]] w fun e w' => ∃ v : Value, e = .returned v ∧ Below W.heap.size W w' ∧ Below w.heap.size w w' ∧ IsB w' v b :=
  (within_b hl hx hh hb).mono (fun _ _ ⟨h1, h2⟩ => ⟨_, h1, Below.call hw h2, h2, b, rfl, rfl⟩)
--REG
/-- What holds when the operations L of the region have come up. -/
structure InR (L : Array Bool) (W : World) (a : PV) (m0 m1 m2 m3 : Int) (b1 b2 : Nat) (s5 s6 s7 s8 s9 s10 s11 s12 s13 s14 s15 s16 s17 s18 s19 s20 s21 s22 s23 s24 s25 s26 s27 s28 s4 : Value) (w : World) : Prop where
  bel : Below W.heap.size W w
  p0 : done L 0 → s5 = .pointer (some ⟨b1, 0, none⟩)
  p1 : done L 1 → s6 = .pointer (some ⟨b1, 0, none⟩)
  p2 : done L 2 → s7 = .int .i64 m0
  c3 : done L 3 → IsF w s8 m0 1
  p4 : done L 4 → s9 = .pointer (some ⟨b2, 0, none⟩)
  p5 : done L 5 → s10 = .agg #[.bool a.x.p.neg, .slice a.x.p.A a.x.p.n a.x.p.c, .bool a.x.l.neg, .slice a.x.l.A a.x.l.n a.x.l.c]
  p6 : done L 6 → s11 = .pointer (some ⟨b1, 2, none⟩)
  p7 : done L 7 → s12 = .pointer (some ⟨b1, 2, none⟩)
  p8 : done L 8 → s13 = .int .i64 m2
  c9 : done L 9 → IsF w s14 m2 1
  c10 : done L 10 → IsB w s15 false
  p11 : done L 11 → s16 = .bool false
  p12 : done L 12 → s17 = undef
  p13 : done L 13 → s18 = undef
  p14 : done L 14 → s19 = undef
  p15 : done L 15 → s20 = undef
  p16 : done L 16 → s21 = undef
  p17 : done L 17 → s22 = undef
  p18 : done L 18 → s23 = undef
  p19 : done L 19 → s24 = undef
  p20 : done L 20 → s25 = undef
  p21 : done L 21 → s26 = undef
  p22 : done L 22 → s27 = undef
  p23 : done L 23 → s28 = .bool false
  p24 : done L 24 → s4 = .bool false
theorem InR.up {L : Array Bool} {W : World} {a : PV} {m0 m1 m2 m3 : Int} {b1 b2 : Nat} {s5 s6 s7 s8 s9 s10 s11 s12 s13 s14 s15 s16 s17 s18 s19 s20 s21 s22 s23 s24 s25 s26 s27 s28 s4 : Value} {w : World} (h : InR L W a m0 m1 m2 m3 b1 b2 s5 s6 s7 s8 s9 s10 s11 s12 s13 s14 s15 s16 s17 s18 s19 s20 s21 s22 s23 s24 s25 s26 s27 s28 s4 w) {w' : World} (hb : Below w.heap.size w w') : InR L W a m0 m1 m2 m3 b1 b2 s5 s6 s7 s8 s9 s10 s11 s12 s13 s14 s15 s16 s17 s18 s19 s20 s21 s22 s23 s24 s25 s26 s27 s28 s4 w' :=
  ⟨Below.call h.bel hb, h.p0, h.p1, h.p2, fun d => (h.c3 d).on hb, h.p4, h.p5, h.p6, h.p7, h.p8, fun d => (h.c9 d).on hb, fun d => (h.c10 d).on hb, h.p11, h.p12, h.p13, h.p14, h.p15, h.p16, h.p17, h.p18, h.p19, h.p20, h.p21, h.p22, h.p23, h.p24⟩
theorem InR.set0 {L : Array Bool} {W : World} {a : PV} {m0 m1 m2 m3 : Int} {b1 b2 : Nat} {s5 s6 s7 s8 s9 s10 s11 s12 s13 s14 s15 s16 s17 s18 s19 s20 s21 s22 s23 s24 s25 s26 s27 s28 s4 : Value} {w : World} (h : InR L W a m0 m1 m2 m3 b1 b2 s5 s6 s7 s8 s9 s10 s11 s12 s13 s14 s15 s16 s17 s18 s19 s20 s21 s22 s23 s24 s25 s26 s27 s28 s4 w) (_hk : ¬ done L 0) {v : Value} (hv : v = .pointer (some ⟨b1, 0, none⟩)) : InR (L.setIfInBounds 0 true) W a m0 m1 m2 m3 b1 b2 v s6 s7 s8 s9 s10 s11 s12 s13 s14 s15 s16 s17 s18 s19 s20 s21 s22 s23 s24 s25 s26 s27 s28 s4 w :=
  ⟨h.bel, fun _ => hv, fun d => h.p1 (done_set d (by decide)), fun d => h.p2 (done_set d (by decide)), fun d => h.c3 (done_set d (by decide)), fun d => h.p4 (done_set d (by decide)), fun d => h.p5 (done_set d (by decide)), fun d => h.p6 (done_set d (by decide)), fun d => h.p7 (done_set d (by decide)), fun d => h.p8 (done_set d (by decide)), fun d => h.c9 (done_set d (by decide)), fun d => h.c10 (done_set d (by decide)), fun d => h.p11 (done_set d (by decide)), fun d => h.p12 (done_set d (by decide)), fun d => h.p13 (done_set d (by decide)), fun d => h.p14 (done_set d (by decide)), fun d => h.p15 (done_set d (by decide)), fun d => h.p16 (done_set d (by decide)), fun d => h.p17 (done_set d (by decide)), fun d => h.p18 (done_set d (by decide)), fun d => h.p19 (done_set d (by decide)), fun d => h.p20 (done_set d (by decide)), fun d => h.p21 (done_set d (by decide)), fun d => h.p22 (done_set d (by decide)), fun d => h.p23 (done_set d (by decide)), fun d => h.p24 (done_set d (by decide))⟩
theorem InR.set1 {L : Array Bool} {W : World} {a : PV} {m0 m1 m2 m3 : Int} {b1 b2 : Nat} {s5 s6 s7 s8 s9 s10 s11 s12 s13 s14 s15 s16 s17 s18 s19 s20 s21 s22 s23 s24 s25 s26 s27 s28 s4 : Value} {w : World} (h : InR L W a m0 m1 m2 m3 b1 b2 s5 s6 s7 s8 s9 s10 s11 s12 s13 s14 s15 s16 s17 s18 s19 s20 s21 s22 s23 s24 s25 s26 s27 s28 s4 w) (_hk : ¬ done L 1) {v : Value} (hv : v = .pointer (some ⟨b1, 0, none⟩)) : InR (L.setIfInBounds 1 true) W a m0 m1 m2 m3 b1 b2 s5 v s7 s8 s9 s10 s11 s12 s13 s14 s15 s16 s17 s18 s19 s20 s21 s22 s23 s24 s25 s26 s27 s28 s4 w :=
  ⟨h.bel, fun d => h.p0 (done_set d (by decide)), fun _ => hv, fun d => h.p2 (done_set d (by decide)), fun d => h.c3 (done_set d (by decide)), fun d => h.p4 (done_set d (by decide)), fun d => h.p5 (done_set d (by decide)), fun d => h.p6 (done_set d (by decide)), fun d => h.p7 (done_set d (by decide)), fun d => h.p8 (done_set d (by decide)), fun d => h.c9 (done_set d (by decide)), fun d => h.c10 (done_set d (by decide)), fun d => h.p11 (done_set d (by decide)), fun d => h.p12 (done_set d (by decide)), fun d => h.p13 (done_set d (by decide)), fun d => h.p14 (done_set d (by decide)), fun d => h.p15 (done_set d (by decide)), fun d => h.p16 (done_set d (by decide)), fun d => h.p17 (done_set d (by decide)), fun d => h.p18 (done_set d (by decide)), fun d => h.p19 (done_set d (by decide)), fun d => h.p20 (done_set d (by decide)), fun d => h.p21 (done_set d (by decide)), fun d => h.p22 (done_set d (by decide)), fun d => h.p23 (done_set d (by decide)), fun d => h.p24 (done_set d (by decide))⟩
theorem InR.set2 {L : Array Bool} {W : World} {a : PV} {m0 m1 m2 m3 : Int} {b1 b2 : Nat} {s5 s6 s7 s8 s9 s10 s11 s12 s13 s14 s15 s16 s17 s18 s19 s20 s21 s22 s23 s24 s25 s26 s27 s28 s4 : Value} {w : World} (h : InR L W a m0 m1 m2 m3 b1 b2 s5 s6 s7 s8 s9 s10 s11 s12 s13 s14 s15 s16 s17 s18 s19 s20 s21 s22 s23 s24 s25 s26 s27 s28 s4 w) (_hk : ¬ done L 2) {v : Value} (hv : v = .int .i64 m0) : InR (L.setIfInBounds 2 true) W a m0 m1 m2 m3 b1 b2 s5 s6 v s8 s9 s10 s11 s12 s13 s14 s15 s16 s17 s18 s19 s20 s21 s22 s23 s24 s25 s26 s27 s28 s4 w :=
  ⟨h.bel, fun d => h.p0 (done_set d (by decide)), fun d => h.p1 (done_set d (by decide)), fun _ => hv, fun d => h.c3 (done_set d (by decide)), fun d => h.p4 (done_set d (by decide)), fun d => h.p5 (done_set d (by decide)), fun d => h.p6 (done_set d (by decide)), fun d => h.p7 (done_set d (by decide)), fun d => h.p8 (done_set d (by decide)), fun d => h.c9 (done_set d (by decide)), fun d => h.c10 (done_set d (by decide)), fun d => h.p11 (done_set d (by decide)), fun d => h.p12 (done_set d (by decide)), fun d => h.p13 (done_set d (by decide)), fun d => h.p14 (done_set d (by decide)), fun d => h.p15 (done_set d (by decide)), fun d => h.p16 (done_set d (by decide)), fun d => h.p17 (done_set d (by decide)), fun d => h.p18 (done_set d (by decide)), fun d => h.p19 (done_set d (by decide)), fun d => h.p20 (done_set d (by decide)), fun d => h.p21 (done_set d (by decide)), fun d => h.p22 (done_set d (by decide)), fun d => h.p23 (done_set d (by decide)), fun d => h.p24 (done_set d (by decide))⟩
theorem InR.set3 {L : Array Bool} {W : World} {a : PV} {m0 m1 m2 m3 : Int} {b1 b2 : Nat} {s5 s6 s7 s8 s9 s10 s11 s12 s13 s14 s15 s16 s17 s18 s19 s20 s21 s22 s23 s24 s25 s26 s27 s28 s4 : Value} {w : World} (h : InR L W a m0 m1 m2 m3 b1 b2 s5 s6 s7 s8 s9 s10 s11 s12 s13 s14 s15 s16 s17 s18 s19 s20 s21 s22 s23 s24 s25 s26 s27 s28 s4 w) (_hk : ¬ done L 3) {v : Value} (hv : IsF w v m0 1) : InR (L.setIfInBounds 3 true) W a m0 m1 m2 m3 b1 b2 s5 s6 s7 v s9 s10 s11 s12 s13 s14 s15 s16 s17 s18 s19 s20 s21 s22 s23 s24 s25 s26 s27 s28 s4 w :=
  ⟨h.bel, fun d => h.p0 (done_set d (by decide)), fun d => h.p1 (done_set d (by decide)), fun d => h.p2 (done_set d (by decide)), fun _ => hv, fun d => h.p4 (done_set d (by decide)), fun d => h.p5 (done_set d (by decide)), fun d => h.p6 (done_set d (by decide)), fun d => h.p7 (done_set d (by decide)), fun d => h.p8 (done_set d (by decide)), fun d => h.c9 (done_set d (by decide)), fun d => h.c10 (done_set d (by decide)), fun d => h.p11 (done_set d (by decide)), fun d => h.p12 (done_set d (by decide)), fun d => h.p13 (done_set d (by decide)), fun d => h.p14 (done_set d (by decide)), fun d => h.p15 (done_set d (by decide)), fun d => h.p16 (done_set d (by decide)), fun d => h.p17 (done_set d (by decide)), fun d => h.p18 (done_set d (by decide)), fun d => h.p19 (done_set d (by decide)), fun d => h.p20 (done_set d (by decide)), fun d => h.p21 (done_set d (by decide)), fun d => h.p22 (done_set d (by decide)), fun d => h.p23 (done_set d (by decide)), fun d => h.p24 (done_set d (by decide))⟩
theorem InR.set4 {L : Array Bool} {W : World} {a : PV} {m0 m1 m2 m3 : Int} {b1 b2 : Nat} {s5 s6 s7 s8 s9 s10 s11 s12 s13 s14 s15 s16 s17 s18 s19 s20 s21 s22 s23 s24 s25 s26 s27 s28 s4 : Value} {w : World} (h : InR L W a m0 m1 m2 m3 b1 b2 s5 s6 s7 s8 s9 s10 s11 s12 s13 s14 s15 s16 s17 s18 s19 s20 s21 s22 s23 s24 s25 s26 s27 s28 s4 w) (_hk : ¬ done L 4) {v : Value} (hv : v = .pointer (some ⟨b2, 0, none⟩)) : InR (L.setIfInBounds 4 true) W a m0 m1 m2 m3 b1 b2 s5 s6 s7 s8 v s10 s11 s12 s13 s14 s15 s16 s17 s18 s19 s20 s21 s22 s23 s24 s25 s26 s27 s28 s4 w :=
  ⟨h.bel, fun d => h.p0 (done_set d (by decide)), fun d => h.p1 (done_set d (by decide)), fun d => h.p2 (done_set d (by decide)), fun d => h.c3 (done_set d (by decide)), fun _ => hv, fun d => h.p5 (done_set d (by decide)), fun d => h.p6 (done_set d (by decide)), fun d => h.p7 (done_set d (by decide)), fun d => h.p8 (done_set d (by decide)), fun d => h.c9 (done_set d (by decide)), fun d => h.c10 (done_set d (by decide)), fun d => h.p11 (done_set d (by decide)), fun d => h.p12 (done_set d (by decide)), fun d => h.p13 (done_set d (by decide)), fun d => h.p14 (done_set d (by decide)), fun d => h.p15 (done_set d (by decide)), fun d => h.p16 (done_set d (by decide)), fun d => h.p17 (done_set d (by decide)), fun d => h.p18 (done_set d (by decide)), fun d => h.p19 (done_set d (by decide)), fun d => h.p20 (done_set d (by decide)), fun d => h.p21 (done_set d (by decide)), fun d => h.p22 (done_set d (by decide)), fun d => h.p23 (done_set d (by decide)), fun d => h.p24 (done_set d (by decide))⟩
theorem InR.set5 {L : Array Bool} {W : World} {a : PV} {m0 m1 m2 m3 : Int} {b1 b2 : Nat} {s5 s6 s7 s8 s9 s10 s11 s12 s13 s14 s15 s16 s17 s18 s19 s20 s21 s22 s23 s24 s25 s26 s27 s28 s4 : Value} {w : World} (h : InR L W a m0 m1 m2 m3 b1 b2 s5 s6 s7 s8 s9 s10 s11 s12 s13 s14 s15 s16 s17 s18 s19 s20 s21 s22 s23 s24 s25 s26 s27 s28 s4 w) (_hk : ¬ done L 5) {v : Value} (hv : v = .agg #[.bool a.x.p.neg, .slice a.x.p.A a.x.p.n a.x.p.c, .bool a.x.l.neg, .slice a.x.l.A a.x.l.n a.x.l.c]) : InR (L.setIfInBounds 5 true) W a m0 m1 m2 m3 b1 b2 s5 s6 s7 s8 s9 v s11 s12 s13 s14 s15 s16 s17 s18 s19 s20 s21 s22 s23 s24 s25 s26 s27 s28 s4 w :=
  ⟨h.bel, fun d => h.p0 (done_set d (by decide)), fun d => h.p1 (done_set d (by decide)), fun d => h.p2 (done_set d (by decide)), fun d => h.c3 (done_set d (by decide)), fun d => h.p4 (done_set d (by decide)), fun _ => hv, fun d => h.p6 (done_set d (by decide)), fun d => h.p7 (done_set d (by decide)), fun d => h.p8 (done_set d (by decide)), fun d => h.c9 (done_set d (by decide)), fun d => h.c10 (done_set d (by decide)), fun d => h.p11 (done_set d (by decide)), fun d => h.p12 (done_set d (by decide)), fun d => h.p13 (done_set d (by decide)), fun d => h.p14 (done_set d (by decide)), fun d => h.p15 (done_set d (by decide)), fun d => h.p16 (done_set d (by decide)), fun d => h.p17 (done_set d (by decide)), fun d => h.p18 (done_set d (by decide)), fun d => h.p19 (done_set d (by decide)), fun d => h.p20 (done_set d (by decide)), fun d => h.p21 (done_set d (by decide)), fun d => h.p22 (done_set d (by decide)), fun d => h.p23 (done_set d (by decide)), fun d => h.p24 (done_set d (by decide))⟩
theorem InR.set6 {L : Array Bool} {W : World} {a : PV} {m0 m1 m2 m3 : Int} {b1 b2 : Nat} {s5 s6 s7 s8 s9 s10 s11 s12 s13 s14 s15 s16 s17 s18 s19 s20 s21 s22 s23 s24 s25 s26 s27 s28 s4 : Value} {w : World} (h : InR L W a m0 m1 m2 m3 b1 b2 s5 s6 s7 s8 s9 s10 s11 s12 s13 s14 s15 s16 s17 s18 s19 s20 s21 s22 s23 s24 s25 s26 s27 s28 s4 w) (_hk : ¬ done L 6) {v : Value} (hv : v = .pointer (some ⟨b1, 2, none⟩)) : InR (L.setIfInBounds 6 true) W a m0 m1 m2 m3 b1 b2 s5 s6 s7 s8 s9 s10 v s12 s13 s14 s15 s16 s17 s18 s19 s20 s21 s22 s23 s24 s25 s26 s27 s28 s4 w :=
  ⟨h.bel, fun d => h.p0 (done_set d (by decide)), fun d => h.p1 (done_set d (by decide)), fun d => h.p2 (done_set d (by decide)), fun d => h.c3 (done_set d (by decide)), fun d => h.p4 (done_set d (by decide)), fun d => h.p5 (done_set d (by decide)), fun _ => hv, fun d => h.p7 (done_set d (by decide)), fun d => h.p8 (done_set d (by decide)), fun d => h.c9 (done_set d (by decide)), fun d => h.c10 (done_set d (by decide)), fun d => h.p11 (done_set d (by decide)), fun d => h.p12 (done_set d (by decide)), fun d => h.p13 (done_set d (by decide)), fun d => h.p14 (done_set d (by decide)), fun d => h.p15 (done_set d (by decide)), fun d => h.p16 (done_set d (by decide)), fun d => h.p17 (done_set d (by decide)), fun d => h.p18 (done_set d (by decide)), fun d => h.p19 (done_set d (by decide)), fun d => h.p20 (done_set d (by decide)), fun d => h.p21 (done_set d (by decide)), fun d => h.p22 (done_set d (by decide)), fun d => h.p23 (done_set d (by decide)), fun d => h.p24 (done_set d (by decide))⟩
theorem InR.set7 {L : Array Bool} {W : World} {a : PV} {m0 m1 m2 m3 : Int} {b1 b2 : Nat} {s5 s6 s7 s8 s9 s10 s11 s12 s13 s14 s15 s16 s17 s18 s19 s20 s21 s22 s23 s24 s25 s26 s27 s28 s4 : Value} {w : World} (h : InR L W a m0 m1 m2 m3 b1 b2 s5 s6 s7 s8 s9 s10 s11 s12 s13 s14 s15 s16 s17 s18 s19 s20 s21 s22 s23 s24 s25 s26 s27 s28 s4 w) (_hk : ¬ done L 7) {v : Value} (hv : v = .pointer (some ⟨b1, 2, none⟩)) : InR (L.setIfInBounds 7 true) W a m0 m1 m2 m3 b1 b2 s5 s6 s7 s8 s9 s10 s11 v s13 s14 s15 s16 s17 s18 s19 s20 s21 s22 s23 s24 s25 s26 s27 s28 s4 w :=
  ⟨h.bel, fun d => h.p0 (done_set d (by decide)), fun d => h.p1 (done_set d (by decide)), fun d => h.p2 (done_set d (by decide)), fun d => h.c3 (done_set d (by decide)), fun d => h.p4 (done_set d (by decide)), fun d => h.p5 (done_set d (by decide)), fun d => h.p6 (done_set d (by decide)), fun _ => hv, fun d => h.p8 (done_set d (by decide)), fun d => h.c9 (done_set d (by decide)), fun d => h.c10 (done_set d (by decide)), fun d => h.p11 (done_set d (by decide)), fun d => h.p12 (done_set d (by decide)), fun d => h.p13 (done_set d (by decide)), fun d => h.p14 (done_set d (by decide)), fun d => h.p15 (done_set d (by decide)), fun d => h.p16 (done_set d (by decide)), fun d => h.p17 (done_set d (by decide)), fun d => h.p18 (done_set d (by decide)), fun d => h.p19 (done_set d (by decide)), fun d => h.p20 (done_set d (by decide)), fun d => h.p21 (done_set d (by decide)), fun d => h.p22 (done_set d (by decide)), fun d => h.p23 (done_set d (by decide)), fun d => h.p24 (done_set d (by decide))⟩
theorem InR.set8 {L : Array Bool} {W : World} {a : PV} {m0 m1 m2 m3 : Int} {b1 b2 : Nat} {s5 s6 s7 s8 s9 s10 s11 s12 s13 s14 s15 s16 s17 s18 s19 s20 s21 s22 s23 s24 s25 s26 s27 s28 s4 : Value} {w : World} (h : InR L W a m0 m1 m2 m3 b1 b2 s5 s6 s7 s8 s9 s10 s11 s12 s13 s14 s15 s16 s17 s18 s19 s20 s21 s22 s23 s24 s25 s26 s27 s28 s4 w) (_hk : ¬ done L 8) {v : Value} (hv : v = .int .i64 m2) : InR (L.setIfInBounds 8 true) W a m0 m1 m2 m3 b1 b2 s5 s6 s7 s8 s9 s10 s11 s12 v s14 s15 s16 s17 s18 s19 s20 s21 s22 s23 s24 s25 s26 s27 s28 s4 w :=
  ⟨h.bel, fun d => h.p0 (done_set d (by decide)), fun d => h.p1 (done_set d (by decide)), fun d => h.p2 (done_set d (by decide)), fun d => h.c3 (done_set d (by decide)), fun d => h.p4 (done_set d (by decide)), fun d => h.p5 (done_set d (by decide)), fun d => h.p6 (done_set d (by decide)), fun d => h.p7 (done_set d (by decide)), fun _ => hv, fun d => h.c9 (done_set d (by decide)), fun d => h.c10 (done_set d (by decide)), fun d => h.p11 (done_set d (by decide)), fun d => h.p12 (done_set d (by decide)), fun d => h.p13 (done_set d (by decide)), fun d => h.p14 (done_set d (by decide)), fun d => h.p15 (done_set d (by decide)), fun d => h.p16 (done_set d (by decide)), fun d => h.p17 (done_set d (by decide)), fun d => h.p18 (done_set d (by decide)), fun d => h.p19 (done_set d (by decide)), fun d => h.p20 (done_set d (by decide)), fun d => h.p21 (done_set d (by decide)), fun d => h.p22 (done_set d (by decide)), fun d => h.p23 (done_set d (by decide)), fun d => h.p24 (done_set d (by decide))⟩
theorem InR.set9 {L : Array Bool} {W : World} {a : PV} {m0 m1 m2 m3 : Int} {b1 b2 : Nat} {s5 s6 s7 s8 s9 s10 s11 s12 s13 s14 s15 s16 s17 s18 s19 s20 s21 s22 s23 s24 s25 s26 s27 s28 s4 : Value} {w : World} (h : InR L W a m0 m1 m2 m3 b1 b2 s5 s6 s7 s8 s9 s10 s11 s12 s13 s14 s15 s16 s17 s18 s19 s20 s21 s22 s23 s24 s25 s26 s27 s28 s4 w) (_hk : ¬ done L 9) {v : Value} (hv : IsF w v m2 1) : InR (L.setIfInBounds 9 true) W a m0 m1 m2 m3 b1 b2 s5 s6 s7 s8 s9 s10 s11 s12 s13 v s15 s16 s17 s18 s19 s20 s21 s22 s23 s24 s25 s26 s27 s28 s4 w :=
  ⟨h.bel, fun d => h.p0 (done_set d (by decide)), fun d => h.p1 (done_set d (by decide)), fun d => h.p2 (done_set d (by decide)), fun d => h.c3 (done_set d (by decide)), fun d => h.p4 (done_set d (by decide)), fun d => h.p5 (done_set d (by decide)), fun d => h.p6 (done_set d (by decide)), fun d => h.p7 (done_set d (by decide)), fun d => h.p8 (done_set d (by decide)), fun _ => hv, fun d => h.c10 (done_set d (by decide)), fun d => h.p11 (done_set d (by decide)), fun d => h.p12 (done_set d (by decide)), fun d => h.p13 (done_set d (by decide)), fun d => h.p14 (done_set d (by decide)), fun d => h.p15 (done_set d (by decide)), fun d => h.p16 (done_set d (by decide)), fun d => h.p17 (done_set d (by decide)), fun d => h.p18 (done_set d (by decide)), fun d => h.p19 (done_set d (by decide)), fun d => h.p20 (done_set d (by decide)), fun d => h.p21 (done_set d (by decide)), fun d => h.p22 (done_set d (by decide)), fun d => h.p23 (done_set d (by decide)), fun d => h.p24 (done_set d (by decide))⟩
theorem InR.set10 {L : Array Bool} {W : World} {a : PV} {m0 m1 m2 m3 : Int} {b1 b2 : Nat} {s5 s6 s7 s8 s9 s10 s11 s12 s13 s14 s15 s16 s17 s18 s19 s20 s21 s22 s23 s24 s25 s26 s27 s28 s4 : Value} {w : World} (h : InR L W a m0 m1 m2 m3 b1 b2 s5 s6 s7 s8 s9 s10 s11 s12 s13 s14 s15 s16 s17 s18 s19 s20 s21 s22 s23 s24 s25 s26 s27 s28 s4 w) (_hk : ¬ done L 10) {v : Value} (hv : IsB w v false) : InR (L.setIfInBounds 10 true) W a m0 m1 m2 m3 b1 b2 s5 s6 s7 s8 s9 s10 s11 s12 s13 s14 v s16 s17 s18 s19 s20 s21 s22 s23 s24 s25 s26 s27 s28 s4 w :=
  ⟨h.bel, fun d => h.p0 (done_set d (by decide)), fun d => h.p1 (done_set d (by decide)), fun d => h.p2 (done_set d (by decide)), fun d => h.c3 (done_set d (by decide)), fun d => h.p4 (done_set d (by decide)), fun d => h.p5 (done_set d (by decide)), fun d => h.p6 (done_set d (by decide)), fun d => h.p7 (done_set d (by decide)), fun d => h.p8 (done_set d (by decide)), fun d => h.c9 (done_set d (by decide)), fun _ => hv, fun d => h.p11 (done_set d (by decide)), fun d => h.p12 (done_set d (by decide)), fun d => h.p13 (done_set d (by decide)), fun d => h.p14 (done_set d (by decide)), fun d => h.p15 (done_set d (by decide)), fun d => h.p16 (done_set d (by decide)), fun d => h.p17 (done_set d (by decide)), fun d => h.p18 (done_set d (by decide)), fun d => h.p19 (done_set d (by decide)), fun d => h.p20 (done_set d (by decide)), fun d => h.p21 (done_set d (by decide)), fun d => h.p22 (done_set d (by decide)), fun d => h.p23 (done_set d (by decide)), fun d => h.p24 (done_set d (by decide))⟩
theorem InR.set11 {L : Array Bool} {W : World} {a : PV} {m0 m1 m2 m3 : Int} {b1 b2 : Nat} {s5 s6 s7 s8 s9 s10 s11 s12 s13 s14 s15 s16 s17 s18 s19 s20 s21 s22 s23 s24 s25 s26 s27 s28 s4 : Value} {w : World} (h : InR L W a m0 m1 m2 m3 b1 b2 s5 s6 s7 s8 s9 s10 s11 s12 s13 s14 s15 s16 s17 s18 s19 s20 s21 s22 s23 s24 s25 s26 s27 s28 s4 w) (_hk : ¬ done L 11) {v : Value} (hv : v = .bool false) : InR (L.setIfInBounds 11 true) W a m0 m1 m2 m3 b1 b2 s5 s6 s7 s8 s9 s10 s11 s12 s13 s14 s15 v s17 s18 s19 s20 s21 s22 s23 s24 s25 s26 s27 s28 s4 w :=
  ⟨h.bel, fun d => h.p0 (done_set d (by decide)), fun d => h.p1 (done_set d (by decide)), fun d => h.p2 (done_set d (by decide)), fun d => h.c3 (done_set d (by decide)), fun d => h.p4 (done_set d (by decide)), fun d => h.p5 (done_set d (by decide)), fun d => h.p6 (done_set d (by decide)), fun d => h.p7 (done_set d (by decide)), fun d => h.p8 (done_set d (by decide)), fun d => h.c9 (done_set d (by decide)), fun d => h.c10 (done_set d (by decide)), fun _ => hv, fun d => h.p12 (done_set d (by decide)), fun d => h.p13 (done_set d (by decide)), fun d => h.p14 (done_set d (by decide)), fun d => h.p15 (done_set d (by decide)), fun d => h.p16 (done_set d (by decide)), fun d => h.p17 (done_set d (by decide)), fun d => h.p18 (done_set d (by decide)), fun d => h.p19 (done_set d (by decide)), fun d => h.p20 (done_set d (by decide)), fun d => h.p21 (done_set d (by decide)), fun d => h.p22 (done_set d (by decide)), fun d => h.p23 (done_set d (by decide)), fun d => h.p24 (done_set d (by decide))⟩
theorem InR.set12 {L : Array Bool} {W : World} {a : PV} {m0 m1 m2 m3 : Int} {b1 b2 : Nat} {s5 s6 s7 s8 s9 s10 s11 s12 s13 s14 s15 s16 s17 s18 s19 s20 s21 s22 s23 s24 s25 s26 s27 s28 s4 : Value} {w : World} (h : InR L W a m0 m1 m2 m3 b1 b2 s5 s6 s7 s8 s9 s10 s11 s12 s13 s14 s15 s16 s17 s18 s19 s20 s21 s22 s23 s24 s25 s26 s27 s28 s4 w) (_hk : ¬ done L 12) {v : Value} (hv : v = undef) : InR (L.setIfInBounds 12 true) W a m0 m1 m2 m3 b1 b2 s5 s6 s7 s8 s9 s10 s11 s12 s13 s14 s15 s16 v s18 s19 s20 s21 s22 s23 s24 s25 s26 s27 s28 s4 w :=
  ⟨h.bel, fun d => h.p0 (done_set d (by decide)), fun d => h.p1 (done_set d (by decide)), fun d => h.p2 (done_set d (by decide)), fun d => h.c3 (done_set d (by decide)), fun d => h.p4 (done_set d (by decide)), fun d => h.p5 (done_set d (by decide)), fun d => h.p6 (done_set d (by decide)), fun d => h.p7 (done_set d (by decide)), fun d => h.p8 (done_set d (by decide)), fun d => h.c9 (done_set d (by decide)), fun d => h.c10 (done_set d (by decide)), fun d => h.p11 (done_set d (by decide)), fun _ => hv, fun d => h.p13 (done_set d (by decide)), fun d => h.p14 (done_set d (by decide)), fun d => h.p15 (done_set d (by decide)), fun d => h.p16 (done_set d (by decide)), fun d => h.p17 (done_set d (by decide)), fun d => h.p18 (done_set d (by decide)), fun d => h.p19 (done_set d (by decide)), fun d => h.p20 (done_set d (by decide)), fun d => h.p21 (done_set d (by decide)), fun d => h.p22 (done_set d (by decide)), fun d => h.p23 (done_set d (by decide)), fun d => h.p24 (done_set d (by decide))⟩
theorem InR.set13 {L : Array Bool} {W : World} {a : PV} {m0 m1 m2 m3 : Int} {b1 b2 : Nat} {s5 s6 s7 s8 s9 s10 s11 s12 s13 s14 s15 s16 s17 s18 s19 s20 s21 s22 s23 s24 s25 s26 s27 s28 s4 : Value} {w : World} (h : InR L W a m0 m1 m2 m3 b1 b2 s5 s6 s7 s8 s9 s10 s11 s12 s13 s14 s15 s16 s17 s18 s19 s20 s21 s22 s23 s24 s25 s26 s27 s28 s4 w) (_hk : ¬ done L 13) {v : Value} (hv : v = undef) : InR (L.setIfInBounds 13 true) W a m0 m1 m2 m3 b1 b2 s5 s6 s7 s8 s9 s10 s11 s12 s13 s14 s15 s16 s17 v s19 s20 s21 s22 s23 s24 s25 s26 s27 s28 s4 w :=
  ⟨h.bel, fun d => h.p0 (done_set d (by decide)), fun d => h.p1 (done_set d (by decide)), fun d => h.p2 (done_set d (by decide)), fun d => h.c3 (done_set d (by decide)), fun d => h.p4 (done_set d (by decide)), fun d => h.p5 (done_set d (by decide)), fun d => h.p6 (done_set d (by decide)), fun d => h.p7 (done_set d (by decide)), fun d => h.p8 (done_set d (by decide)), fun d => h.c9 (done_set d (by decide)), fun d => h.c10 (done_set d (by decide)), fun d => h.p11 (done_set d (by decide)), fun d => h.p12 (done_set d (by decide)), fun _ => hv, fun d => h.p14 (done_set d (by decide)), fun d => h.p15 (done_set d (by decide)), fun d => h.p16 (done_set d (by decide)), fun d => h.p17 (done_set d (by decide)), fun d => h.p18 (done_set d (by decide)), fun d => h.p19 (done_set d (by decide)), fun d => h.p20 (done_set d (by decide)), fun d => h.p21 (done_set d (by decide)), fun d => h.p22 (done_set d (by decide)), fun d => h.p23 (done_set d (by decide)), fun d => h.p24 (done_set d (by decide))⟩
theorem InR.set14 {L : Array Bool} {W : World} {a : PV} {m0 m1 m2 m3 : Int} {b1 b2 : Nat} {s5 s6 s7 s8 s9 s10 s11 s12 s13 s14 s15 s16 s17 s18 s19 s20 s21 s22 s23 s24 s25 s26 s27 s28 s4 : Value} {w : World} (h : InR L W a m0 m1 m2 m3 b1 b2 s5 s6 s7 s8 s9 s10 s11 s12 s13 s14 s15 s16 s17 s18 s19 s20 s21 s22 s23 s24 s25 s26 s27 s28 s4 w) (_hk : ¬ done L 14) {v : Value} (hv : v = undef) : InR (L.setIfInBounds 14 true) W a m0 m1 m2 m3 b1 b2 s5 s6 s7 s8 s9 s10 s11 s12 s13 s14 s15 s16 s17 s18 v s20 s21 s22 s23 s24 s25 s26 s27 s28 s4 w :=
  ⟨h.bel, fun d => h.p0 (done_set d (by decide)), fun d => h.p1 (done_set d (by decide)), fun d => h.p2 (done_set d (by decide)), fun d => h.c3 (done_set d (by decide)), fun d => h.p4 (done_set d (by decide)), fun d => h.p5 (done_set d (by decide)), fun d => h.p6 (done_set d (by decide)), fun d => h.p7 (done_set d (by decide)), fun d => h.p8 (done_set d (by decide)), fun d => h.c9 (done_set d (by decide)), fun d => h.c10 (done_set d (by decide)), fun d => h.p11 (done_set d (by decide)), fun d => h.p12 (done_set d (by decide)), fun d => h.p13 (done_set d (by decide)), fun _ => hv, fun d => h.p15 (done_set d (by decide)), fun d => h.p16 (done_set d (by decide)), fun d => h.p17 (done_set d (by decide)), fun d => h.p18 (done_set d (by decide)), fun d => h.p19 (done_set d (by decide)), fun d => h.p20 (done_set d (by decide)), fun d => h.p21 (done_set d (by decide)), fun d => h.p22 (done_set d (by decide)), fun d => h.p23 (done_set d (by decide)), fun d => h.p24 (done_set d (by decide))⟩
theorem InR.set15 {L : Array Bool} {W : World} {a : PV} {m0 m1 m2 m3 : Int} {b1 b2 : Nat} {s5 s6 s7 s8 s9 s10 s11 s12 s13 s14 s15 s16 s17 s18 s19 s20 s21 s22 s23 s24 s25 s26 s27 s28 s4 : Value} {w : World} (h : InR L W a m0 m1 m2 m3 b1 b2 s5 s6 s7 s8 s9 s10 s11 s12 s13 s14 s15 s16 s17 s18 s19 s20 s21 s22 s23 s24 s25 s26 s27 s28 s4 w) (_hk : ¬ done L 15) {v : Value} (hv : v = undef) : InR (L.setIfInBounds 15 true) W a m0 m1 m2 m3 b1 b2 s5 s6 s7 s8 s9 s10 s11 s12 s13 s14 s15 s16 s17 s18 s19 v s21 s22 s23 s24 s25 s26 s27 s28 s4 w :=
  ⟨h.bel, fun d => h.p0 (done_set d (by decide)), fun d => h.p1 (done_set d (by decide)), fun d => h.p2 (done_set d (by decide)), fun d => h.c3 (done_set d (by decide)), fun d => h.p4 (done_set d (by decide)), fun d => h.p5 (done_set d (by decide)), fun d => h.p6 (done_set d (by decide)), fun d => h.p7 (done_set d (by decide)), fun d => h.p8 (done_set d (by decide)), fun d => h.c9 (done_set d (by decide)), fun d => h.c10 (done_set d (by decide)), fun d => h.p11 (done_set d (by decide)), fun d => h.p12 (done_set d (by decide)), fun d => h.p13 (done_set d (by decide)), fun d => h.p14 (done_set d (by decide)), fun _ => hv, fun d => h.p16 (done_set d (by decide)), fun d => h.p17 (done_set d (by decide)), fun d => h.p18 (done_set d (by decide)), fun d => h.p19 (done_set d (by decide)), fun d => h.p20 (done_set d (by decide)), fun d => h.p21 (done_set d (by decide)), fun d => h.p22 (done_set d (by decide)), fun d => h.p23 (done_set d (by decide)), fun d => h.p24 (done_set d (by decide))⟩
theorem InR.set16 {L : Array Bool} {W : World} {a : PV} {m0 m1 m2 m3 : Int} {b1 b2 : Nat} {s5 s6 s7 s8 s9 s10 s11 s12 s13 s14 s15 s16 s17 s18 s19 s20 s21 s22 s23 s24 s25 s26 s27 s28 s4 : Value} {w : World} (h : InR L W a m0 m1 m2 m3 b1 b2 s5 s6 s7 s8 s9 s10 s11 s12 s13 s14 s15 s16 s17 s18 s19 s20 s21 s22 s23 s24 s25 s26 s27 s28 s4 w) (_hk : ¬ done L 16) {v : Value} (hv : v = undef) : InR (L.setIfInBounds 16 true) W a m0 m1 m2 m3 b1 b2 s5 s6 s7 s8 s9 s10 s11 s12 s13 s14 s15 s16 s17 s18 s19 s20 v s22 s23 s24 s25 s26 s27 s28 s4 w :=
  ⟨h.bel, fun d => h.p0 (done_set d (by decide)), fun d => h.p1 (done_set d (by decide)), fun d => h.p2 (done_set d (by decide)), fun d => h.c3 (done_set d (by decide)), fun d => h.p4 (done_set d (by decide)), fun d => h.p5 (done_set d (by decide)), fun d => h.p6 (done_set d (by decide)), fun d => h.p7 (done_set d (by decide)), fun d => h.p8 (done_set d (by decide)), fun d => h.c9 (done_set d (by decide)), fun d => h.c10 (done_set d (by decide)), fun d => h.p11 (done_set d (by decide)), fun d => h.p12 (done_set d (by decide)), fun d => h.p13 (done_set d (by decide)), fun d => h.p14 (done_set d (by decide)), fun d => h.p15 (done_set d (by decide)), fun _ => hv, fun d => h.p17 (done_set d (by decide)), fun d => h.p18 (done_set d (by decide)), fun d => h.p19 (done_set d (by decide)), fun d => h.p20 (done_set d (by decide)), fun d => h.p21 (done_set d (by decide)), fun d => h.p22 (done_set d (by decide)), fun d => h.p23 (done_set d (by decide)), fun d => h.p24 (done_set d (by decide))⟩
theorem InR.set17 {L : Array Bool} {W : World} {a : PV} {m0 m1 m2 m3 : Int} {b1 b2 : Nat} {s5 s6 s7 s8 s9 s10 s11 s12 s13 s14 s15 s16 s17 s18 s19 s20 s21 s22 s23 s24 s25 s26 s27 s28 s4 : Value} {w : World} (h : InR L W a m0 m1 m2 m3 b1 b2 s5 s6 s7 s8 s9 s10 s11 s12 s13 s14 s15 s16 s17 s18 s19 s20 s21 s22 s23 s24 s25 s26 s27 s28 s4 w) (_hk : ¬ done L 17) {v : Value} (hv : v = undef) : InR (L.setIfInBounds 17 true) W a m0 m1 m2 m3 b1 b2 s5 s6 s7 s8 s9 s10 s11 s12 s13 s14 s15 s16 s17 s18 s19 s20 s21 v s23 s24 s25 s26 s27 s28 s4 w :=
  ⟨h.bel, fun d => h.p0 (done_set d (by decide)), fun d => h.p1 (done_set d (by decide)), fun d => h.p2 (done_set d (by decide)), fun d => h.c3 (done_set d (by decide)), fun d => h.p4 (done_set d (by decide)), fun d => h.p5 (done_set d (by decide)), fun d => h.p6 (done_set d (by decide)), fun d => h.p7 (done_set d (by decide)), fun d => h.p8 (done_set d (by decide)), fun d => h.c9 (done_set d (by decide)), fun d => h.c10 (done_set d (by decide)), fun d => h.p11 (done_set d (by decide)), fun d => h.p12 (done_set d (by decide)), fun d => h.p13 (done_set d (by decide)), fun d => h.p14 (done_set d (by decide)), fun d => h.p15 (done_set d (by decide)), fun d => h.p16 (done_set d (by decide)), fun _ => hv, fun d => h.p18 (done_set d (by decide)), fun d => h.p19 (done_set d (by decide)), fun d => h.p20 (done_set d (by decide)), fun d => h.p21 (done_set d (by decide)), fun d => h.p22 (done_set d (by decide)), fun d => h.p23 (done_set d (by decide)), fun d => h.p24 (done_set d (by decide))⟩
theorem InR.set18 {L : Array Bool} {W : World} {a : PV} {m0 m1 m2 m3 : Int} {b1 b2 : Nat} {s5 s6 s7 s8 s9 s10 s11 s12 s13 s14 s15 s16 s17 s18 s19 s20 s21 s22 s23 s24 s25 s26 s27 s28 s4 : Value} {w : World} (h : InR L W a m0 m1 m2 m3 b1 b2 s5 s6 s7 s8 s9 s10 s11 s12 s13 s14 s15 s16 s17 s18 s19 s20 s21 s22 s23 s24 s25 s26 s27 s28 s4 w) (_hk : ¬ done L 18) {v : Value} (hv : v = undef) : InR (L.setIfInBounds 18 true) W a m0 m1 m2 m3 b1 b2 s5 s6 s7 s8 s9 s10 s11 s12 s13 s14 s15 s16 s17 s18 s19 s20 s21 s22 v s24 s25 s26 s27 s28 s4 w :=
  ⟨h.bel, fun d => h.p0 (done_set d (by decide)), fun d => h.p1 (done_set d (by decide)), fun d => h.p2 (done_set d (by decide)), fun d => h.c3 (done_set d (by decide)), fun d => h.p4 (done_set d (by decide)), fun d => h.p5 (done_set d (by decide)), fun d => h.p6 (done_set d (by decide)), fun d => h.p7 (done_set d (by decide)), fun d => h.p8 (done_set d (by decide)), fun d => h.c9 (done_set d (by decide)), fun d => h.c10 (done_set d (by decide)), fun d => h.p11 (done_set d (by decide)), fun d => h.p12 (done_set d (by decide)), fun d => h.p13 (done_set d (by decide)), fun d => h.p14 (done_set d (by decide)), fun d => h.p15 (done_set d (by decide)), fun d => h.p16 (done_set d (by decide)), fun d => h.p17 (done_set d (by decide)), fun _ => hv, fun d => h.p19 (done_set d (by decide)), fun d => h.p20 (done_set d (by decide)), fun d => h.p21 (done_set d (by decide)), fun d => h.p22 (done_set d (by decide)), fun d => h.p23 (done_set d (by decide)), fun d => h.p24 (done_set d (by decide))⟩
theorem InR.set19 {L : Array Bool} {W : World} {a : PV} {m0 m1 m2 m3 : Int} {b1 b2 : Nat} {s5 s6 s7 s8 s9 s10 s11 s12 s13 s14 s15 s16 s17 s18 s19 s20 s21 s22 s23 s24 s25 s26 s27 s28 s4 : Value} {w : World} (h : InR L W a m0 m1 m2 m3 b1 b2 s5 s6 s7 s8 s9 s10 s11 s12 s13 s14 s15 s16 s17 s18 s19 s20 s21 s22 s23 s24 s25 s26 s27 s28 s4 w) (_hk : ¬ done L 19) {v : Value} (hv : v = undef) : InR (L.setIfInBounds 19 true) W a m0 m1 m2 m3 b1 b2 s5 s6 s7 s8 s9 s10 s11 s12 s13 s14 s15 s16 s17 s18 s19 s20 s21 s22 s23 v s25 s26 s27 s28 s4 w :=
  ⟨h.bel, fun d => h.p0 (done_set d (by decide)), fun d => h.p1 (done_set d (by decide)), fun d => h.p2 (done_set d (by decide)), fun d => h.c3 (done_set d (by decide)), fun d => h.p4 (done_set d (by decide)), fun d => h.p5 (done_set d (by decide)), fun d => h.p6 (done_set d (by decide)), fun d => h.p7 (done_set d (by decide)), fun d => h.p8 (done_set d (by decide)), fun d => h.c9 (done_set d (by decide)), fun d => h.c10 (done_set d (by decide)), fun d => h.p11 (done_set d (by decide)), fun d => h.p12 (done_set d (by decide)), fun d => h.p13 (done_set d (by decide)), fun d => h.p14 (done_set d (by decide)), fun d => h.p15 (done_set d (by decide)), fun d => h.p16 (done_set d (by decide)), fun d => h.p17 (done_set d (by decide)), fun d => h.p18 (done_set d (by decide)), fun _ => hv, fun d => h.p20 (done_set d (by decide)), fun d => h.p21 (done_set d (by decide)), fun d => h.p22 (done_set d (by decide)), fun d => h.p23 (done_set d (by decide)), fun d => h.p24 (done_set d (by decide))⟩
theorem InR.set20 {L : Array Bool} {W : World} {a : PV} {m0 m1 m2 m3 : Int} {b1 b2 : Nat} {s5 s6 s7 s8 s9 s10 s11 s12 s13 s14 s15 s16 s17 s18 s19 s20 s21 s22 s23 s24 s25 s26 s27 s28 s4 : Value} {w : World} (h : InR L W a m0 m1 m2 m3 b1 b2 s5 s6 s7 s8 s9 s10 s11 s12 s13 s14 s15 s16 s17 s18 s19 s20 s21 s22 s23 s24 s25 s26 s27 s28 s4 w) (_hk : ¬ done L 20) {v : Value} (hv : v = undef) : InR (L.setIfInBounds 20 true) W a m0 m1 m2 m3 b1 b2 s5 s6 s7 s8 s9 s10 s11 s12 s13 s14 s15 s16 s17 s18 s19 s20 s21 s22 s23 s24 v s26 s27 s28 s4 w :=
  ⟨h.bel, fun d => h.p0 (done_set d (by decide)), fun d => h.p1 (done_set d (by decide)), fun d => h.p2 (done_set d (by decide)), fun d => h.c3 (done_set d (by decide)), fun d => h.p4 (done_set d (by decide)), fun d => h.p5 (done_set d (by decide)), fun d => h.p6 (done_set d (by decide)), fun d => h.p7 (done_set d (by decide)), fun d => h.p8 (done_set d (by decide)), fun d => h.c9 (done_set d (by decide)), fun d => h.c10 (done_set d (by decide)), fun d => h.p11 (done_set d (by decide)), fun d => h.p12 (done_set d (by decide)), fun d => h.p13 (done_set d (by decide)), fun d => h.p14 (done_set d (by decide)), fun d => h.p15 (done_set d (by decide)), fun d => h.p16 (done_set d (by decide)), fun d => h.p17 (done_set d (by decide)), fun d => h.p18 (done_set d (by decide)), fun d => h.p19 (done_set d (by decide)), fun _ => hv, fun d => h.p21 (done_set d (by decide)), fun d => h.p22 (done_set d (by decide)), fun d => h.p23 (done_set d (by decide)), fun d => h.p24 (done_set d (by decide))⟩
theorem InR.set21 {L : Array Bool} {W : World} {a : PV} {m0 m1 m2 m3 : Int} {b1 b2 : Nat} {s5 s6 s7 s8 s9 s10 s11 s12 s13 s14 s15 s16 s17 s18 s19 s20 s21 s22 s23 s24 s25 s26 s27 s28 s4 : Value} {w : World} (h : InR L W a m0 m1 m2 m3 b1 b2 s5 s6 s7 s8 s9 s10 s11 s12 s13 s14 s15 s16 s17 s18 s19 s20 s21 s22 s23 s24 s25 s26 s27 s28 s4 w) (_hk : ¬ done L 21) {v : Value} (hv : v = undef) : InR (L.setIfInBounds 21 true) W a m0 m1 m2 m3 b1 b2 s5 s6 s7 s8 s9 s10 s11 s12 s13 s14 s15 s16 s17 s18 s19 s20 s21 s22 s23 s24 s25 v s27 s28 s4 w :=
  ⟨h.bel, fun d => h.p0 (done_set d (by decide)), fun d => h.p1 (done_set d (by decide)), fun d => h.p2 (done_set d (by decide)), fun d => h.c3 (done_set d (by decide)), fun d => h.p4 (done_set d (by decide)), fun d => h.p5 (done_set d (by decide)), fun d => h.p6 (done_set d (by decide)), fun d => h.p7 (done_set d (by decide)), fun d => h.p8 (done_set d (by decide)), fun d => h.c9 (done_set d (by decide)), fun d => h.c10 (done_set d (by decide)), fun d => h.p11 (done_set d (by decide)), fun d => h.p12 (done_set d (by decide)), fun d => h.p13 (done_set d (by decide)), fun d => h.p14 (done_set d (by decide)), fun d => h.p15 (done_set d (by decide)), fun d => h.p16 (done_set d (by decide)), fun d => h.p17 (done_set d (by decide)), fun d => h.p18 (done_set d (by decide)), fun d => h.p19 (done_set d (by decide)), fun d => h.p20 (done_set d (by decide)), fun _ => hv, fun d => h.p22 (done_set d (by decide)), fun d => h.p23 (done_set d (by decide)), fun d => h.p24 (done_set d (by decide))⟩
theorem InR.set22 {L : Array Bool} {W : World} {a : PV} {m0 m1 m2 m3 : Int} {b1 b2 : Nat} {s5 s6 s7 s8 s9 s10 s11 s12 s13 s14 s15 s16 s17 s18 s19 s20 s21 s22 s23 s24 s25 s26 s27 s28 s4 : Value} {w : World} (h : InR L W a m0 m1 m2 m3 b1 b2 s5 s6 s7 s8 s9 s10 s11 s12 s13 s14 s15 s16 s17 s18 s19 s20 s21 s22 s23 s24 s25 s26 s27 s28 s4 w) (_hk : ¬ done L 22) {v : Value} (hv : v = undef) : InR (L.setIfInBounds 22 true) W a m0 m1 m2 m3 b1 b2 s5 s6 s7 s8 s9 s10 s11 s12 s13 s14 s15 s16 s17 s18 s19 s20 s21 s22 s23 s24 s25 s26 v s28 s4 w :=
  ⟨h.bel, fun d => h.p0 (done_set d (by decide)), fun d => h.p1 (done_set d (by decide)), fun d => h.p2 (done_set d (by decide)), fun d => h.c3 (done_set d (by decide)), fun d => h.p4 (done_set d (by decide)), fun d => h.p5 (done_set d (by decide)), fun d => h.p6 (done_set d (by decide)), fun d => h.p7 (done_set d (by decide)), fun d => h.p8 (done_set d (by decide)), fun d => h.c9 (done_set d (by decide)), fun d => h.c10 (done_set d (by decide)), fun d => h.p11 (done_set d (by decide)), fun d => h.p12 (done_set d (by decide)), fun d => h.p13 (done_set d (by decide)), fun d => h.p14 (done_set d (by decide)), fun d => h.p15 (done_set d (by decide)), fun d => h.p16 (done_set d (by decide)), fun d => h.p17 (done_set d (by decide)), fun d => h.p18 (done_set d (by decide)), fun d => h.p19 (done_set d (by decide)), fun d => h.p20 (done_set d (by decide)), fun d => h.p21 (done_set d (by decide)), fun _ => hv, fun d => h.p23 (done_set d (by decide)), fun d => h.p24 (done_set d (by decide))⟩
theorem InR.set23 {L : Array Bool} {W : World} {a : PV} {m0 m1 m2 m3 : Int} {b1 b2 : Nat} {s5 s6 s7 s8 s9 s10 s11 s12 s13 s14 s15 s16 s17 s18 s19 s20 s21 s22 s23 s24 s25 s26 s27 s28 s4 : Value} {w : World} (h : InR L W a m0 m1 m2 m3 b1 b2 s5 s6 s7 s8 s9 s10 s11 s12 s13 s14 s15 s16 s17 s18 s19 s20 s21 s22 s23 s24 s25 s26 s27 s28 s4 w) (_hk : ¬ done L 23) {v : Value} (hv : v = .bool false) : InR (L.setIfInBounds 23 true) W a m0 m1 m2 m3 b1 b2 s5 s6 s7 s8 s9 s10 s11 s12 s13 s14 s15 s16 s17 s18 s19 s20 s21 s22 s23 s24 s25 s26 s27 v s4 w :=
  ⟨h.bel, fun d => h.p0 (done_set d (by decide)), fun d => h.p1 (done_set d (by decide)), fun d => h.p2 (done_set d (by decide)), fun d => h.c3 (done_set d (by decide)), fun d => h.p4 (done_set d (by decide)), fun d => h.p5 (done_set d (by decide)), fun d => h.p6 (done_set d (by decide)), fun d => h.p7 (done_set d (by decide)), fun d => h.p8 (done_set d (by decide)), fun d => h.c9 (done_set d (by decide)), fun d => h.c10 (done_set d (by decide)), fun d => h.p11 (done_set d (by decide)), fun d => h.p12 (done_set d (by decide)), fun d => h.p13 (done_set d (by decide)), fun d => h.p14 (done_set d (by decide)), fun d => h.p15 (done_set d (by decide)), fun d => h.p16 (done_set d (by decide)), fun d => h.p17 (done_set d (by decide)), fun d => h.p18 (done_set d (by decide)), fun d => h.p19 (done_set d (by decide)), fun d => h.p20 (done_set d (by decide)), fun d => h.p21 (done_set d (by decide)), fun d => h.p22 (done_set d (by decide)), fun _ => hv, fun d => h.p24 (done_set d (by decide))⟩
theorem InR.set24 {L : Array Bool} {W : World} {a : PV} {m0 m1 m2 m3 : Int} {b1 b2 : Nat} {s5 s6 s7 s8 s9 s10 s11 s12 s13 s14 s15 s16 s17 s18 s19 s20 s21 s22 s23 s24 s25 s26 s27 s28 s4 : Value} {w : World} (h : InR L W a m0 m1 m2 m3 b1 b2 s5 s6 s7 s8 s9 s10 s11 s12 s13 s14 s15 s16 s17 s18 s19 s20 s21 s22 s23 s24 s25 s26 s27 s28 s4 w) (_hk : ¬ done L 24) {v : Value} (hv : v = .bool false) : InR (L.setIfInBounds 24 true) W a m0 m1 m2 m3 b1 b2 s5 s6 s7 s8 s9 s10 s11 s12 s13 s14 s15 s16 s17 s18 s19 s20 s21 s22 s23 s24 s25 s26 s27 s28 v w :=
  ⟨h.bel, fun d => h.p0 (done_set d (by decide)), fun d => h.p1 (done_set d (by decide)), fun d => h.p2 (done_set d (by decide)), fun d => h.c3 (done_set d (by decide)), fun d => h.p4 (done_set d (by decide)), fun d => h.p5 (done_set d (by decide)), fun d => h.p6 (done_set d (by decide)), fun d => h.p7 (done_set d (by decide)), fun d => h.p8 (done_set d (by decide)), fun d => h.c9 (done_set d (by decide)), fun d => h.c10 (done_set d (by decide)), fun d => h.p11 (done_set d (by decide)), fun d => h.p12 (done_set d (by decide)), fun d => h.p13 (done_set d (by decide)), fun d => h.p14 (done_set d (by decide)), fun d => h.p15 (done_set d (by decide)), fun d => h.p16 (done_set d (by decide)), fun d => h.p17 (done_set d (by decide)), fun d => h.p18 (done_set d (by decide)), fun d => h.p19 (done_set d (by decide)), fun d => h.p20 (done_set d (by decide)), fun d => h.p21 (done_set d (by decide)), fun d => h.p22 (done_set d (by decide)), fun d => h.p23 (done_set d (by decide)), fun _ => hv⟩
theorem InR.start {W : World} {a : PV} {m0 m1 m2 m3 : Int} {b1 b2 : Nat} {s5 s6 s7 s8 s9 s10 s11 s12 s13 s14 s15 s16 s17 s18 s19 s20 s21 s22 s23 s24 s25 s26 s27 s28 s4 : Value} : InR (Array.replicate 25 false) W a m0 m1 m2 m3 b1 b2 s5 s6 s7 s8 s9 s10 s11 s12 s13 s14 s15 s16 s17 s18 s19 s20 s21 s22 s23 s24 s25 s26 s27 s28 s4 W.drew :=
  ⟨Below.drew (Below.refl _ _), fun d => absurd d (done_none _ _), fun d => absurd d (done_none _ _), fun d => absurd d (done_none _ _), fun d => absurd d (done_none _ _), fun d => absurd d (done_none _ _), fun d => absurd d (done_none _ _), fun d => absurd d (done_none _ _), fun d => absurd d (done_none _ _), fun d => absurd d (done_none _ _), fun d => absurd d (done_none _ _), fun d => absurd d (done_none _ _), fun d => absurd d (done_none _ _), fun d => absurd d (done_none _ _), fun d => absurd d (done_none _ _), fun d => absurd d (done_none _ _), fun d => absurd d (done_none _ _), fun d => absurd d (done_none _ _), fun d => absurd d (done_none _ _), fun d => absurd d (done_none _ _), fun d => absurd d (done_none _ _), fun d => absurd d (done_none _ _), fun d => absurd d (done_none _ _), fun d => absurd d (done_none _ _), fun d => absurd d (done_none _ _), fun d => absurd d (done_none _ _)⟩
/-- The same of a frame. -/
def InRJ (W : World) (a : PV) (m0 m1 m2 m3 : Int) (b1 b2 : Nat)  (L : Array Bool) (ac : Act) (wx : World) : Prop := ∃ s5 s6 s7 s8 s9 s10 s11 s12 s13 s14 s15 s16 s17 s18 s19 s20 s21 s22 s23 s24 s25 s26 s27 s28 s4 : Value, ac = { tmps := #[.agg #[.int .i64 m0, .int .i64 m1, .int .i64 m2, .int .i64 m3], .agg #[.bool a.x.p.neg, .slice a.x.p.A a.x.p.n a.x.p.c, .bool a.x.l.neg, .slice a.x.l.A a.x.l.n a.x.l.c, .bool a.y.p.neg, .slice a.y.p.A a.y.p.n a.y.p.c, .bool a.y.l.neg, .slice a.y.l.A a.y.l.n a.y.l.c], .pointer (some ⟨b1, 0, none⟩), .pointer (some ⟨b2, 0, none⟩), s4, s5, s6, s7, s8, s9, s10, s11, s12, s13, s14, s15, s16, s17, s18, s19, s20, s21, s22, s23, s24, s25, s26, s27, s28], defers := [] } ∧ L.size = 25 ∧ InR L W a m0 m1 m2 m3 b1 b2 s5 s6 s7 s8 s9 s10 s11 s12 s13 s14 s15 s16 s17 s18 s19 s20 s21 s22 s23 s24 s25 s26 s27 s28 s4 wx
--REGEND
/-- Whether a point lies in a box. -/
def inB (m0 m1 m2 m3 p q r s : Int) : Bool := (decide (m0 * q ≤ p * 1) && decide (p * 1 ≤ m2 * q)) && (decide (m1 * s ≤ r * 1) && decide (r * 1 ≤ m3 * s))
set_option maxRecDepth 100000 in
set_option maxHeartbeats 3200000 in
theorem PIn_any {a : PV} {m0 m1 m2 m3 p q r s : Int} {w : World} (ha : a.is w p q r s) (hm0 : Hid (in64 m0)) (hm1 : Hid (in64 m1)) (hm2 : Hid (in64 m2)) (hm3 : Hid (in64 m3)) : Calls Tryd.prog 24 #[.agg #[.int .i64 m0, .int .i64 m1, .int .i64 m2, .int .i64 m3], .agg #[.bool a.x.p.neg, .slice a.x.p.A a.x.p.n a.x.p.c, .bool a.x.l.neg, .slice a.x.l.A a.x.l.n a.x.l.c, .bool a.y.p.neg, .slice a.y.p.A a.y.p.n a.y.p.c, .bool a.y.l.neg, .slice a.y.l.A a.y.l.n a.y.l.c]] w (RetB w (inB m0 m1 m2 m3 p q r s)) := by
  go_enter Tryd.func24, Tryd.ntmps24
  go_upto_region 1 with fail
  have hS1 := (Own.newB w 56 m0 m1 m2 m3).alloc (.cells #[.bool a.x.p.neg, .slice a.x.p.A a.x.p.n a.x.p.c, .bool a.x.l.neg, .slice a.x.l.A a.x.l.n a.x.l.c, .bool a.y.p.neg, .slice a.y.p.A a.y.p.n a.y.p.c, .bool a.y.l.neg, .slice a.y.l.A a.y.l.n a.y.l.c] 31)
  have hS2 := Own.newPt (w.alloc (.cells #[.int .i64 m0, .int .i64 m1, .int .i64 m2, .int .i64 m3] 56)) 31 a
  have hB : Below w.heap.size w ((w.alloc (.cells #[.int .i64 m0, .int .i64 m1, .int .i64 m2, .int .i64 m3] 56)).alloc (.cells #[.bool a.x.p.neg, .slice a.x.p.A a.x.p.n a.x.p.c, .bool a.x.l.neg, .slice a.x.l.A a.x.l.n a.x.l.c, .bool a.y.p.neg, .slice a.y.p.A a.y.p.n a.y.p.c, .bool a.y.l.neg, .slice a.y.l.A a.y.l.n a.y.l.c] 31)) := by go_grown
  have hgs : (w.alloc (.cells #[.int .i64 m0, .int .i64 m1, .int .i64 m2, .int .i64 m3] 56)).heap.size = w.heap.size + 1 := by simp
  rw [hgs] at hS2
  clear hgs
  generalize (w.alloc (.cells #[.int .i64 m0, .int .i64 m1, .int .i64 m2, .int .i64 m3] 56)).alloc (.cells #[.bool a.x.p.neg, .slice a.x.p.A a.x.p.n a.x.p.c, .bool a.x.l.neg, .slice a.x.l.A a.x.l.n a.x.l.c, .bool a.y.p.neg, .slice a.y.p.A a.y.p.n a.y.p.c, .bool a.y.l.neg, .slice a.y.l.A a.y.l.n a.y.l.c] 31) = W at hS1 hS2 hB ⊢
  have haW := ha.on hB
  obtain ⟨b1, hb1⟩ : ∃ b1, b1 = w.heap.size := ⟨_, rfl⟩
  obtain ⟨b2, hb2⟩ : ∃ b2, b2 = w.heap.size + 1 := ⟨_, rfl⟩
  rw [← hb2] at hS2 ⊢
  rw [← hb1] at hS1 ⊢
  clear hb1 hb2
  obtain ⟨t1, ht1⟩ : ∃ t1, (decide (m0 * q ≤ p * 1) && decide (p * 1 ≤ m2 * q)) = t1 := ⟨_, rfl⟩
  obtain ⟨t2, ht2⟩ : ∃ t2, (decide (m1 * s ≤ r * 1) && decide (r * 1 ≤ m3 * s)) = t2 := ⟨_, rfl⟩
  have HV : Hid (inB m0 m1 m2 m3 p q r s = (t1 && t2)) := Lib.hid (by rw [← ht1, ← ht2]; rfl)
  have HT1 := Lib.hid ht1
  have HT2 := Lib.hid ht2
  clear ht1 ht2
  cases t1
  · have hS3 := hS1
    --PROOF
    refine region_inv (by kernel_rfl) (InRJ W a m0 m1 m2 m3 b1 b2 ) ?_ ?_ ?_
    · exact ⟨_, _, _, _, _, _, _, _, _, _, _, _, _, _, _, _, _, _, _, _, _, _, _, _, _, rfl, by simp, InR.start⟩
    · intro L a wx i hJ hi
      obtain ⟨hlt, hnd, hdep⟩ := ready_spec hi
      obtain ⟨s5, s6, s7, s8, s9, s10, s11, s12, s13, s14, s15, s16, s17, s18, s19, s20, s21, s22, s23, s24, s25, s26, s27, s28, s4, rfl, hsz, h⟩ := hJ
      have hlt2 : i < 25 := hlt
      clear hi hlt
      rcases (by omega : i = 0 ∨ i = 1 ∨ i = 2 ∨ i = 3 ∨ i = 4 ∨ i = 5 ∨ i = 6 ∨ i = 7 ∨ i = 8 ∨ i = 9 ∨ i = 10 ∨ i = 11 ∨ i = 12 ∨ i = 13 ∨ i = 14 ∨ i = 15 ∨ i = 16 ∨ i = 17 ∨ i = 18 ∨ i = 19 ∨ i = 20 ∨ i = 21 ∨ i = 22 ∨ i = 23 ∨ i = 24) with rfl | rfl | rfl | rfl | rfl | rfl | rfl | rfl | rfl | rfl | rfl | rfl | rfl | rfl | rfl | rfl | rfl | rfl | rfl | rfl | rfl | rfl | rfl | rfl | rfl
      · clear hdep
        refine wpOp_step rfl (fun K hK => ?_)
        go_wp2_with fail
        exact ⟨_, _, _, _, _, _, _, _, _, _, _, _, _, _, _, _, _, _, _, _, _, _, _, _, _, rfl, by simp [hsz], h.set0 hnd rfl⟩
      · have d0 : done L 0 := hdep _ rfl { on := 0, ground := Ground.data } (by simp) rfl
        have e0 := h.p0 d0
        subst e0
        clear hdep
        refine wpOp_step rfl (fun K hK => ?_)
        go_wp2_with fail
        exact ⟨_, _, _, _, _, _, _, _, _, _, _, _, _, _, _, _, _, _, _, _, _, _, _, _, _, rfl, by simp [hsz], h.set1 hnd rfl⟩
      · have d1 : done L 1 := hdep _ rfl { on := 1, ground := Ground.data } (by simp) rfl
        have e1 := h.p1 d1
        subst e1
        have l0 := (hS1.on h.bel).c0
        clear hdep
        refine wpOp_step rfl (fun K hK => ?_)
        go_wp2_with fail
        exact ⟨_, _, _, _, _, _, _, _, _, _, _, _, _, _, _, _, _, _, _, _, _, _, _, _, _, rfl, by simp [hsz], h.set2 hnd rfl⟩
      · have d2 : done L 2 := hdep _ rfl { on := 2, ground := Ground.data } (by simp) rfl
        have e2 := h.p2 d2
        subst e2
        clear hdep
        refine wpOp_step rfl (fun K hK => ?_)
        go_wp2_with fail
        refine (whole_b (W := W) (ib hm0) h.bel).mono ?_
        rintro e v ⟨v, rfl, j, k, hr⟩
        go_wp2_with fail
        exact ⟨_, _, _, _, _, _, _, _, _, _, _, _, _, _, _, _, _, _, _, _, _, _, _, _, _, rfl, by simp [hsz], (h.up k).set3 hnd hr⟩
      · clear hdep
        refine wpOp_step rfl (fun K hK => ?_)
        go_wp2_with fail
        exact ⟨_, _, _, _, _, _, _, _, _, _, _, _, _, _, _, _, _, _, _, _, _, _, _, _, _, rfl, by simp [hsz], h.set4 hnd rfl⟩
      · have d4 : done L 4 := hdep _ rfl { on := 4, ground := Ground.data } (by simp) rfl
        have e4 := h.p4 d4
        subst e4
        have l0 := (hS2.on h.bel).c0
        have l1 := (hS2.on h.bel).c1
        have l2 := (hS2.on h.bel).c2
        have l3 := (hS2.on h.bel).c3
        clear hdep
        refine wpOp_step rfl (fun K hK => ?_)
        go_wp2_with fail
        exact ⟨_, _, _, _, _, _, _, _, _, _, _, _, _, _, _, _, _, _, _, _, _, _, _, _, _, rfl, by simp [hsz], h.set5 hnd rfl⟩
      · clear hdep
        refine wpOp_step rfl (fun K hK => ?_)
        go_wp2_with fail
        exact ⟨_, _, _, _, _, _, _, _, _, _, _, _, _, _, _, _, _, _, _, _, _, _, _, _, _, rfl, by simp [hsz], h.set6 hnd rfl⟩
      · have d6 : done L 6 := hdep _ rfl { on := 6, ground := Ground.data } (by simp) rfl
        have e6 := h.p6 d6
        subst e6
        clear hdep
        refine wpOp_step rfl (fun K hK => ?_)
        go_wp2_with fail
        exact ⟨_, _, _, _, _, _, _, _, _, _, _, _, _, _, _, _, _, _, _, _, _, _, _, _, _, rfl, by simp [hsz], h.set7 hnd rfl⟩
      · have d7 : done L 7 := hdep _ rfl { on := 7, ground := Ground.data } (by simp) rfl
        have e7 := h.p7 d7
        subst e7
        have l0 := (hS1.on h.bel).c2
        clear hdep
        refine wpOp_step rfl (fun K hK => ?_)
        go_wp2_with fail
        exact ⟨_, _, _, _, _, _, _, _, _, _, _, _, _, _, _, _, _, _, _, _, _, _, _, _, _, rfl, by simp [hsz], h.set8 hnd rfl⟩
      · have d8 : done L 8 := hdep _ rfl { on := 8, ground := Ground.data } (by simp) rfl
        have e8 := h.p8 d8
        subst e8
        clear hdep
        refine wpOp_step rfl (fun K hK => ?_)
        go_wp2_with fail
        refine (whole_b (W := W) (ib hm2) h.bel).mono ?_
        rintro e v ⟨v, rfl, j, k, hr⟩
        go_wp2_with fail
        exact ⟨_, _, _, _, _, _, _, _, _, _, _, _, _, _, _, _, _, _, _, _, _, _, _, _, _, rfl, by simp [hsz], (h.up k).set9 hnd hr⟩
      · have d3 : done L 3 := hdep _ rfl { on := 3, ground := Ground.data } (by simp) rfl
        have d5 : done L 5 := hdep _ rfl { on := 5, ground := Ground.data } (by simp) rfl
        have d9 : done L 9 := hdep _ rfl { on := 9, ground := Ground.data } (by simp) rfl
        obtain ⟨x3, e3, hx3⟩ := h.c3 d3
        have e5 := h.p5 d5
        obtain ⟨x9, e9, hx9⟩ := h.c9 d9
        subst e3
        subst e5
        subst e9
        clear hdep
        refine wpOp_step rfl (fun K hK => ?_)
        go_wp2_with fail
        refine (within_bb (W := W) (x := a.x) hx3 (haW.x.on h.bel) hx9 HT1.out h.bel).mono ?_
        rintro e v ⟨v, rfl, j, k, hr⟩
        go_wp2_with fail
        exact ⟨_, _, _, _, _, _, _, _, _, _, _, _, _, _, _, _, _, _, _, _, _, _, _, _, _, rfl, by simp [hsz], (h.up k).set10 hnd hr⟩
      · have d10 : done L 10 := hdep _ rfl { on := 10, ground := Ground.data } (by simp) rfl
        obtain ⟨x10, e10, rfl⟩ := h.c10 d10
        subst e10
        clear hdep
        refine wpOp_step rfl (fun K hK => ?_)
        go_wp2_with fail
        exact ⟨_, _, _, _, _, _, _, _, _, _, _, _, _, _, _, _, _, _, _, _, _, _, _, _, _, rfl, by simp [hsz], h.set11 hnd rfl⟩
      · have d11 : done L 11 := hdep _ rfl { on := 11, ground := Ground.guard } (by simp) rfl
        have e11 := h.p11 d11
        subst e11
        clear hdep
        refine wpOp_step rfl (fun K hK => ?_)
        go_wp2_with fail
        exact ⟨_, _, _, _, _, _, _, _, _, _, _, _, _, _, _, _, _, _, _, _, _, _, _, _, _, rfl, by simp [hsz], h.set12 hnd rfl⟩
      · have d11 : done L 11 := hdep _ rfl { on := 11, ground := Ground.guard } (by simp) rfl
        have e11 := h.p11 d11
        subst e11
        clear hdep
        refine wpOp_step rfl (fun K hK => ?_)
        go_wp2_with fail
        exact ⟨_, _, _, _, _, _, _, _, _, _, _, _, _, _, _, _, _, _, _, _, _, _, _, _, _, rfl, by simp [hsz], h.set13 hnd rfl⟩
      · have d11 : done L 11 := hdep _ rfl { on := 11, ground := Ground.guard } (by simp) rfl
        have e11 := h.p11 d11
        subst e11
        clear hdep
        refine wpOp_step rfl (fun K hK => ?_)
        go_wp2_with fail
        exact ⟨_, _, _, _, _, _, _, _, _, _, _, _, _, _, _, _, _, _, _, _, _, _, _, _, _, rfl, by simp [hsz], h.set14 hnd rfl⟩
      · have d11 : done L 11 := hdep _ rfl { on := 11, ground := Ground.guard } (by simp) rfl
        have e11 := h.p11 d11
        subst e11
        clear hdep
        refine wpOp_step rfl (fun K hK => ?_)
        go_wp2_with fail
        exact ⟨_, _, _, _, _, _, _, _, _, _, _, _, _, _, _, _, _, _, _, _, _, _, _, _, _, rfl, by simp [hsz], h.set15 hnd rfl⟩
      · have d11 : done L 11 := hdep _ rfl { on := 11, ground := Ground.guard } (by simp) rfl
        have e11 := h.p11 d11
        subst e11
        clear hdep
        refine wpOp_step rfl (fun K hK => ?_)
        go_wp2_with fail
        exact ⟨_, _, _, _, _, _, _, _, _, _, _, _, _, _, _, _, _, _, _, _, _, _, _, _, _, rfl, by simp [hsz], h.set16 hnd rfl⟩
      · have d11 : done L 11 := hdep _ rfl { on := 11, ground := Ground.guard } (by simp) rfl
        have e11 := h.p11 d11
        subst e11
        clear hdep
        refine wpOp_step rfl (fun K hK => ?_)
        go_wp2_with fail
        exact ⟨_, _, _, _, _, _, _, _, _, _, _, _, _, _, _, _, _, _, _, _, _, _, _, _, _, rfl, by simp [hsz], h.set17 hnd rfl⟩
      · have d11 : done L 11 := hdep _ rfl { on := 11, ground := Ground.guard } (by simp) rfl
        have e11 := h.p11 d11
        subst e11
        clear hdep
        refine wpOp_step rfl (fun K hK => ?_)
        go_wp2_with fail
        exact ⟨_, _, _, _, _, _, _, _, _, _, _, _, _, _, _, _, _, _, _, _, _, _, _, _, _, rfl, by simp [hsz], h.set18 hnd rfl⟩
      · have d11 : done L 11 := hdep _ rfl { on := 11, ground := Ground.guard } (by simp) rfl
        have e11 := h.p11 d11
        subst e11
        clear hdep
        refine wpOp_step rfl (fun K hK => ?_)
        go_wp2_with fail
        exact ⟨_, _, _, _, _, _, _, _, _, _, _, _, _, _, _, _, _, _, _, _, _, _, _, _, _, rfl, by simp [hsz], h.set19 hnd rfl⟩
      · have d11 : done L 11 := hdep _ rfl { on := 11, ground := Ground.guard } (by simp) rfl
        have e11 := h.p11 d11
        subst e11
        clear hdep
        refine wpOp_step rfl (fun K hK => ?_)
        go_wp2_with fail
        exact ⟨_, _, _, _, _, _, _, _, _, _, _, _, _, _, _, _, _, _, _, _, _, _, _, _, _, rfl, by simp [hsz], h.set20 hnd rfl⟩
      · have d11 : done L 11 := hdep _ rfl { on := 11, ground := Ground.guard } (by simp) rfl
        have e11 := h.p11 d11
        subst e11
        clear hdep
        refine wpOp_step rfl (fun K hK => ?_)
        go_wp2_with fail
        exact ⟨_, _, _, _, _, _, _, _, _, _, _, _, _, _, _, _, _, _, _, _, _, _, _, _, _, rfl, by simp [hsz], h.set21 hnd rfl⟩
      · have d11 : done L 11 := hdep _ rfl { on := 11, ground := Ground.guard } (by simp) rfl
        have e11 := h.p11 d11
        subst e11
        clear hdep
        refine wpOp_step rfl (fun K hK => ?_)
        go_wp2_with fail
        exact ⟨_, _, _, _, _, _, _, _, _, _, _, _, _, _, _, _, _, _, _, _, _, _, _, _, _, rfl, by simp [hsz], h.set22 hnd rfl⟩
      · have d11 : done L 11 := hdep _ rfl { on := 11, ground := Ground.data } (by simp) rfl
        have e11 := h.p11 d11
        subst e11
        clear hdep
        refine wpOp_step rfl (fun K hK => ?_)
        go_wp2_with fail
        exact ⟨_, _, _, _, _, _, _, _, _, _, _, _, _, _, _, _, _, _, _, _, _, _, _, _, _, rfl, by simp [hsz], h.set23 hnd rfl⟩
      · have d23 : done L 23 := hdep _ rfl { on := 23, ground := Ground.data } (by simp) rfl
        have e23 := h.p23 d23
        subst e23
        clear hdep
        refine wpOp_step rfl (fun K hK => ?_)
        go_wp2_with fail
        exact ⟨_, _, _, _, _, _, _, _, _, _, _, _, _, _, _, _, _, _, _, _, _, _, _, _, _, rfl, by simp [hsz], h.set24 hnd rfl⟩
    · intro L a wx hJ hr
      obtain ⟨s5, s6, s7, s8, s9, s10, s11, s12, s13, s14, s15, s16, s17, s18, s19, s20, s21, s22, s23, s24, s25, s26, s27, s28, s4, rfl, hsz, h⟩ := hJ
      have D := all_done hr hsz (by kernel_rfl)
      have D2 : ∀ k, k < 25 → done L k := D
      clear D
    --PROOFEND
      have e4 := h.p24 (D2 24 (by omega))
      have hb9 := Below.call hB h.bel
      subst e4
      clear h D2
      go_wp2
      go_returns
      exact ⟨by rw [HV.out]; simp, hb9⟩
  · go_region_held3 (fun w' => w'.cell? ⟨b1, 0, none⟩ = some (.int .i64 m0) ∧ w'.cell? ⟨b1, 1, none⟩ = some (.int .i64 m1) ∧ w'.cell? ⟨b1, 2, none⟩ = some (.int .i64 m2) ∧ w'.cell? ⟨b1, 3, none⟩ = some (.int .i64 m3) ∧ w'.cell? ⟨b2, 0, none⟩ = some (.bool a.x.p.neg) ∧ w'.cell? ⟨b2, 1, none⟩ = some (.slice a.x.p.A a.x.p.n a.x.p.c) ∧ w'.cell? ⟨b2, 2, none⟩ = some (.bool a.x.l.neg) ∧ w'.cell? ⟨b2, 3, none⟩ = some (.slice a.x.l.A a.x.l.n a.x.l.c) ∧ w'.cell? ⟨b2, 4, none⟩ = some (.bool a.y.p.neg) ∧ w'.cell? ⟨b2, 5, none⟩ = some (.slice a.y.p.A a.y.p.n a.y.p.c) ∧ w'.cell? ⟨b2, 6, none⟩ = some (.bool a.y.l.neg) ∧ w'.cell? ⟨b2, 7, none⟩ = some (.slice a.y.l.A a.y.l.n a.y.l.c))
      (first | with_reducible exact ⟨hS1.drew.c0, hS1.drew.c1, hS1.drew.c2, hS1.drew.c3, hS2.drew.c0, hS2.drew.c1, hS2.drew.c2, hS2.drew.c3, hS2.drew.c4, hS2.drew.c5, hS2.drew.c6, hS2.drew.c7⟩ | with_reducible exact ⟨hT1.c0, hT1.c1, hT1.c2, hT1.c3, hT2.c0, hT2.c1, hT2.c2, hT2.c3, hT2.c4, hT2.c5, hT2.c6, hT2.c7⟩ | with_reducible exact ⟨hU1.c0, hU1.c1, hU1.c2, hU1.c3, hU2.c0, hU2.c1, hU2.c2, hU2.c3, hU2.c4, hU2.c5, hU2.c6, hU2.c7⟩ | with_reducible exact ⟨hV1.c0, hV1.c1, hV1.c2, hV1.c3, hV2.c0, hV2.c1, hV2.c2, hV2.c3, hV2.c4, hV2.c5, hV2.c6, hV2.c7⟩ | with_reducible exact ⟨hX1.c0, hX1.c1, hX1.c2, hX1.c3, hX2.c0, hX2.c1, hX2.c2, hX2.c3, hX2.c4, hX2.c5, hX2.c6, hX2.c7⟩ | with_reducible exact ⟨hY1.c0, hY1.c1, hY1.c2, hY1.c3, hY2.c0, hY2.c1, hY2.c2, hY2.c3, hY2.c4, hY2.c5, hY2.c6, hY2.c7⟩ | with_reducible exact ⟨hZ1.c0, hZ1.c1, hZ1.c2, hZ1.c3, hZ2.c0, hZ2.c1, hZ2.c2, hZ2.c3, hZ2.c4, hZ2.c5, hZ2.c6, hZ2.c7⟩)
      (first
        | (go_at_call 39; (with_reducible refine (whole_any m0 _ (ib hm0).1 (ib hm0).2).mono ?_); rintro e w1 ⟨f1, rfl, k1', hf1⟩; have k1 := Below.of_drew k1'; have hT1 := hS1.on k1; have hT2 := hS2.on k1; have hB1 := Below.call hB k1; have ha1 := haW.on k1)
        | (go_at_call 39; (with_reducible refine (whole_any m2 _ (ib hm2).1 (ib hm2).2).mono ?_); rintro e w2 ⟨f2, rfl, k2, hf2⟩; have hU1 := hT1.on k2; have hU2 := hT2.on k2; have hB2 := Below.call hB1 k2; have ha2 := ha1.on k2; have hf1' := hf1.on k2)
        | (go_at_call 52; (with_reducible refine (within_b hf1' ha2.x hf2 HT1.out).mono ?_); rintro e w3 ⟨rfl, k3⟩; have hV1 := hU1.on k3; have hV2 := hU2.on k3; have hB3 := Below.call hB2 k3; have ha3 := ha2.on k3)
        | (go_at_call 39; (with_reducible refine (whole_any m1 _ (ib hm1).1 (ib hm1).2).mono ?_); rintro e w4 ⟨f4, rfl, k4, hf4⟩; have hX1 := hV1.on k4; have hX2 := hV2.on k4; have hB4 := Below.call hB3 k4; have ha4 := ha3.on k4)
        | (go_at_call 39; (with_reducible refine (whole_any m3 _ (ib hm3).1 (ib hm3).2).mono ?_); rintro e w5 ⟨f5, rfl, k5, hf5⟩; have hY1 := hX1.on k5; have hY2 := hX2.on k5; have hB5 := Below.call hB4 k5; have ha5 := ha4.on k5; have hf4' := hf4.on k5)
        | (go_at_call 52; (with_reducible refine (within_b hf4' ha5.y hf5 HT2.out).mono ?_); rintro e w6 ⟨rfl, k6⟩; have hZ1 := hY1.on k6; have hZ2 := hY2.on k6; have hB6 := Below.call hB5 k6))
    clear hT1 hT2 hU1 hU2 hV1 hV2 hX1 hX2 hY1 hY2 hZ1 hZ2
    go_wp2
    go_returns
    exact ⟨by rw [HV.out]; simp, hB6⟩
end Go.Proofs.YthcpaagfgkbjaaaDoor
