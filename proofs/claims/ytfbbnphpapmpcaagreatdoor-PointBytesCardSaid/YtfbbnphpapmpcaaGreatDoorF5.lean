/-
  Contracts of package frac: Compare.
-/
import Derived.Test.YtfbbnphpapmpcaaGreatDoorF4
namespace Go.Proofs.YtfbbnphpapmpcaaGreatDoor
open Go.RowKit Mag
/-- What holds when the operations L of the region have come up. -/
structure CmpR (L : Array Bool) (W : World) (f g : FV) (q s : Int) (b1 b2 : Nat) (s16 s17 s18 s19 s20 s21 s22 s23 s5 s6 s7 s8 : Value) (w : World) : Prop where
  bel : Below W.heap.size W w
  p0 : done L 0 → s16 = .pointer (some ⟨b1, 0, none⟩)
  p1 : done L 1 → s17 = .agg #[.bool f.p.neg, .slice f.p.A f.p.n f.p.c]
  p2 : done L 2 → s18 = .agg #[.bool f.p.neg, .slice f.p.A f.p.n f.p.c, .bool f.l.neg, .slice f.l.A f.l.n f.l.c]
  c3 : done L 3 → IsI w s19 q
  p4 : done L 4 → s20 = .pointer (some ⟨b2, 0, none⟩)
  p5 : done L 5 → s21 = .agg #[.bool g.p.neg, .slice g.p.A g.p.n g.p.c]
  p6 : done L 6 → s22 = .agg #[.bool g.p.neg, .slice g.p.A g.p.n g.p.c, .bool g.l.neg, .slice g.l.A g.l.n g.l.c]
  c7 : done L 7 → IsI w s23 s
  a8 : done L 8 → BoxAt W w 29 s5 (done L 12) s17
  a9 : done L 9 → BoxAt W w 29 s6 (done L 13) s19
  a10 : done L 10 → BoxAt W w 29 s7 (done L 14) s21
  a11 : done L 11 → BoxAt W w 29 s8 (done L 15) s23
  e12 : done L 12 → done L 8 ∧ done L 1
  e13 : done L 13 → done L 9 ∧ done L 3
  e14 : done L 14 → done L 10 ∧ done L 5
  e15 : done L 15 → done L 11 ∧ done L 7
  n8_9 : done L 8 → done L 9 → s5 ≠ s6
  n8_10 : done L 8 → done L 10 → s5 ≠ s7
  n8_11 : done L 8 → done L 11 → s5 ≠ s8
  n9_10 : done L 9 → done L 10 → s6 ≠ s7
  n9_11 : done L 9 → done L 11 → s6 ≠ s8
  n10_11 : done L 10 → done L 11 → s7 ≠ s8
theorem CmpR.up {L : Array Bool} {W : World} {f g : FV} {q s : Int} {b1 b2 : Nat} {s16 s17 s18 s19 s20 s21 s22 s23 s5 s6 s7 s8 : Value} {w : World} (h : CmpR L W f g q s b1 b2 s16 s17 s18 s19 s20 s21 s22 s23 s5 s6 s7 s8 w) {w' : World} (hb : Below w.heap.size w w') : CmpR L W f g q s b1 b2 s16 s17 s18 s19 s20 s21 s22 s23 s5 s6 s7 s8 w' :=
  ⟨Below.call h.bel hb, h.p0, h.p1, h.p2, fun d => (h.c3 d).on hb, h.p4, h.p5, h.p6, fun d => (h.c7 d).on hb, fun d => (h.a8 d).on hb, fun d => (h.a9 d).on hb, fun d => (h.a10 d).on hb, fun d => (h.a11 d).on hb, h.e12, h.e13, h.e14, h.e15, h.n8_9, h.n8_10, h.n8_11, h.n9_10, h.n9_11, h.n10_11⟩
theorem CmpR.set0 {L : Array Bool} {W : World} {f g : FV} {q s : Int} {b1 b2 : Nat} {s16 s17 s18 s19 s20 s21 s22 s23 s5 s6 s7 s8 : Value} {w : World} (h : CmpR L W f g q s b1 b2 s16 s17 s18 s19 s20 s21 s22 s23 s5 s6 s7 s8 w) (_hk : ¬ done L 0) {v : Value} (hv : v = .pointer (some ⟨b1, 0, none⟩)) : CmpR (L.setIfInBounds 0 true) W f g q s b1 b2 v s17 s18 s19 s20 s21 s22 s23 s5 s6 s7 s8 w :=
  ⟨h.bel, fun _ => hv, fun d => h.p1 (done_set d (by decide)), fun d => h.p2 (done_set d (by decide)), fun d => h.c3 (done_set d (by decide)), fun d => h.p4 (done_set d (by decide)), fun d => h.p5 (done_set d (by decide)), fun d => h.p6 (done_set d (by decide)), fun d => h.c7 (done_set d (by decide)), fun d => (h.a8 (done_set d (by decide))).imp (fun x => done_set x (by decide)), fun d => (h.a9 (done_set d (by decide))).imp (fun x => done_set x (by decide)), fun d => (h.a10 (done_set d (by decide))).imp (fun x => done_set x (by decide)), fun d => (h.a11 (done_set d (by decide))).imp (fun x => done_set x (by decide)), fun d => ⟨done_up (h.e12 (done_set d (by decide))).1, done_up (h.e12 (done_set d (by decide))).2⟩, fun d => ⟨done_up (h.e13 (done_set d (by decide))).1, done_up (h.e13 (done_set d (by decide))).2⟩, fun d => ⟨done_up (h.e14 (done_set d (by decide))).1, done_up (h.e14 (done_set d (by decide))).2⟩, fun d => ⟨done_up (h.e15 (done_set d (by decide))).1, done_up (h.e15 (done_set d (by decide))).2⟩, fun d d2 => h.n8_9 (done_set d (by decide)) (done_set d2 (by decide)), fun d d2 => h.n8_10 (done_set d (by decide)) (done_set d2 (by decide)), fun d d2 => h.n8_11 (done_set d (by decide)) (done_set d2 (by decide)), fun d d2 => h.n9_10 (done_set d (by decide)) (done_set d2 (by decide)), fun d d2 => h.n9_11 (done_set d (by decide)) (done_set d2 (by decide)), fun d d2 => h.n10_11 (done_set d (by decide)) (done_set d2 (by decide))⟩
theorem CmpR.set1 {L : Array Bool} {W : World} {f g : FV} {q s : Int} {b1 b2 : Nat} {s16 s17 s18 s19 s20 s21 s22 s23 s5 s6 s7 s8 : Value} {w : World} (h : CmpR L W f g q s b1 b2 s16 s17 s18 s19 s20 s21 s22 s23 s5 s6 s7 s8 w) (hk : ¬ done L 1) {v : Value} (hv : v = .agg #[.bool f.p.neg, .slice f.p.A f.p.n f.p.c]) : CmpR (L.setIfInBounds 1 true) W f g q s b1 b2 s16 v s18 s19 s20 s21 s22 s23 s5 s6 s7 s8 w :=
  ⟨h.bel, fun d => h.p0 (done_set d (by decide)), fun _ => hv, fun d => h.p2 (done_set d (by decide)), fun d => h.c3 (done_set d (by decide)), fun d => h.p4 (done_set d (by decide)), fun d => h.p5 (done_set d (by decide)), fun d => h.p6 (done_set d (by decide)), fun d => h.c7 (done_set d (by decide)), fun d => (h.a8 (done_set d (by decide))).resrc (fun x => hk (h.e12 (done_set x (by decide))).2), fun d => (h.a9 (done_set d (by decide))).imp (fun x => done_set x (by decide)), fun d => (h.a10 (done_set d (by decide))).imp (fun x => done_set x (by decide)), fun d => (h.a11 (done_set d (by decide))).imp (fun x => done_set x (by decide)), fun d => ⟨done_up (h.e12 (done_set d (by decide))).1, done_up (h.e12 (done_set d (by decide))).2⟩, fun d => ⟨done_up (h.e13 (done_set d (by decide))).1, done_up (h.e13 (done_set d (by decide))).2⟩, fun d => ⟨done_up (h.e14 (done_set d (by decide))).1, done_up (h.e14 (done_set d (by decide))).2⟩, fun d => ⟨done_up (h.e15 (done_set d (by decide))).1, done_up (h.e15 (done_set d (by decide))).2⟩, fun d d2 => h.n8_9 (done_set d (by decide)) (done_set d2 (by decide)), fun d d2 => h.n8_10 (done_set d (by decide)) (done_set d2 (by decide)), fun d d2 => h.n8_11 (done_set d (by decide)) (done_set d2 (by decide)), fun d d2 => h.n9_10 (done_set d (by decide)) (done_set d2 (by decide)), fun d d2 => h.n9_11 (done_set d (by decide)) (done_set d2 (by decide)), fun d d2 => h.n10_11 (done_set d (by decide)) (done_set d2 (by decide))⟩
theorem CmpR.set2 {L : Array Bool} {W : World} {f g : FV} {q s : Int} {b1 b2 : Nat} {s16 s17 s18 s19 s20 s21 s22 s23 s5 s6 s7 s8 : Value} {w : World} (h : CmpR L W f g q s b1 b2 s16 s17 s18 s19 s20 s21 s22 s23 s5 s6 s7 s8 w) (_hk : ¬ done L 2) {v : Value} (hv : v = .agg #[.bool f.p.neg, .slice f.p.A f.p.n f.p.c, .bool f.l.neg, .slice f.l.A f.l.n f.l.c]) : CmpR (L.setIfInBounds 2 true) W f g q s b1 b2 s16 s17 v s19 s20 s21 s22 s23 s5 s6 s7 s8 w :=
  ⟨h.bel, fun d => h.p0 (done_set d (by decide)), fun d => h.p1 (done_set d (by decide)), fun _ => hv, fun d => h.c3 (done_set d (by decide)), fun d => h.p4 (done_set d (by decide)), fun d => h.p5 (done_set d (by decide)), fun d => h.p6 (done_set d (by decide)), fun d => h.c7 (done_set d (by decide)), fun d => (h.a8 (done_set d (by decide))).imp (fun x => done_set x (by decide)), fun d => (h.a9 (done_set d (by decide))).imp (fun x => done_set x (by decide)), fun d => (h.a10 (done_set d (by decide))).imp (fun x => done_set x (by decide)), fun d => (h.a11 (done_set d (by decide))).imp (fun x => done_set x (by decide)), fun d => ⟨done_up (h.e12 (done_set d (by decide))).1, done_up (h.e12 (done_set d (by decide))).2⟩, fun d => ⟨done_up (h.e13 (done_set d (by decide))).1, done_up (h.e13 (done_set d (by decide))).2⟩, fun d => ⟨done_up (h.e14 (done_set d (by decide))).1, done_up (h.e14 (done_set d (by decide))).2⟩, fun d => ⟨done_up (h.e15 (done_set d (by decide))).1, done_up (h.e15 (done_set d (by decide))).2⟩, fun d d2 => h.n8_9 (done_set d (by decide)) (done_set d2 (by decide)), fun d d2 => h.n8_10 (done_set d (by decide)) (done_set d2 (by decide)), fun d d2 => h.n8_11 (done_set d (by decide)) (done_set d2 (by decide)), fun d d2 => h.n9_10 (done_set d (by decide)) (done_set d2 (by decide)), fun d d2 => h.n9_11 (done_set d (by decide)) (done_set d2 (by decide)), fun d d2 => h.n10_11 (done_set d (by decide)) (done_set d2 (by decide))⟩
theorem CmpR.set3 {L : Array Bool} {W : World} {f g : FV} {q s : Int} {b1 b2 : Nat} {s16 s17 s18 s19 s20 s21 s22 s23 s5 s6 s7 s8 : Value} {w : World} (h : CmpR L W f g q s b1 b2 s16 s17 s18 s19 s20 s21 s22 s23 s5 s6 s7 s8 w) (hk : ¬ done L 3) {v : Value} (hv : IsI w v q) : CmpR (L.setIfInBounds 3 true) W f g q s b1 b2 s16 s17 s18 v s20 s21 s22 s23 s5 s6 s7 s8 w :=
  ⟨h.bel, fun d => h.p0 (done_set d (by decide)), fun d => h.p1 (done_set d (by decide)), fun d => h.p2 (done_set d (by decide)), fun _ => hv, fun d => h.p4 (done_set d (by decide)), fun d => h.p5 (done_set d (by decide)), fun d => h.p6 (done_set d (by decide)), fun d => h.c7 (done_set d (by decide)), fun d => (h.a8 (done_set d (by decide))).imp (fun x => done_set x (by decide)), fun d => (h.a9 (done_set d (by decide))).resrc (fun x => hk (h.e13 (done_set x (by decide))).2), fun d => (h.a10 (done_set d (by decide))).imp (fun x => done_set x (by decide)), fun d => (h.a11 (done_set d (by decide))).imp (fun x => done_set x (by decide)), fun d => ⟨done_up (h.e12 (done_set d (by decide))).1, done_up (h.e12 (done_set d (by decide))).2⟩, fun d => ⟨done_up (h.e13 (done_set d (by decide))).1, done_up (h.e13 (done_set d (by decide))).2⟩, fun d => ⟨done_up (h.e14 (done_set d (by decide))).1, done_up (h.e14 (done_set d (by decide))).2⟩, fun d => ⟨done_up (h.e15 (done_set d (by decide))).1, done_up (h.e15 (done_set d (by decide))).2⟩, fun d d2 => h.n8_9 (done_set d (by decide)) (done_set d2 (by decide)), fun d d2 => h.n8_10 (done_set d (by decide)) (done_set d2 (by decide)), fun d d2 => h.n8_11 (done_set d (by decide)) (done_set d2 (by decide)), fun d d2 => h.n9_10 (done_set d (by decide)) (done_set d2 (by decide)), fun d d2 => h.n9_11 (done_set d (by decide)) (done_set d2 (by decide)), fun d d2 => h.n10_11 (done_set d (by decide)) (done_set d2 (by decide))⟩
theorem CmpR.set4 {L : Array Bool} {W : World} {f g : FV} {q s : Int} {b1 b2 : Nat} {s16 s17 s18 s19 s20 s21 s22 s23 s5 s6 s7 s8 : Value} {w : World} (h : CmpR L W f g q s b1 b2 s16 s17 s18 s19 s20 s21 s22 s23 s5 s6 s7 s8 w) (_hk : ¬ done L 4) {v : Value} (hv : v = .pointer (some ⟨b2, 0, none⟩)) : CmpR (L.setIfInBounds 4 true) W f g q s b1 b2 s16 s17 s18 s19 v s21 s22 s23 s5 s6 s7 s8 w :=
  ⟨h.bel, fun d => h.p0 (done_set d (by decide)), fun d => h.p1 (done_set d (by decide)), fun d => h.p2 (done_set d (by decide)), fun d => h.c3 (done_set d (by decide)), fun _ => hv, fun d => h.p5 (done_set d (by decide)), fun d => h.p6 (done_set d (by decide)), fun d => h.c7 (done_set d (by decide)), fun d => (h.a8 (done_set d (by decide))).imp (fun x => done_set x (by decide)), fun d => (h.a9 (done_set d (by decide))).imp (fun x => done_set x (by decide)), fun d => (h.a10 (done_set d (by decide))).imp (fun x => done_set x (by decide)), fun d => (h.a11 (done_set d (by decide))).imp (fun x => done_set x (by decide)), fun d => ⟨done_up (h.e12 (done_set d (by decide))).1, done_up (h.e12 (done_set d (by decide))).2⟩, fun d => ⟨done_up (h.e13 (done_set d (by decide))).1, done_up (h.e13 (done_set d (by decide))).2⟩, fun d => ⟨done_up (h.e14 (done_set d (by decide))).1, done_up (h.e14 (done_set d (by decide))).2⟩, fun d => ⟨done_up (h.e15 (done_set d (by decide))).1, done_up (h.e15 (done_set d (by decide))).2⟩, fun d d2 => h.n8_9 (done_set d (by decide)) (done_set d2 (by decide)), fun d d2 => h.n8_10 (done_set d (by decide)) (done_set d2 (by decide)), fun d d2 => h.n8_11 (done_set d (by decide)) (done_set d2 (by decide)), fun d d2 => h.n9_10 (done_set d (by decide)) (done_set d2 (by decide)), fun d d2 => h.n9_11 (done_set d (by decide)) (done_set d2 (by decide)), fun d d2 => h.n10_11 (done_set d (by decide)) (done_set d2 (by decide))⟩
theorem CmpR.set5 {L : Array Bool} {W : World} {f g : FV} {q s : Int} {b1 b2 : Nat} {s16 s17 s18 s19 s20 s21 s22 s23 s5 s6 s7 s8 : Value} {w : World} (h : CmpR L W f g q s b1 b2 s16 s17 s18 s19 s20 s21 s22 s23 s5 s6 s7 s8 w) (hk : ¬ done L 5) {v : Value} (hv : v = .agg #[.bool g.p.neg, .slice g.p.A g.p.n g.p.c]) : CmpR (L.setIfInBounds 5 true) W f g q s b1 b2 s16 s17 s18 s19 s20 v s22 s23 s5 s6 s7 s8 w :=
  ⟨h.bel, fun d => h.p0 (done_set d (by decide)), fun d => h.p1 (done_set d (by decide)), fun d => h.p2 (done_set d (by decide)), fun d => h.c3 (done_set d (by decide)), fun d => h.p4 (done_set d (by decide)), fun _ => hv, fun d => h.p6 (done_set d (by decide)), fun d => h.c7 (done_set d (by decide)), fun d => (h.a8 (done_set d (by decide))).imp (fun x => done_set x (by decide)), fun d => (h.a9 (done_set d (by decide))).imp (fun x => done_set x (by decide)), fun d => (h.a10 (done_set d (by decide))).resrc (fun x => hk (h.e14 (done_set x (by decide))).2), fun d => (h.a11 (done_set d (by decide))).imp (fun x => done_set x (by decide)), fun d => ⟨done_up (h.e12 (done_set d (by decide))).1, done_up (h.e12 (done_set d (by decide))).2⟩, fun d => ⟨done_up (h.e13 (done_set d (by decide))).1, done_up (h.e13 (done_set d (by decide))).2⟩, fun d => ⟨done_up (h.e14 (done_set d (by decide))).1, done_up (h.e14 (done_set d (by decide))).2⟩, fun d => ⟨done_up (h.e15 (done_set d (by decide))).1, done_up (h.e15 (done_set d (by decide))).2⟩, fun d d2 => h.n8_9 (done_set d (by decide)) (done_set d2 (by decide)), fun d d2 => h.n8_10 (done_set d (by decide)) (done_set d2 (by decide)), fun d d2 => h.n8_11 (done_set d (by decide)) (done_set d2 (by decide)), fun d d2 => h.n9_10 (done_set d (by decide)) (done_set d2 (by decide)), fun d d2 => h.n9_11 (done_set d (by decide)) (done_set d2 (by decide)), fun d d2 => h.n10_11 (done_set d (by decide)) (done_set d2 (by decide))⟩
theorem CmpR.set6 {L : Array Bool} {W : World} {f g : FV} {q s : Int} {b1 b2 : Nat} {s16 s17 s18 s19 s20 s21 s22 s23 s5 s6 s7 s8 : Value} {w : World} (h : CmpR L W f g q s b1 b2 s16 s17 s18 s19 s20 s21 s22 s23 s5 s6 s7 s8 w) (_hk : ¬ done L 6) {v : Value} (hv : v = .agg #[.bool g.p.neg, .slice g.p.A g.p.n g.p.c, .bool g.l.neg, .slice g.l.A g.l.n g.l.c]) : CmpR (L.setIfInBounds 6 true) W f g q s b1 b2 s16 s17 s18 s19 s20 s21 v s23 s5 s6 s7 s8 w :=
  ⟨h.bel, fun d => h.p0 (done_set d (by decide)), fun d => h.p1 (done_set d (by decide)), fun d => h.p2 (done_set d (by decide)), fun d => h.c3 (done_set d (by decide)), fun d => h.p4 (done_set d (by decide)), fun d => h.p5 (done_set d (by decide)), fun _ => hv, fun d => h.c7 (done_set d (by decide)), fun d => (h.a8 (done_set d (by decide))).imp (fun x => done_set x (by decide)), fun d => (h.a9 (done_set d (by decide))).imp (fun x => done_set x (by decide)), fun d => (h.a10 (done_set d (by decide))).imp (fun x => done_set x (by decide)), fun d => (h.a11 (done_set d (by decide))).imp (fun x => done_set x (by decide)), fun d => ⟨done_up (h.e12 (done_set d (by decide))).1, done_up (h.e12 (done_set d (by decide))).2⟩, fun d => ⟨done_up (h.e13 (done_set d (by decide))).1, done_up (h.e13 (done_set d (by decide))).2⟩, fun d => ⟨done_up (h.e14 (done_set d (by decide))).1, done_up (h.e14 (done_set d (by decide))).2⟩, fun d => ⟨done_up (h.e15 (done_set d (by decide))).1, done_up (h.e15 (done_set d (by decide))).2⟩, fun d d2 => h.n8_9 (done_set d (by decide)) (done_set d2 (by decide)), fun d d2 => h.n8_10 (done_set d (by decide)) (done_set d2 (by decide)), fun d d2 => h.n8_11 (done_set d (by decide)) (done_set d2 (by decide)), fun d d2 => h.n9_10 (done_set d (by decide)) (done_set d2 (by decide)), fun d d2 => h.n9_11 (done_set d (by decide)) (done_set d2 (by decide)), fun d d2 => h.n10_11 (done_set d (by decide)) (done_set d2 (by decide))⟩
theorem CmpR.set7 {L : Array Bool} {W : World} {f g : FV} {q s : Int} {b1 b2 : Nat} {s16 s17 s18 s19 s20 s21 s22 s23 s5 s6 s7 s8 : Value} {w : World} (h : CmpR L W f g q s b1 b2 s16 s17 s18 s19 s20 s21 s22 s23 s5 s6 s7 s8 w) (hk : ¬ done L 7) {v : Value} (hv : IsI w v s) : CmpR (L.setIfInBounds 7 true) W f g q s b1 b2 s16 s17 s18 s19 s20 s21 s22 v s5 s6 s7 s8 w :=
  ⟨h.bel, fun d => h.p0 (done_set d (by decide)), fun d => h.p1 (done_set d (by decide)), fun d => h.p2 (done_set d (by decide)), fun d => h.c3 (done_set d (by decide)), fun d => h.p4 (done_set d (by decide)), fun d => h.p5 (done_set d (by decide)), fun d => h.p6 (done_set d (by decide)), fun _ => hv, fun d => (h.a8 (done_set d (by decide))).imp (fun x => done_set x (by decide)), fun d => (h.a9 (done_set d (by decide))).imp (fun x => done_set x (by decide)), fun d => (h.a10 (done_set d (by decide))).imp (fun x => done_set x (by decide)), fun d => (h.a11 (done_set d (by decide))).resrc (fun x => hk (h.e15 (done_set x (by decide))).2), fun d => ⟨done_up (h.e12 (done_set d (by decide))).1, done_up (h.e12 (done_set d (by decide))).2⟩, fun d => ⟨done_up (h.e13 (done_set d (by decide))).1, done_up (h.e13 (done_set d (by decide))).2⟩, fun d => ⟨done_up (h.e14 (done_set d (by decide))).1, done_up (h.e14 (done_set d (by decide))).2⟩, fun d => ⟨done_up (h.e15 (done_set d (by decide))).1, done_up (h.e15 (done_set d (by decide))).2⟩, fun d d2 => h.n8_9 (done_set d (by decide)) (done_set d2 (by decide)), fun d d2 => h.n8_10 (done_set d (by decide)) (done_set d2 (by decide)), fun d d2 => h.n8_11 (done_set d (by decide)) (done_set d2 (by decide)), fun d d2 => h.n9_10 (done_set d (by decide)) (done_set d2 (by decide)), fun d d2 => h.n9_11 (done_set d (by decide)) (done_set d2 (by decide)), fun d d2 => h.n10_11 (done_set d (by decide)) (done_set d2 (by decide))⟩
theorem CmpR.set8 {L : Array Bool} {W : World} {f g : FV} {q s : Int} {b1 b2 : Nat} {s16 s17 s18 s19 s20 s21 s22 s23 s5 s6 s7 s8 : Value} {w : World} (h : CmpR L W f g q s b1 b2 s16 s17 s18 s19 s20 s21 s22 s23 s5 s6 s7 s8 w) (hk : ¬ done L 8) : CmpR (L.setIfInBounds 8 true) W f g q s b1 b2 s16 s17 s18 s19 s20 s21 s22 s23 (.pointer (some ⟨w.heap.size, 0, none⟩)) s6 s7 s8 (w.alloc (.cells #[.bool false, .slice none 0 0] 29)) :=
  have h' := h.up (below_new w (.cells #[.bool false, .slice none 0 0] 29))
  ⟨h'.bel, fun d => h'.p0 (done_set d (by decide)), fun d => h'.p1 (done_set d (by decide)), fun d => h'.p2 (done_set d (by decide)), fun d => h'.c3 (done_set d (by decide)), fun d => h'.p4 (done_set d (by decide)), fun d => h'.p5 (done_set d (by decide)), fun d => h'.p6 (done_set d (by decide)), fun d => h'.c7 (done_set d (by decide)), fun _ => BoxAt.new h.bel.size (fun x => hk (h.e12 (done_set x (by decide))).1), fun d => (h'.a9 (done_set d (by decide))).imp (fun x => done_set x (by decide)), fun d => (h'.a10 (done_set d (by decide))).imp (fun x => done_set x (by decide)), fun d => (h'.a11 (done_set d (by decide))).imp (fun x => done_set x (by decide)), fun d => ⟨done_up (h.e12 (done_set d (by decide))).1, done_up (h.e12 (done_set d (by decide))).2⟩, fun d => ⟨done_up (h.e13 (done_set d (by decide))).1, done_up (h.e13 (done_set d (by decide))).2⟩, fun d => ⟨done_up (h.e14 (done_set d (by decide))).1, done_up (h.e14 (done_set d (by decide))).2⟩, fun d => ⟨done_up (h.e15 (done_set d (by decide))).1, done_up (h.e15 (done_set d (by decide))).2⟩, fun _ d2 e => (h.a9 (done_set d2 (by decide))).ne_new e.symm, fun _ d2 e => (h.a10 (done_set d2 (by decide))).ne_new e.symm, fun _ d2 e => (h.a11 (done_set d2 (by decide))).ne_new e.symm, fun d d2 => h.n9_10 (done_set d (by decide)) (done_set d2 (by decide)), fun d d2 => h.n9_11 (done_set d (by decide)) (done_set d2 (by decide)), fun d d2 => h.n10_11 (done_set d (by decide)) (done_set d2 (by decide))⟩
theorem CmpR.set9 {L : Array Bool} {W : World} {f g : FV} {q s : Int} {b1 b2 : Nat} {s16 s17 s18 s19 s20 s21 s22 s23 s5 s6 s7 s8 : Value} {w : World} (h : CmpR L W f g q s b1 b2 s16 s17 s18 s19 s20 s21 s22 s23 s5 s6 s7 s8 w) (hk : ¬ done L 9) : CmpR (L.setIfInBounds 9 true) W f g q s b1 b2 s16 s17 s18 s19 s20 s21 s22 s23 s5 (.pointer (some ⟨w.heap.size, 0, none⟩)) s7 s8 (w.alloc (.cells #[.bool false, .slice none 0 0] 29)) :=
  have h' := h.up (below_new w (.cells #[.bool false, .slice none 0 0] 29))
  ⟨h'.bel, fun d => h'.p0 (done_set d (by decide)), fun d => h'.p1 (done_set d (by decide)), fun d => h'.p2 (done_set d (by decide)), fun d => h'.c3 (done_set d (by decide)), fun d => h'.p4 (done_set d (by decide)), fun d => h'.p5 (done_set d (by decide)), fun d => h'.p6 (done_set d (by decide)), fun d => h'.c7 (done_set d (by decide)), fun d => (h'.a8 (done_set d (by decide))).imp (fun x => done_set x (by decide)), fun _ => BoxAt.new h.bel.size (fun x => hk (h.e13 (done_set x (by decide))).1), fun d => (h'.a10 (done_set d (by decide))).imp (fun x => done_set x (by decide)), fun d => (h'.a11 (done_set d (by decide))).imp (fun x => done_set x (by decide)), fun d => ⟨done_up (h.e12 (done_set d (by decide))).1, done_up (h.e12 (done_set d (by decide))).2⟩, fun d => ⟨done_up (h.e13 (done_set d (by decide))).1, done_up (h.e13 (done_set d (by decide))).2⟩, fun d => ⟨done_up (h.e14 (done_set d (by decide))).1, done_up (h.e14 (done_set d (by decide))).2⟩, fun d => ⟨done_up (h.e15 (done_set d (by decide))).1, done_up (h.e15 (done_set d (by decide))).2⟩, fun d _ => (h.a8 (done_set d (by decide))).ne_new, fun d d2 => h.n8_10 (done_set d (by decide)) (done_set d2 (by decide)), fun d d2 => h.n8_11 (done_set d (by decide)) (done_set d2 (by decide)), fun _ d2 e => (h.a10 (done_set d2 (by decide))).ne_new e.symm, fun _ d2 e => (h.a11 (done_set d2 (by decide))).ne_new e.symm, fun d d2 => h.n10_11 (done_set d (by decide)) (done_set d2 (by decide))⟩
theorem CmpR.set10 {L : Array Bool} {W : World} {f g : FV} {q s : Int} {b1 b2 : Nat} {s16 s17 s18 s19 s20 s21 s22 s23 s5 s6 s7 s8 : Value} {w : World} (h : CmpR L W f g q s b1 b2 s16 s17 s18 s19 s20 s21 s22 s23 s5 s6 s7 s8 w) (hk : ¬ done L 10) : CmpR (L.setIfInBounds 10 true) W f g q s b1 b2 s16 s17 s18 s19 s20 s21 s22 s23 s5 s6 (.pointer (some ⟨w.heap.size, 0, none⟩)) s8 (w.alloc (.cells #[.bool false, .slice none 0 0] 29)) :=
  have h' := h.up (below_new w (.cells #[.bool false, .slice none 0 0] 29))
  ⟨h'.bel, fun d => h'.p0 (done_set d (by decide)), fun d => h'.p1 (done_set d (by decide)), fun d => h'.p2 (done_set d (by decide)), fun d => h'.c3 (done_set d (by decide)), fun d => h'.p4 (done_set d (by decide)), fun d => h'.p5 (done_set d (by decide)), fun d => h'.p6 (done_set d (by decide)), fun d => h'.c7 (done_set d (by decide)), fun d => (h'.a8 (done_set d (by decide))).imp (fun x => done_set x (by decide)), fun d => (h'.a9 (done_set d (by decide))).imp (fun x => done_set x (by decide)), fun _ => BoxAt.new h.bel.size (fun x => hk (h.e14 (done_set x (by decide))).1), fun d => (h'.a11 (done_set d (by decide))).imp (fun x => done_set x (by decide)), fun d => ⟨done_up (h.e12 (done_set d (by decide))).1, done_up (h.e12 (done_set d (by decide))).2⟩, fun d => ⟨done_up (h.e13 (done_set d (by decide))).1, done_up (h.e13 (done_set d (by decide))).2⟩, fun d => ⟨done_up (h.e14 (done_set d (by decide))).1, done_up (h.e14 (done_set d (by decide))).2⟩, fun d => ⟨done_up (h.e15 (done_set d (by decide))).1, done_up (h.e15 (done_set d (by decide))).2⟩, fun d d2 => h.n8_9 (done_set d (by decide)) (done_set d2 (by decide)), fun d _ => (h.a8 (done_set d (by decide))).ne_new, fun d d2 => h.n8_11 (done_set d (by decide)) (done_set d2 (by decide)), fun d _ => (h.a9 (done_set d (by decide))).ne_new, fun d d2 => h.n9_11 (done_set d (by decide)) (done_set d2 (by decide)), fun _ d2 e => (h.a11 (done_set d2 (by decide))).ne_new e.symm⟩
theorem CmpR.set11 {L : Array Bool} {W : World} {f g : FV} {q s : Int} {b1 b2 : Nat} {s16 s17 s18 s19 s20 s21 s22 s23 s5 s6 s7 s8 : Value} {w : World} (h : CmpR L W f g q s b1 b2 s16 s17 s18 s19 s20 s21 s22 s23 s5 s6 s7 s8 w) (hk : ¬ done L 11) : CmpR (L.setIfInBounds 11 true) W f g q s b1 b2 s16 s17 s18 s19 s20 s21 s22 s23 s5 s6 s7 (.pointer (some ⟨w.heap.size, 0, none⟩)) (w.alloc (.cells #[.bool false, .slice none 0 0] 29)) :=
  have h' := h.up (below_new w (.cells #[.bool false, .slice none 0 0] 29))
  ⟨h'.bel, fun d => h'.p0 (done_set d (by decide)), fun d => h'.p1 (done_set d (by decide)), fun d => h'.p2 (done_set d (by decide)), fun d => h'.c3 (done_set d (by decide)), fun d => h'.p4 (done_set d (by decide)), fun d => h'.p5 (done_set d (by decide)), fun d => h'.p6 (done_set d (by decide)), fun d => h'.c7 (done_set d (by decide)), fun d => (h'.a8 (done_set d (by decide))).imp (fun x => done_set x (by decide)), fun d => (h'.a9 (done_set d (by decide))).imp (fun x => done_set x (by decide)), fun d => (h'.a10 (done_set d (by decide))).imp (fun x => done_set x (by decide)), fun _ => BoxAt.new h.bel.size (fun x => hk (h.e15 (done_set x (by decide))).1), fun d => ⟨done_up (h.e12 (done_set d (by decide))).1, done_up (h.e12 (done_set d (by decide))).2⟩, fun d => ⟨done_up (h.e13 (done_set d (by decide))).1, done_up (h.e13 (done_set d (by decide))).2⟩, fun d => ⟨done_up (h.e14 (done_set d (by decide))).1, done_up (h.e14 (done_set d (by decide))).2⟩, fun d => ⟨done_up (h.e15 (done_set d (by decide))).1, done_up (h.e15 (done_set d (by decide))).2⟩, fun d d2 => h.n8_9 (done_set d (by decide)) (done_set d2 (by decide)), fun d d2 => h.n8_10 (done_set d (by decide)) (done_set d2 (by decide)), fun d _ => (h.a8 (done_set d (by decide))).ne_new, fun d d2 => h.n9_10 (done_set d (by decide)) (done_set d2 (by decide)), fun d _ => (h.a9 (done_set d (by decide))).ne_new, fun d _ => (h.a10 (done_set d (by decide))).ne_new⟩
theorem CmpR.set12 {L : Array Bool} {W : World} {f g : FV} {q s : Int} {b1 b2 : Nat} {s16 s17 s18 s19 s20 s21 s22 s23 s5 s6 s7 s8 : Value} {w : World} (h : CmpR L W f g q s b1 b2 s16 s17 s18 s19 s20 s21 s22 s23 s5 s6 s7 s8 w) (da : done L 8) (ds : done L 1) {x : IV} {gb : Nat} {c0 c1 : Value} (es : s5 = .pointer (some ⟨gb, 0, none⟩)) (ex : s17 = .agg #[.bool x.neg, .slice x.A x.n x.c]) (hgb : W.heap.size ≤ gb) (hO : Own w gb 29 [c0, c1]) (h0 : ∀ n, c0 ≠ .int .u32 n) (h1 : ∀ n, c1 ≠ .int .u32 n) :
    CmpR (L.setIfInBounds 12 true) W f g q s b1 b2 s16 s17 s18 s19 s20 s21 s22 s23 s5 s6 s7 s8 ((w.setCell ⟨gb, 0, none⟩ (.bool x.neg)).setCell ⟨gb, 1, none⟩ (.slice x.A x.n x.c)) :=
  ⟨Below.put2 h.bel hgb _ _, fun d => h.p0 (done_set d (by decide)), fun d => h.p1 (done_set d (by decide)), fun d => h.p2 (done_set d (by decide)), fun d => (h.c3 (done_set d (by decide))).put2 hO h0 h1 _ _, fun d => h.p4 (done_set d (by decide)), fun d => h.p5 (done_set d (by decide)), fun d => h.p6 (done_set d (by decide)), fun d => (h.c7 (done_set d (by decide))).put2 hO h0 h1 _ _, fun _ => ⟨gb, _, _, es, hgb, hO.put2 _ _, by simp, by simp, fun _ => ex⟩, fun d => ((h.a9 (done_set d (by decide))).far es ((fun e => h.n8_9 da (done_set d (by decide)) e.symm)) _ _).imp (fun x => done_set x (by decide)), fun d => ((h.a10 (done_set d (by decide))).far es ((fun e => h.n8_10 da (done_set d (by decide)) e.symm)) _ _).imp (fun x => done_set x (by decide)), fun d => ((h.a11 (done_set d (by decide))).far es ((fun e => h.n8_11 da (done_set d (by decide)) e.symm)) _ _).imp (fun x => done_set x (by decide)), fun _ => ⟨done_up da, done_up ds⟩, fun d => ⟨done_up (h.e13 (done_set d (by decide))).1, done_up (h.e13 (done_set d (by decide))).2⟩, fun d => ⟨done_up (h.e14 (done_set d (by decide))).1, done_up (h.e14 (done_set d (by decide))).2⟩, fun d => ⟨done_up (h.e15 (done_set d (by decide))).1, done_up (h.e15 (done_set d (by decide))).2⟩, fun d d2 => h.n8_9 (done_set d (by decide)) (done_set d2 (by decide)), fun d d2 => h.n8_10 (done_set d (by decide)) (done_set d2 (by decide)), fun d d2 => h.n8_11 (done_set d (by decide)) (done_set d2 (by decide)), fun d d2 => h.n9_10 (done_set d (by decide)) (done_set d2 (by decide)), fun d d2 => h.n9_11 (done_set d (by decide)) (done_set d2 (by decide)), fun d d2 => h.n10_11 (done_set d (by decide)) (done_set d2 (by decide))⟩
theorem CmpR.set13 {L : Array Bool} {W : World} {f g : FV} {q s : Int} {b1 b2 : Nat} {s16 s17 s18 s19 s20 s21 s22 s23 s5 s6 s7 s8 : Value} {w : World} (h : CmpR L W f g q s b1 b2 s16 s17 s18 s19 s20 s21 s22 s23 s5 s6 s7 s8 w) (da : done L 9) (ds : done L 3) {x : IV} {gb : Nat} {c0 c1 : Value} (es : s6 = .pointer (some ⟨gb, 0, none⟩)) (ex : s19 = .agg #[.bool x.neg, .slice x.A x.n x.c]) (hgb : W.heap.size ≤ gb) (hO : Own w gb 29 [c0, c1]) (h0 : ∀ n, c0 ≠ .int .u32 n) (h1 : ∀ n, c1 ≠ .int .u32 n) :
    CmpR (L.setIfInBounds 13 true) W f g q s b1 b2 s16 s17 s18 s19 s20 s21 s22 s23 s5 s6 s7 s8 ((w.setCell ⟨gb, 0, none⟩ (.bool x.neg)).setCell ⟨gb, 1, none⟩ (.slice x.A x.n x.c)) :=
  ⟨Below.put2 h.bel hgb _ _, fun d => h.p0 (done_set d (by decide)), fun d => h.p1 (done_set d (by decide)), fun d => h.p2 (done_set d (by decide)), fun d => (h.c3 (done_set d (by decide))).put2 hO h0 h1 _ _, fun d => h.p4 (done_set d (by decide)), fun d => h.p5 (done_set d (by decide)), fun d => h.p6 (done_set d (by decide)), fun d => (h.c7 (done_set d (by decide))).put2 hO h0 h1 _ _, fun d => ((h.a8 (done_set d (by decide))).far es (h.n8_9 (done_set d (by decide)) da) _ _).imp (fun x => done_set x (by decide)), fun _ => ⟨gb, _, _, es, hgb, hO.put2 _ _, by simp, by simp, fun _ => ex⟩, fun d => ((h.a10 (done_set d (by decide))).far es ((fun e => h.n9_10 da (done_set d (by decide)) e.symm)) _ _).imp (fun x => done_set x (by decide)), fun d => ((h.a11 (done_set d (by decide))).far es ((fun e => h.n9_11 da (done_set d (by decide)) e.symm)) _ _).imp (fun x => done_set x (by decide)), fun d => ⟨done_up (h.e12 (done_set d (by decide))).1, done_up (h.e12 (done_set d (by decide))).2⟩, fun _ => ⟨done_up da, done_up ds⟩, fun d => ⟨done_up (h.e14 (done_set d (by decide))).1, done_up (h.e14 (done_set d (by decide))).2⟩, fun d => ⟨done_up (h.e15 (done_set d (by decide))).1, done_up (h.e15 (done_set d (by decide))).2⟩, fun d d2 => h.n8_9 (done_set d (by decide)) (done_set d2 (by decide)), fun d d2 => h.n8_10 (done_set d (by decide)) (done_set d2 (by decide)), fun d d2 => h.n8_11 (done_set d (by decide)) (done_set d2 (by decide)), fun d d2 => h.n9_10 (done_set d (by decide)) (done_set d2 (by decide)), fun d d2 => h.n9_11 (done_set d (by decide)) (done_set d2 (by decide)), fun d d2 => h.n10_11 (done_set d (by decide)) (done_set d2 (by decide))⟩
theorem CmpR.set14 {L : Array Bool} {W : World} {f g : FV} {q s : Int} {b1 b2 : Nat} {s16 s17 s18 s19 s20 s21 s22 s23 s5 s6 s7 s8 : Value} {w : World} (h : CmpR L W f g q s b1 b2 s16 s17 s18 s19 s20 s21 s22 s23 s5 s6 s7 s8 w) (da : done L 10) (ds : done L 5) {x : IV} {gb : Nat} {c0 c1 : Value} (es : s7 = .pointer (some ⟨gb, 0, none⟩)) (ex : s21 = .agg #[.bool x.neg, .slice x.A x.n x.c]) (hgb : W.heap.size ≤ gb) (hO : Own w gb 29 [c0, c1]) (h0 : ∀ n, c0 ≠ .int .u32 n) (h1 : ∀ n, c1 ≠ .int .u32 n) :
    CmpR (L.setIfInBounds 14 true) W f g q s b1 b2 s16 s17 s18 s19 s20 s21 s22 s23 s5 s6 s7 s8 ((w.setCell ⟨gb, 0, none⟩ (.bool x.neg)).setCell ⟨gb, 1, none⟩ (.slice x.A x.n x.c)) :=
  ⟨Below.put2 h.bel hgb _ _, fun d => h.p0 (done_set d (by decide)), fun d => h.p1 (done_set d (by decide)), fun d => h.p2 (done_set d (by decide)), fun d => (h.c3 (done_set d (by decide))).put2 hO h0 h1 _ _, fun d => h.p4 (done_set d (by decide)), fun d => h.p5 (done_set d (by decide)), fun d => h.p6 (done_set d (by decide)), fun d => (h.c7 (done_set d (by decide))).put2 hO h0 h1 _ _, fun d => ((h.a8 (done_set d (by decide))).far es (h.n8_10 (done_set d (by decide)) da) _ _).imp (fun x => done_set x (by decide)), fun d => ((h.a9 (done_set d (by decide))).far es (h.n9_10 (done_set d (by decide)) da) _ _).imp (fun x => done_set x (by decide)), fun _ => ⟨gb, _, _, es, hgb, hO.put2 _ _, by simp, by simp, fun _ => ex⟩, fun d => ((h.a11 (done_set d (by decide))).far es ((fun e => h.n10_11 da (done_set d (by decide)) e.symm)) _ _).imp (fun x => done_set x (by decide)), fun d => ⟨done_up (h.e12 (done_set d (by decide))).1, done_up (h.e12 (done_set d (by decide))).2⟩, fun d => ⟨done_up (h.e13 (done_set d (by decide))).1, done_up (h.e13 (done_set d (by decide))).2⟩, fun _ => ⟨done_up da, done_up ds⟩, fun d => ⟨done_up (h.e15 (done_set d (by decide))).1, done_up (h.e15 (done_set d (by decide))).2⟩, fun d d2 => h.n8_9 (done_set d (by decide)) (done_set d2 (by decide)), fun d d2 => h.n8_10 (done_set d (by decide)) (done_set d2 (by decide)), fun d d2 => h.n8_11 (done_set d (by decide)) (done_set d2 (by decide)), fun d d2 => h.n9_10 (done_set d (by decide)) (done_set d2 (by decide)), fun d d2 => h.n9_11 (done_set d (by decide)) (done_set d2 (by decide)), fun d d2 => h.n10_11 (done_set d (by decide)) (done_set d2 (by decide))⟩
theorem CmpR.set15 {L : Array Bool} {W : World} {f g : FV} {q s : Int} {b1 b2 : Nat} {s16 s17 s18 s19 s20 s21 s22 s23 s5 s6 s7 s8 : Value} {w : World} (h : CmpR L W f g q s b1 b2 s16 s17 s18 s19 s20 s21 s22 s23 s5 s6 s7 s8 w) (da : done L 11) (ds : done L 7) {x : IV} {gb : Nat} {c0 c1 : Value} (es : s8 = .pointer (some ⟨gb, 0, none⟩)) (ex : s23 = .agg #[.bool x.neg, .slice x.A x.n x.c]) (hgb : W.heap.size ≤ gb) (hO : Own w gb 29 [c0, c1]) (h0 : ∀ n, c0 ≠ .int .u32 n) (h1 : ∀ n, c1 ≠ .int .u32 n) :
    CmpR (L.setIfInBounds 15 true) W f g q s b1 b2 s16 s17 s18 s19 s20 s21 s22 s23 s5 s6 s7 s8 ((w.setCell ⟨gb, 0, none⟩ (.bool x.neg)).setCell ⟨gb, 1, none⟩ (.slice x.A x.n x.c)) :=
  ⟨Below.put2 h.bel hgb _ _, fun d => h.p0 (done_set d (by decide)), fun d => h.p1 (done_set d (by decide)), fun d => h.p2 (done_set d (by decide)), fun d => (h.c3 (done_set d (by decide))).put2 hO h0 h1 _ _, fun d => h.p4 (done_set d (by decide)), fun d => h.p5 (done_set d (by decide)), fun d => h.p6 (done_set d (by decide)), fun d => (h.c7 (done_set d (by decide))).put2 hO h0 h1 _ _, fun d => ((h.a8 (done_set d (by decide))).far es (h.n8_11 (done_set d (by decide)) da) _ _).imp (fun x => done_set x (by decide)), fun d => ((h.a9 (done_set d (by decide))).far es (h.n9_11 (done_set d (by decide)) da) _ _).imp (fun x => done_set x (by decide)), fun d => ((h.a10 (done_set d (by decide))).far es (h.n10_11 (done_set d (by decide)) da) _ _).imp (fun x => done_set x (by decide)), fun _ => ⟨gb, _, _, es, hgb, hO.put2 _ _, by simp, by simp, fun _ => ex⟩, fun d => ⟨done_up (h.e12 (done_set d (by decide))).1, done_up (h.e12 (done_set d (by decide))).2⟩, fun d => ⟨done_up (h.e13 (done_set d (by decide))).1, done_up (h.e13 (done_set d (by decide))).2⟩, fun d => ⟨done_up (h.e14 (done_set d (by decide))).1, done_up (h.e14 (done_set d (by decide))).2⟩, fun _ => ⟨done_up da, done_up ds⟩, fun d d2 => h.n8_9 (done_set d (by decide)) (done_set d2 (by decide)), fun d d2 => h.n8_10 (done_set d (by decide)) (done_set d2 (by decide)), fun d d2 => h.n8_11 (done_set d (by decide)) (done_set d2 (by decide)), fun d d2 => h.n9_10 (done_set d (by decide)) (done_set d2 (by decide)), fun d d2 => h.n9_11 (done_set d (by decide)) (done_set d2 (by decide)), fun d d2 => h.n10_11 (done_set d (by decide)) (done_set d2 (by decide))⟩
theorem CmpR.start {W : World} {f g : FV} {q s : Int} {b1 b2 : Nat} {s16 s17 s18 s19 s20 s21 s22 s23 s5 s6 s7 s8 : Value} : CmpR (Array.replicate 16 false) W f g q s b1 b2 s16 s17 s18 s19 s20 s21 s22 s23 s5 s6 s7 s8 W.drew :=
  ⟨Below.drew (Below.refl _ _), fun d => absurd d (done_none _ _), fun d => absurd d (done_none _ _), fun d => absurd d (done_none _ _), fun d => absurd d (done_none _ _), fun d => absurd d (done_none _ _), fun d => absurd d (done_none _ _), fun d => absurd d (done_none _ _), fun d => absurd d (done_none _ _), fun d => absurd d (done_none _ _), fun d => absurd d (done_none _ _), fun d => absurd d (done_none _ _), fun d => absurd d (done_none _ _), fun d => absurd d (done_none _ _), fun d => absurd d (done_none _ _), fun d => absurd d (done_none _ _), fun d => absurd d (done_none _ _), fun d => absurd d (done_none _ _), fun d => absurd d (done_none _ _), fun d => absurd d (done_none _ _), fun d => absurd d (done_none _ _), fun d => absurd d (done_none _ _), fun d => absurd d (done_none _ _)⟩
/-- The same of a frame. -/
def CmpRJ (W : World) (f g : FV) (q s : Int) (b1 b2 : Nat)  (L : Array Bool) (a : Act) (wx : World) : Prop := ∃ s16 s17 s18 s19 s20 s21 s22 s23 s5 s6 s7 s8 : Value, a = { tmps := #[.agg #[.bool f.p.neg, .slice f.p.A f.p.n f.p.c, .bool f.l.neg, .slice f.l.A f.l.n f.l.c], .agg #[.bool g.p.neg, .slice g.p.A g.p.n g.p.c, .bool g.l.neg, .slice g.l.A g.l.n g.l.c], .pointer (some ⟨b1, 0, none⟩), .pointer (some ⟨b2, 0, none⟩), .int .i64 0, s5, s6, s7, s8, undef, undef, undef, undef, undef, undef, undef, s16, s17, s18, s19, s20, s21, s22, s23, undef, undef, undef, undef, undef, undef, undef, undef, undef, undef, undef, undef, undef, undef, undef, undef, undef, undef, undef, undef, undef, undef, undef, undef, undef, undef, undef, undef, undef, undef, undef, undef, undef, undef, undef, undef, undef, undef, undef, undef, undef, undef, undef, undef, undef, undef], defers := [] } ∧ L.size = 16 ∧ CmpR L W f g q s b1 b2 s16 s17 s18 s19 s20 s21 s22 s23 s5 s6 s7 s8 wx

/-- The four numbers of Compare in their boxes. -/
structure CmpSt (W : World) (p q r s : Int) (s5 s6 s7 s8 : Value) (w : World) : Prop where
  b5 : ∃ x : IV, BoxAt W w 29 s5 True (.agg #[.bool x.neg, .slice x.A x.n x.c]) ∧ x.is w p
  b6 : ∃ x : IV, BoxAt W w 29 s6 True (.agg #[.bool x.neg, .slice x.A x.n x.c]) ∧ x.is w q
  b7 : ∃ x : IV, BoxAt W w 29 s7 True (.agg #[.bool x.neg, .slice x.A x.n x.c]) ∧ x.is w r
  b8 : ∃ x : IV, BoxAt W w 29 s8 True (.agg #[.bool x.neg, .slice x.A x.n x.c]) ∧ x.is w s
  n56 : s5 ≠ s6
  n57 : s5 ≠ s7
  n58 : s5 ≠ s8
  n67 : s6 ≠ s7
  n68 : s6 ≠ s8
  n78 : s7 ≠ s8
  bel : Below W.heap.size W w
theorem CmpSt.of {L : Array Bool} {W : World} {f g : FV} {p q r s : Int} {b1 b2 : Nat} {s5 s6 s7 s8 s16 s17 s18 s19 s20 s21 s22 s23 : Value} {w : World} (h : CmpR L W f g q s b1 b2 s16 s17 s18 s19 s20 s21 s22 s23 s5 s6 s7 s8 w) (D : ∀ k, k < 16 → done L k)
    (hp : f.p.is W p) (hr : g.p.is W r) : CmpSt W p q r s s5 s6 s7 s8 w := by
  obtain ⟨x, e6, hx⟩ := h.c3 (D 3 (by omega))
  obtain ⟨y, e8, hy⟩ := h.c7 (D 7 (by omega))
  have e5 := h.p1 (D 1 (by omega))
  have e7 := h.p5 (D 5 (by omega))
  subst e5 e6 e7 e8
  exact ⟨⟨f.p, (h.a8 (D 8 (by omega))).imp (fun _ => D 12 (by omega)), hp.on h.bel⟩, ⟨x, (h.a9 (D 9 (by omega))).imp (fun _ => D 13 (by omega)), hx⟩, ⟨g.p, (h.a10 (D 10 (by omega))).imp (fun _ => D 14 (by omega)), hr.on h.bel⟩, ⟨y, (h.a11 (D 11 (by omega))).imp (fun _ => D 15 (by omega)), hy⟩,
    h.n8_9 (D 8 (by omega)) (D 9 (by omega)), h.n8_10 (D 8 (by omega)) (D 10 (by omega)), h.n8_11 (D 8 (by omega)) (D 11 (by omega)), h.n9_10 (D 9 (by omega)) (D 10 (by omega)), h.n9_11 (D 9 (by omega)) (D 11 (by omega)), h.n10_11 (D 10 (by omega)) (D 11 (by omega)), h.bel⟩

theorem cmpI_bd (x y : Int) : -1 ≤ cmpI x y ∧ cmpI x y ≤ 1 := by
  unfold cmpI; split
  · omega
  · split <;> omega
theorem cmpI_sub {a b c d : Int} (h : a - b = c - d) : cmpI a b = cmpI c d := by
  rcases Int.lt_trichotomy a b with h1 | h1 | h1
  · rw [cmpI_lt h1, cmpI_lt (by omega)]
  · rw [cmpI_eq h1, cmpI_eq (by omega)]
  · rw [cmpI_gt h1, cmpI_gt (by omega)]
theorem cmpI_swap (a b : Int) : cmpI a b = -cmpI b a := by
  rcases Int.lt_trichotomy a b with h1 | h1 | h1
  · rw [cmpI_lt h1, cmpI_gt h1]
  · rw [cmpI_eq h1, cmpI_eq h1.symm]; rfl
  · rw [cmpI_gt h1, cmpI_lt h1]; rfl
theorem cmp_split {p q r s : Int} : p * s - r * q = (p / q - r / s) * (q * s) + (p % q * s - r % s * q) := by
  have h1 := Int.mul_ediv_add_emod p q
  have h2 := Int.mul_ediv_add_emod r s
  generalize p / q = x at *
  generalize r / s = y at *
  generalize p % q = a at *
  generalize r % s = b at *
  subst h1 h2
  grind
theorem cmp_whole_lt {p q r s : Int} (hq : 0 < q) (hs : 0 < s) (h : p / q < r / s) : p * s < r * q := by
  have h1 := cmp_split (p := p) (q := q) (r := r) (s := s)
  have h2 := Int.emod_lt_of_pos p hq
  have h3 := Int.emod_nonneg r (show s ≠ 0 by omega)
  have h4 : p % q * s < q * s := Int.mul_lt_mul_of_pos_right h2 hs
  have h5 : 0 ≤ r % s * q := Int.mul_nonneg h3 (by omega)
  have h6 : (p / q - r / s) * (q * s) ≤ (-1) * (q * s) := Int.mul_le_mul_of_nonneg_right (by omega) (Int.mul_nonneg (by omega) (by omega))
  omega
theorem cmp_whole {p q r s : Int} (hq : 0 < q) (hs : 0 < s) (h : p / q ≠ r / s) : cmpI (p * s) (r * q) = cmpI (p / q) (r / s) := by
  rcases Int.lt_or_gt_of_ne h with h1 | h1
  · rw [cmpI_lt h1, cmpI_lt (cmp_whole_lt hq hs h1)]
  · rw [cmpI_gt h1, cmpI_gt (cmp_whole_lt hs hq h1)]
theorem cmp_rest {p q r s : Int} (h : p / q = r / s) : cmpI (p * s) (r * q) = cmpI (p % q * s) (r % s * q) := by
  apply cmpI_sub
  rw [cmp_split (p := p) (q := q) (r := r) (s := s), h]
  simp
theorem cmp_end {p q r s : Int} (hq : 0 < q) (hs : 0 < s) (h : p / q = r / s) (h0 : p % q = 0 ∨ r % s = 0) : cmpI (p * s) (r * q) = cmpI (p % q) 0 - cmpI (r % s) 0 := by
  rw [cmp_rest h]
  have h2 := Int.emod_nonneg p (show q ≠ 0 by omega)
  have h3 := Int.emod_nonneg r (show s ≠ 0 by omega)
  generalize p % q = a at *
  generalize r % s = b at *
  rcases h0 with rfl | rfl
  · rw [Int.zero_mul, cmpI_eq (x := 0) (y := 0) rfl]
    rcases Int.lt_or_le 0 b with h4 | h4
    · rw [cmpI_lt (Int.mul_pos h4 hq), cmpI_gt h4]; rfl
    · obtain rfl : b = 0 := by omega
      rw [Int.zero_mul]; rfl
  · rw [Int.zero_mul, cmpI_eq (x := 0) (y := 0) rfl]
    rcases Int.lt_or_le 0 a with h4 | h4
    · rw [cmpI_gt (Int.mul_pos h4 hs), cmpI_gt h4]; rfl
    · obtain rfl : a = 0 := by omega
      rw [Int.zero_mul]; rfl
theorem cmp_next {p q r s : Int} (h : p / q = r / s) : cmpI (p * s) (r * q) = -cmpI (q * (r % s)) (s * (p % q)) := by
  rw [cmp_rest h, cmpI_swap, Int.mul_comm q, Int.mul_comm s]

structure CmpLp (W : World) (g5 g6 g7 g8 : Nat) (P Q R S : IV) (p q r s : Int) (w : World) : Prop where
  o5 : Own w g5 29 [.bool P.neg, .slice P.A P.n P.c]
  o6 : Own w g6 29 [.bool Q.neg, .slice Q.A Q.n Q.c]
  o7 : Own w g7 29 [.bool R.neg, .slice R.A R.n R.c]
  o8 : Own w g8 29 [.bool S.neg, .slice S.A S.n S.c]
  i5 : P.is w p
  i6 : Q.is w q
  i7 : R.is w r
  i8 : S.is w s
  l5 : W.heap.size ≤ g5
  l6 : W.heap.size ≤ g6
  l7 : W.heap.size ≤ g7
  l8 : W.heap.size ≤ g8
  n56 : g5 ≠ g6
  n57 : g5 ≠ g7
  n58 : g5 ≠ g8
  n67 : g6 ≠ g7
  n68 : g6 ≠ g8
  n78 : g7 ≠ g8
  bel : Below W.heap.size W w
theorem CmpLp.on {W : World} {g5 g6 g7 g8 : Nat} {P Q R S : IV} {p q r s : Int} {w w' : World} (h : CmpLp W g5 g6 g7 g8 P Q R S p q r s w) (hb : Below w.heap.size w w') : CmpLp W g5 g6 g7 g8 P Q R S p q r s w' :=
  ⟨h.o5.on hb, h.o6.on hb, h.o7.on hb, h.o8.on hb, h.i5.on hb, h.i6.on hb, h.i7.on hb, h.i8.on hb, h.l5, h.l6, h.l7, h.l8, h.n56, h.n57, h.n58, h.n67, h.n68, h.n78, Below.call h.bel hb⟩
theorem Own.put2far {w : World} {g g' : Nat} {t : TypeId} {xs : List Value} (h : Own w g' t xs) (hg : g' ≠ g) (u v : Value) : Own ((w.setCell ⟨g, 0, none⟩ u).setCell ⟨g, 1, none⟩ v) g' t xs :=
  (h.far (p := ⟨g, 0, none⟩) hg u).far (p := ⟨g, 1, none⟩) hg v
theorem CmpLp.drew {W : World} {g5 g6 g7 g8 : Nat} {P Q R S : IV} {p q r s : Int} {w : World} (h : CmpLp W g5 g6 g7 g8 P Q R S p q r s w) : CmpLp W g5 g6 g7 g8 P Q R S p q r s w.drew :=
  ⟨h.o5, h.o6, h.o7, h.o8, h.i5.of_drew, h.i6.of_drew, h.i7.of_drew, h.i8.of_drew, h.l5, h.l6, h.l7, h.l8, h.n56, h.n57, h.n58, h.n67, h.n68, h.n78, Below.drew h.bel⟩
theorem CmpLp.next {W : World} {g5 g6 g7 g8 : Nat} {P Q R S : IV} {p q r s : Int} {w : World} (h : CmpLp W g5 g6 g7 g8 P Q R S p q r s w) {X Y : IV} {a b : Int} (hX : X.is w a) (hY : Y.is w b) :
    CmpLp W g5 g6 g7 g8 Q X S Y q a s b ((((((((w.setCell ⟨g5, 0, none⟩ (.bool Q.neg)).setCell ⟨g5, 1, none⟩ (.slice Q.A Q.n Q.c)).setCell ⟨g6, 0, none⟩ (.bool X.neg)).setCell ⟨g6, 1, none⟩ (.slice X.A X.n X.c)).setCell ⟨g7, 0, none⟩ (.bool S.neg)).setCell ⟨g7, 1, none⟩ (.slice S.A S.n S.c)).setCell ⟨g8, 0, none⟩ (.bool Y.neg)).setCell ⟨g8, 1, none⟩ (.slice Y.A Y.n Y.c)).drew := by
  have a6 := h.o6.put2far h.n56.symm (.bool Q.neg) (.slice Q.A Q.n Q.c)
  have a7 := h.o7.put2far h.n57.symm (.bool Q.neg) (.slice Q.A Q.n Q.c)
  have a8 := h.o8.put2far h.n58.symm (.bool Q.neg) (.slice Q.A Q.n Q.c)
  have a5 := h.o5.put2 (.bool Q.neg) (.slice Q.A Q.n Q.c)
  have b5 := a5.put2far h.n56 (.bool X.neg) (.slice X.A X.n X.c)
  have b7 := a7.put2far h.n67.symm (.bool X.neg) (.slice X.A X.n X.c)
  have b8 := a8.put2far h.n68.symm (.bool X.neg) (.slice X.A X.n X.c)
  have b6 := a6.put2 (.bool X.neg) (.slice X.A X.n X.c)
  have d5 := b5.put2far h.n57 (.bool S.neg) (.slice S.A S.n S.c)
  have d6 := b6.put2far h.n67 (.bool S.neg) (.slice S.A S.n S.c)
  have d8 := b8.put2far h.n78.symm (.bool S.neg) (.slice S.A S.n S.c)
  have d7 := b7.put2 (.bool S.neg) (.slice S.A S.n S.c)
  have key : ∀ {x : IV} {z : Int}, x.is w z → x.is ((((((((w.setCell ⟨g5, 0, none⟩ (.bool Q.neg)).setCell ⟨g5, 1, none⟩ (.slice Q.A Q.n Q.c)).setCell ⟨g6, 0, none⟩ (.bool X.neg)).setCell ⟨g6, 1, none⟩ (.slice X.A X.n X.c)).setCell ⟨g7, 0, none⟩ (.bool S.neg)).setCell ⟨g7, 1, none⟩ (.slice S.A S.n S.c)).setCell ⟨g8, 0, none⟩ (.bool Y.neg)).setCell ⟨g8, 1, none⟩ (.slice Y.A Y.n Y.c)) z := fun hx =>
    (((hx.put2 h.o5 (by simp) (by simp) _ _).put2 a6 (by simp) (by simp) _ _).put2 b7 (by simp) (by simp) _ _).put2 d8 (by simp) (by simp) _ _
  have hb : Below W.heap.size W ((((((((w.setCell ⟨g5, 0, none⟩ (.bool Q.neg)).setCell ⟨g5, 1, none⟩ (.slice Q.A Q.n Q.c)).setCell ⟨g6, 0, none⟩ (.bool X.neg)).setCell ⟨g6, 1, none⟩ (.slice X.A X.n X.c)).setCell ⟨g7, 0, none⟩ (.bool S.neg)).setCell ⟨g7, 1, none⟩ (.slice S.A S.n S.c)).setCell ⟨g8, 0, none⟩ (.bool Y.neg)).setCell ⟨g8, 1, none⟩ (.slice Y.A Y.n Y.c)) :=
    Below.put2 (Below.put2 (Below.put2 (Below.put2 h.bel h.l5 _ _) h.l6 _ _) h.l7 _ _) h.l8 _ _
  exact CmpLp.drew ⟨d5.put2far h.n58 _ _, d6.put2far h.n68 _ _, d7.put2far h.n78 _ _, d8.put2 _ _, key h.i6, key hX, key h.i8, key hY, h.l5, h.l6, h.l7, h.l8, h.n56, h.n57, h.n58, h.n67, h.n68, h.n78, hb⟩
theorem box_full {W w : World} {t : TypeId} {v : Value} {x : IV} (h : BoxAt W w t v True (.agg #[.bool x.neg, .slice x.A x.n x.c])) : ∃ g, v = .pointer (some ⟨g, 0, none⟩) ∧ W.heap.size ≤ g ∧ Own w g t [.bool x.neg, .slice x.A x.n x.c] := by
  obtain ⟨g, c0, c1, h1, h2, h3, _, _, h6⟩ := h
  have := h6 trivial
  simp only [Value.agg.injEq, Array.mk.injEq, List.cons.injEq, and_true] at this
  obtain ⟨e0, e1⟩ := this
  subst e0 e1
  exact ⟨g, h1, h2, h3⟩
theorem CmpSt.open_ {W : World} {p q r s : Int} {s5 s6 s7 s8 : Value} {w : World} (h : CmpSt W p q r s s5 s6 s7 s8 w) :
    ∃ g5 g6 g7 g8 P Q R S, s5 = .pointer (some ⟨g5, 0, none⟩) ∧ s6 = .pointer (some ⟨g6, 0, none⟩) ∧ s7 = .pointer (some ⟨g7, 0, none⟩) ∧ s8 = .pointer (some ⟨g8, 0, none⟩) ∧ CmpLp W g5 g6 g7 g8 P Q R S p q r s w := by
  obtain ⟨P, h5, hP⟩ := h.b5
  obtain ⟨Q, h6, hQ⟩ := h.b6
  obtain ⟨R, h7, hR⟩ := h.b7
  obtain ⟨S, h8, hS⟩ := h.b8
  obtain ⟨g5, e5, l5, o5⟩ := box_full h5
  obtain ⟨g6, e6, l6, o6⟩ := box_full h6
  obtain ⟨g7, e7, l7, o7⟩ := box_full h7
  obtain ⟨g8, e8, l8, o8⟩ := box_full h8
  have n1 := h.n56
  have n2 := h.n57
  have n3 := h.n58
  have n4 := h.n67
  have n5 := h.n68
  have n6 := h.n78
  subst e5 e6 e7 e8
  exact ⟨g5, g6, g7, g8, P, Q, R, S, rfl, rfl, rfl, rfl, o5, o6, o7, o8, hP, hQ, hR, hS, l5, l6, l7, l8, fun e => n1 (by rw [e]), fun e => n2 (by rw [e]), fun e => n3 (by rw [e]), fun e => n4 (by rw [e]), fun e => n5 (by rw [e]), fun e => n6 (by rw [e]), h.bel⟩

set_option maxRecDepth 100000 in
set_option maxHeartbeats 6400000 in
theorem Compare_frac {f g : FV} {p q r s : Int} {w : World} (hf : f.is w p q) (hg : g.is w r s) : Calls Tryz.prog 22 #[.agg #[.bool f.p.neg, .slice f.p.A f.p.n f.p.c, .bool f.l.neg, .slice f.l.A f.l.n f.l.c], .agg #[.bool g.p.neg, .slice g.p.A g.p.n g.p.c, .bool g.l.neg, .slice g.l.A g.l.n g.l.c]] w (RetInt w (cmpI (p * s) (r * q))) := by
  go_enter Tryz.func22, Tryz.ntmps22
  have hS1 := (Own.newF w 31 f).alloc (.cells #[.bool g.p.neg, .slice g.p.A g.p.n g.p.c, .bool g.l.neg, .slice g.l.A g.l.n g.l.c] 31)
  have hS2 := Own.newF (w.alloc (.cells #[.bool f.p.neg, .slice f.p.A f.p.n f.p.c, .bool f.l.neg, .slice f.l.A f.l.n f.l.c] 31)) 31 g
  have hB : Below w.heap.size w ((w.alloc (.cells #[.bool f.p.neg, .slice f.p.A f.p.n f.p.c, .bool f.l.neg, .slice f.l.A f.l.n f.l.c] 31)).alloc (.cells #[.bool g.p.neg, .slice g.p.A g.p.n g.p.c, .bool g.l.neg, .slice g.l.A g.l.n g.l.c] 31)) := by go_grown
  have hgs : (w.alloc (.cells #[.bool f.p.neg, .slice f.p.A f.p.n f.p.c, .bool f.l.neg, .slice f.l.A f.l.n f.l.c] 31)).heap.size = w.heap.size + 1 := by simp
  rw [hgs] at hS2
  clear hgs
  go_upto_region 1 with fail
  generalize ((w.alloc (.cells #[.bool f.p.neg, .slice f.p.A f.p.n f.p.c, .bool f.l.neg, .slice f.l.A f.l.n f.l.c] 31)).alloc (.cells #[.bool g.p.neg, .slice g.p.A g.p.n g.p.c, .bool g.l.neg, .slice g.l.A g.l.n g.l.c] 31)) = W at hS1 hS2 hB ⊢
  have hfW := hf.on hB
  have hgW := hg.on hB
  obtain ⟨b1, hb1⟩ : ∃ b1, b1 = w.heap.size := ⟨_, rfl⟩
  obtain ⟨b2, hb2⟩ : ∃ b2, b2 = w.heap.size + 1 := ⟨_, rfl⟩
  rw [← hb2] at hS2 ⊢
  rw [← hb1] at hS1 ⊢
  clear hb1 hb2
  go_cut [5, 6, 7, 8] (fun s5 s6 s7 s8 wx => CmpSt W p q r s s5 s6 s7 s8 wx)
  case first =>
    refine region_inv (by kernel_rfl) (CmpRJ W f g q s b1 b2 ) ?_ ?_ ?_
    · exact ⟨_, _, _, _, _, _, _, _, _, _, _, _, rfl, by simp, CmpR.start⟩
    · intro L a wx i hJ hi
      obtain ⟨hlt, hnd, hdep⟩ := ready_spec hi
      obtain ⟨s16, s17, s18, s19, s20, s21, s22, s23, s5, s6, s7, s8, rfl, hsz, h⟩ := hJ
      have hlt2 : i < 16 := hlt
      clear hi hlt
      rcases (by omega : i = 0 ∨ i = 1 ∨ i = 2 ∨ i = 3 ∨ i = 4 ∨ i = 5 ∨ i = 6 ∨ i = 7 ∨ i = 8 ∨ i = 9 ∨ i = 10 ∨ i = 11 ∨ i = 12 ∨ i = 13 ∨ i = 14 ∨ i = 15) with rfl | rfl | rfl | rfl | rfl | rfl | rfl | rfl | rfl | rfl | rfl | rfl | rfl | rfl | rfl | rfl
      · clear hdep
        refine wpOp_step rfl (fun K hK => ?_)
        go_wp2_with fail
        exact ⟨_, _, _, _, _, _, _, _, _, _, _, _, rfl, by simp [hsz], h.set0 hnd rfl⟩
      · have d0 : done L 0 := hdep _ rfl { on := 0, ground := Ground.data } (by simp) rfl
        have e0 := h.p0 d0
        subst e0
        have l0 := (hS1.on h.bel).c0
        have l1 := (hS1.on h.bel).c1
        clear hdep
        refine wpOp_step rfl (fun K hK => ?_)
        go_wp2_with fail
        exact ⟨_, _, _, _, _, _, _, _, _, _, _, _, rfl, by simp [hsz], h.set1 hnd rfl⟩
      · have l0 := (hS1.on h.bel).c0
        have l1 := (hS1.on h.bel).c1
        have l2 := (hS1.on h.bel).c2
        have l3 := (hS1.on h.bel).c3
        clear hdep
        refine wpOp_step rfl (fun K hK => ?_)
        go_wp2_with fail
        exact ⟨_, _, _, _, _, _, _, _, _, _, _, _, rfl, by simp [hsz], h.set2 hnd rfl⟩
      · have d2 : done L 2 := hdep _ rfl { on := 2, ground := Ground.data } (by simp) rfl
        have e2 := h.p2 d2
        subst e2
        clear hdep
        refine wpOp_step rfl (fun K hK => ?_)
        go_wp2_with fail
        refine (Den_b (f := f) hfW h.bel).mono ?_
        rintro e v ⟨r, rfl, j, k, hr⟩
        go_wp2_with fail
        exact ⟨_, _, _, _, _, _, _, _, _, _, _, _, rfl, by simp [hsz], (h.up k).set3 hnd ⟨r, rfl, hr⟩⟩
      · clear hdep
        refine wpOp_step rfl (fun K hK => ?_)
        go_wp2_with fail
        exact ⟨_, _, _, _, _, _, _, _, _, _, _, _, rfl, by simp [hsz], h.set4 hnd rfl⟩
      · have d4 : done L 4 := hdep _ rfl { on := 4, ground := Ground.data } (by simp) rfl
        have e4 := h.p4 d4
        subst e4
        have l0 := (hS2.on h.bel).c0
        have l1 := (hS2.on h.bel).c1
        clear hdep
        refine wpOp_step rfl (fun K hK => ?_)
        go_wp2_with fail
        exact ⟨_, _, _, _, _, _, _, _, _, _, _, _, rfl, by simp [hsz], h.set5 hnd rfl⟩
      · have l0 := (hS2.on h.bel).c0
        have l1 := (hS2.on h.bel).c1
        have l2 := (hS2.on h.bel).c2
        have l3 := (hS2.on h.bel).c3
        clear hdep
        refine wpOp_step rfl (fun K hK => ?_)
        go_wp2_with fail
        exact ⟨_, _, _, _, _, _, _, _, _, _, _, _, rfl, by simp [hsz], h.set6 hnd rfl⟩
      · have d6 : done L 6 := hdep _ rfl { on := 6, ground := Ground.data } (by simp) rfl
        have e6 := h.p6 d6
        subst e6
        clear hdep
        refine wpOp_step rfl (fun K hK => ?_)
        go_wp2_with fail
        refine (Den_b (f := g) hgW h.bel).mono ?_
        rintro e v ⟨r, rfl, j, k, hr⟩
        go_wp2_with fail
        exact ⟨_, _, _, _, _, _, _, _, _, _, _, _, rfl, by simp [hsz], (h.up k).set7 hnd ⟨r, rfl, hr⟩⟩
      · clear hdep
        refine wpOp_step rfl (fun K hK => ?_)
        go_wp2_with fail
        exact ⟨_, _, _, _, _, _, _, _, _, _, _, _, rfl, by simp [hsz], h.set8 hnd⟩
      · clear hdep
        refine wpOp_step rfl (fun K hK => ?_)
        go_wp2_with fail
        exact ⟨_, _, _, _, _, _, _, _, _, _, _, _, rfl, by simp [hsz], h.set9 hnd⟩
      · clear hdep
        refine wpOp_step rfl (fun K hK => ?_)
        go_wp2_with fail
        exact ⟨_, _, _, _, _, _, _, _, _, _, _, _, rfl, by simp [hsz], h.set10 hnd⟩
      · clear hdep
        refine wpOp_step rfl (fun K hK => ?_)
        go_wp2_with fail
        exact ⟨_, _, _, _, _, _, _, _, _, _, _, _, rfl, by simp [hsz], h.set11 hnd⟩
      · have d8 : done L 8 := hdep _ rfl { on := 8, ground := Ground.data } (by simp) rfl
        have d1 : done L 1 := hdep _ rfl { on := 1, ground := Ground.data } (by simp) rfl
        obtain ⟨gb, c0, c1, es, hgb, hO, h0, h1, _⟩ := h.a8 d8
        have ex := h.p1 d1
        have hn := h.set12 d8 d1 es ex hgb hO h0 h1
        have z0 := hO.c0
        have z1 := hO.c1
        have f0 := hO.frozen 0
        have f1 := hO.frozen 1
        have HN := Lib.hid hn
        clear hn hdep
        subst es ex
        refine wpOp_step rfl (fun K hK => ?_)
        go_wp2_with fail
        exact ⟨_, _, _, _, _, _, _, _, _, _, _, _, rfl, by simp [hsz], HN.out⟩
      · have d9 : done L 9 := hdep _ rfl { on := 9, ground := Ground.data } (by simp) rfl
        have d3 : done L 3 := hdep _ rfl { on := 3, ground := Ground.data } (by simp) rfl
        obtain ⟨gb, c0, c1, es, hgb, hO, h0, h1, _⟩ := h.a9 d9
        obtain ⟨x, ex, _⟩ := h.c3 d3
        have hn := h.set13 d9 d3 es ex hgb hO h0 h1
        have z0 := hO.c0
        have z1 := hO.c1
        have f0 := hO.frozen 0
        have f1 := hO.frozen 1
        have HN := Lib.hid hn
        clear hn hdep
        subst es ex
        refine wpOp_step rfl (fun K hK => ?_)
        go_wp2_with fail
        exact ⟨_, _, _, _, _, _, _, _, _, _, _, _, rfl, by simp [hsz], HN.out⟩
      · have d10 : done L 10 := hdep _ rfl { on := 10, ground := Ground.data } (by simp) rfl
        have d5 : done L 5 := hdep _ rfl { on := 5, ground := Ground.data } (by simp) rfl
        obtain ⟨gb, c0, c1, es, hgb, hO, h0, h1, _⟩ := h.a10 d10
        have ex := h.p5 d5
        have hn := h.set14 d10 d5 es ex hgb hO h0 h1
        have z0 := hO.c0
        have z1 := hO.c1
        have f0 := hO.frozen 0
        have f1 := hO.frozen 1
        have HN := Lib.hid hn
        clear hn hdep
        subst es ex
        refine wpOp_step rfl (fun K hK => ?_)
        go_wp2_with fail
        exact ⟨_, _, _, _, _, _, _, _, _, _, _, _, rfl, by simp [hsz], HN.out⟩
      · have d11 : done L 11 := hdep _ rfl { on := 11, ground := Ground.data } (by simp) rfl
        have d7 : done L 7 := hdep _ rfl { on := 7, ground := Ground.data } (by simp) rfl
        obtain ⟨gb, c0, c1, es, hgb, hO, h0, h1, _⟩ := h.a11 d11
        obtain ⟨x, ex, _⟩ := h.c7 d7
        have hn := h.set15 d11 d7 es ex hgb hO h0 h1
        have z0 := hO.c0
        have z1 := hO.c1
        have f0 := hO.frozen 0
        have f1 := hO.frozen 1
        have HN := Lib.hid hn
        clear hn hdep
        subst es ex
        refine wpOp_step rfl (fun K hK => ?_)
        go_wp2_with fail
        exact ⟨_, _, _, _, _, _, _, _, _, _, _, _, rfl, by simp [hsz], HN.out⟩
    · intro L a wx hJ hr
      obtain ⟨s16, s17, s18, s19, s20, s21, s22, s23, s5, s6, s7, s8, rfl, hsz, h⟩ := hJ
      have D := all_done hr hsz (by kernel_rfl)
      have D2 : ∀ k, k < 16 → done L k := D
      clear D
      have h5 := h.a8 (D2 8 (by omega))
      go_wp2_with fail
      go_meet
      exact CmpSt.of h D2 hfW.num hgW.num
  case rest =>
    obtain ⟨g5, g6, g7, g8, P0, Q0, R0, S0, rfl, rfl, rfl, rfl, hL0⟩ := hcut.open_
    have hq0 := hf.pos
    have hs0 := hg.pos
    clear hcut
    obtain ⟨T, hT⟩ : ∃ T, T = cmpI (p * s) (r * q) := ⟨_, rfl⟩
    have HT := Lib.hid hT
    clear hT
    go_upto_region 2 with fail
    go_wp2_with fail
    go_loopg [9] s.toNat (fun n s9 wr => ∃ sg p' q' r' s' P Q R S, s9 = .int .i64 sg ∧ (sg = 1 ∨ sg = -1) ∧ CmpLp W g5 g6 g7 g8 P Q R S p' q' r' s' wr ∧ 0 < q' ∧ 0 < s' ∧ Hid (s'.toNat = n) ∧ Hid (T = sg * cmpI (p' * s') (r' * q')))
    case atStart => exact ⟨1, p, q, r, s, P0, Q0, R0, S0, rfl, .inl rfl, hL0, hq0, hs0, Lib.hid rfl, Lib.hid (by rw [HT.out, Int.one_mul])⟩
    case round =>
      obtain ⟨sg, p', q', r', s', P, Q, R, S, rfl, hsg, hL, hq, hs, hn, hT⟩ := hrel
      have c0 := hL.o5.c0
      have c1 := hL.o5.c1
      have c2 := hL.o6.c0
      have c3 := hL.o6.c1
      go_wp2_with fail
      refine (div_iv hL.i5 hL.i6 (by omega)).mono ?_
      rintro e w1 ⟨X, Rs, rfl, hb1, hX, hRs⟩
      go_upto_region 5 with fail
      have hb2 := (below_new w1 (.cells #[.bool X.neg, .slice X.A X.n X.c] 29)).trans ((below_new (w1.alloc (.cells #[.bool X.neg, .slice X.A X.n X.c] 29)) (.cells #[.bool Rs.neg, .slice Rs.A Rs.n Rs.c] 29)).mono (by simp))
      have oX := (Own.newI w1 29 X).alloc (.cells #[.bool Rs.neg, .slice Rs.A Rs.n Rs.c] 29)
      have oR := Own.newI (w1.alloc (.cells #[.bool X.neg, .slice X.A X.n X.c] 29)) 29 Rs
      have hgs : (w1.alloc (.cells #[.bool X.neg, .slice X.A X.n X.c] 29)).heap.size = w1.heap.size + 1 := by simp
      rw [hgs] at oR
      generalize (w1.alloc (.cells #[.bool X.neg, .slice X.A X.n X.c] 29)).alloc (.cells #[.bool Rs.neg, .slice Rs.A Rs.n Rs.c] 29) = w2 at hb2 oX oR ⊢
      have hL2 := (hL.on hb1).on hb2
      have hX2 := hX.on hb2
      have hR2 := hRs.on hb2
      clear c0 c1 c2 c3 hgs
      have c0 := hL2.o7.c0
      have c1 := hL2.o7.c1
      have c2 := hL2.o8.c0
      have c3 := hL2.o8.c1
      go_wp2_with fail
      refine (div_iv hL2.i7 hL2.i8 (by omega)).mono ?_
      rintro e w3 ⟨Y, Os, rfl, hb3, hY, hOs⟩
      go_upto_region 6 with fail
      have hb4 := (below_new w3 (.cells #[.bool Y.neg, .slice Y.A Y.n Y.c] 29)).trans ((below_new (w3.alloc (.cells #[.bool Y.neg, .slice Y.A Y.n Y.c] 29)) (.cells #[.bool Os.neg, .slice Os.A Os.n Os.c] 29)).mono (by simp))
      have oY := (Own.newI w3 29 Y).alloc (.cells #[.bool Os.neg, .slice Os.A Os.n Os.c] 29)
      have oO := Own.newI (w3.alloc (.cells #[.bool Y.neg, .slice Y.A Y.n Y.c] 29)) 29 Os
      have hgs : (w3.alloc (.cells #[.bool Y.neg, .slice Y.A Y.n Y.c] 29)).heap.size = w3.heap.size + 1 := by simp
      rw [hgs] at oO
      generalize (w3.alloc (.cells #[.bool Y.neg, .slice Y.A Y.n Y.c] 29)).alloc (.cells #[.bool Os.neg, .slice Os.A Os.n Os.c] 29) = w4 at hb4 oY oO ⊢
      have hL4 := (hL2.on hb3).on hb4
      have hX4 := (hX2.on hb3).on hb4
      have hR4 := (hR2.on hb3).on hb4
      have hY4 := hY.on hb4
      have hO4 := hOs.on hb4
      have oX4 := (oX.on hb3).on hb4
      have oR4 := (oR.on hb3).on hb4
      have hsz1 : g5 < w1.heap.size ∧ g6 < w1.heap.size ∧ g7 < w1.heap.size ∧ g8 < w1.heap.size := ⟨(hL.o5.on hb1).lt, (hL.o6.on hb1).lt, (hL.o7.on hb1).lt, (hL.o8.on hb1).lt⟩
      have hsz2 : w1.heap.size + 1 < w3.heap.size := (oR.on hb3).lt
      clear c0 c1 c2 c3 hgs hX hRs hX2 hR2 hY hOs oX oR hL hL2
      obtain ⟨bX, hbX⟩ : ∃ bX, bX = w1.heap.size := ⟨_, rfl⟩
      obtain ⟨bR, hbR⟩ : ∃ bR, bR = w1.heap.size + 1 := ⟨_, rfl⟩
      obtain ⟨bY, hbY⟩ : ∃ bY, bY = w3.heap.size := ⟨_, rfl⟩
      obtain ⟨bO, hbO⟩ : ∃ bO, bO = w3.heap.size + 1 := ⟨_, rfl⟩
      rw [← hbX] at oX4
      rw [← hbR] at oR4
      rw [← hbY] at oY
      rw [← hbO] at oO
      rw [← hbR, ← hbX, ← hbO, ← hbY]
      have hlt1 : g5 < bX ∧ g6 < bX ∧ g7 < bX ∧ g8 < bX := by rw [hbX]; exact hsz1
      have hlt2 : bX < bR ∧ bR < bY ∧ bY < bO := by omega
      clear hsz1 hsz2
      clear hbX hbR hbY hbO hb1 hb2 hb3 hb4
      obtain ⟨xx, hxx⟩ : ∃ xx, xx = p' / q' := ⟨_, rfl⟩
      obtain ⟨yy, hyy⟩ : ∃ yy, yy = r' / s' := ⟨_, rfl⟩
      obtain ⟨ra, hra⟩ : ∃ ra, ra = p' % q' := ⟨_, rfl⟩
      obtain ⟨ob, hob⟩ : ∃ ob, ob = r' % s' := ⟨_, rfl⟩
      rw [← hxx] at hX4
      rw [← hyy] at hY4
      rw [← hra] at hR4
      rw [← hob] at hO4
      have HXX := Lib.hid hxx
      have HYY := Lib.hid hyy
      have HRA := Lib.hid hra
      have HOB := Lib.hid hob
      have hra0 : 0 ≤ ra := by rw [hra]; exact Int.emod_nonneg _ (by omega)
      have hob0 : 0 ≤ ob := by rw [hob]; exact Int.emod_nonneg _ (by omega)
      have hob1 : ob < s' := by rw [hob]; exact Int.emod_lt_of_pos _ hs
      clear hxx hyy hra hob
      have hcb := cmpI_bd xx yy
      have x0 := oX4.c0
      have x1 := oX4.c1
      have y0 := oY.c0
      have y1 := oY.c1
      go_wp2_with fail
      refine (compare_iv hX4 hY4).mono ?_
      rintro e w5 ⟨rfl, hb5⟩
      have oX5 := oX4.on hb5
      have oR5 := oR4.on hb5
      have oY5 := oY.on hb5
      have oO5 := oO.on hb5
      have hL5 := hL4.on hb5
      have hX5 := hX4.on hb5
      have hY5 := hY4.on hb5
      have hR5 := hR4.on hb5
      have hO5 := hO4.on hb5
      clear x0 x1 y0 y1 oX4 oR4 oY oO hL4 hX4 hY4 hR4 hO4
      by_cases hxy : xx = yy
      · have hne : (cmpI xx yy != 0) = false := by rw [cmpI_eq hxy]; rfl
        have hxr : p' / q' = r' / s' := by rw [← HXX.out, ← HYY.out]; exact hxy
        have HXR := Lib.hid hxr
        have r0 := oR5.c0
        have r1 := oR5.c1
        have hB5 : Below w.heap.size w w5 := Below.call hB hL5.bel
        clear hxr hxy
        go_wp2_with fail
        refine (sign_iv hR5).mono ?_
        rintro e w6 ⟨rfl, hb6⟩
        have oR6 := oR5.on hb6
        have oO6 := oO5.on hb6
        have hL6 := hL5.on hb6
        have hR6 := hR5.on hb6
        have hO6 := hO5.on hb6
        have hB6 := Below.call hB5 hb6
        clear r0 r1 hB5 hL5 hR5 hO5 oX5 oY5 oR5 oO5 hX5 hY5
        have r0 := oR6.c0
        have r1 := oR6.c1
        have o0 := oO6.c0
        have o1 := oO6.c1
        rcases (by omega : ra = 0 ∨ 0 < ra) with hr0 | hr0
        · have hcr : cmpI ra 0 = 0 := cmpI_eq hr0
          have hfin : T = sg * (cmpI ra 0 - cmpI ob 0) := by rw [hT.out, cmp_end hq hs HXR.out (.inl (by rw [← HRA.out]; exact hr0)), ← HRA.out, ← HOB.out]
          rw [hcr] at hfin
          have hfin2 : T = -(sg * cmpI ob 0) := by rw [hfin, Int.zero_sub, Int.mul_neg]
          have HF := Lib.hid hfin2
          clear hfin hfin2 hr0
          rcases (by omega : ob = 0 ∨ 0 < ob) with ho0 | ho0
          · have hco : cmpI ob 0 = 0 := cmpI_eq ho0
            clear ho0
            rcases hsg with rfl | rfl
            all_goals
              go_wp2_with fail
              go_region_held3 (fun w' => w'.cell? ⟨bR, 0, none⟩ = some (.bool Rs.neg) ∧ w'.cell? ⟨bR, 1, none⟩ = some (.slice Rs.A Rs.n Rs.c) ∧ w'.cell? ⟨bO, 0, none⟩ = some (.bool Os.neg) ∧ w'.cell? ⟨bO, 1, none⟩ = some (.slice Os.A Os.n Os.c))
                (first | with_reducible exact ⟨oR6.drew.c0, oR6.drew.c1, oO6.drew.c0, oO6.drew.c1⟩ | with_reducible exact ⟨oRa.c0, oRa.c1, oOa.c0, oOa.c1⟩ | with_reducible exact ⟨oRb.c0, oRb.c1, oOb.c0, oOb.c1⟩)
                (first
                  | (go_at_call 29; first
                      | ((with_reducible refine (sign_iv (x := Rs) hR6.of_drew).mono ?_); rintro e v1 ⟨rfl, k1⟩; have oRa := oR6.drew.on k1; have oOa := oO6.drew.on k1; have hOa := hO6.of_drew.on k1; have hBa := Below.call (Below.drew hB6) k1)
                      | ((with_reducible refine (sign_iv (x := Os) hOa).mono ?_); rintro e v2 ⟨rfl, k2⟩; have oRb := oRa.on k2; have oOb := oOa.on k2; have hBb := Below.call hBa k2)))
              go_wp2
              go_ret
              exact ⟨ret_i64 (by rw [← HT.out, HF.out, hco]; rfl), hBb⟩
          · have hco : cmpI ob 0 = 1 := cmpI_gt ho0
            clear ho0
            rcases hsg with rfl | rfl
            all_goals
              go_wp2_with fail
              go_region_held3 (fun w' => w'.cell? ⟨bR, 0, none⟩ = some (.bool Rs.neg) ∧ w'.cell? ⟨bR, 1, none⟩ = some (.slice Rs.A Rs.n Rs.c) ∧ w'.cell? ⟨bO, 0, none⟩ = some (.bool Os.neg) ∧ w'.cell? ⟨bO, 1, none⟩ = some (.slice Os.A Os.n Os.c))
                (first | with_reducible exact ⟨oR6.drew.c0, oR6.drew.c1, oO6.drew.c0, oO6.drew.c1⟩ | with_reducible exact ⟨oRa.c0, oRa.c1, oOa.c0, oOa.c1⟩ | with_reducible exact ⟨oRb.c0, oRb.c1, oOb.c0, oOb.c1⟩)
                (first
                  | (go_at_call 29; first
                      | ((with_reducible refine (sign_iv (x := Rs) hR6.of_drew).mono ?_); rintro e v1 ⟨rfl, k1⟩; have oRa := oR6.drew.on k1; have oOa := oO6.drew.on k1; have hOa := hO6.of_drew.on k1; have hBa := Below.call (Below.drew hB6) k1)
                      | ((with_reducible refine (sign_iv (x := Os) hOa).mono ?_); rintro e v2 ⟨rfl, k2⟩; have oRb := oRa.on k2; have oOb := oOa.on k2; have hBb := Below.call hBa k2)))
              go_wp2
              go_ret
              exact ⟨ret_i64 (by rw [← HT.out, HF.out, hco]; rfl), hBb⟩
        · have hcr : cmpI ra 0 = 1 := cmpI_gt hr0
          go_wp2_with fail
          refine (sign_iv hO6).mono ?_
          rintro e w7 ⟨rfl, hb7⟩
          have oR7 := oR6.on hb7
          have oO7 := oO6.on hb7
          have hL7 := hL6.on hb7
          have hR7 := hR6.on hb7
          have hO7 := hO6.on hb7
          have hB7 := Below.call hB6 hb7
          clear r0 r1 o0 o1 hB6 hL6 hR6 hO6 oR6 oO6
          rcases (by omega : ob = 0 ∨ 0 < ob) with ho0 | ho0
          · have hco : cmpI ob 0 = 0 := cmpI_eq ho0
            have hfin : T = sg * (cmpI ra 0 - cmpI ob 0) := by rw [hT.out, cmp_end hq hs HXR.out (.inr (by rw [← HOB.out]; exact ho0)), ← HRA.out, ← HOB.out]
            rw [hcr, hco] at hfin
            have HF := Lib.hid hfin
            clear hfin ho0
            rcases hsg with rfl | rfl
            all_goals
              go_wp2_with fail
              go_region_held3 (fun w' => w'.cell? ⟨bR, 0, none⟩ = some (.bool Rs.neg) ∧ w'.cell? ⟨bR, 1, none⟩ = some (.slice Rs.A Rs.n Rs.c) ∧ w'.cell? ⟨bO, 0, none⟩ = some (.bool Os.neg) ∧ w'.cell? ⟨bO, 1, none⟩ = some (.slice Os.A Os.n Os.c))
                (first | with_reducible exact ⟨oR7.drew.c0, oR7.drew.c1, oO7.drew.c0, oO7.drew.c1⟩ | with_reducible exact ⟨oRa.c0, oRa.c1, oOa.c0, oOa.c1⟩ | with_reducible exact ⟨oRb.c0, oRb.c1, oOb.c0, oOb.c1⟩)
                (first
                  | (go_at_call 29; first
                      | ((with_reducible refine (sign_iv (x := Rs) hR7.of_drew).mono ?_); rintro e v1 ⟨rfl, k1⟩; have oRa := oR7.drew.on k1; have oOa := oO7.drew.on k1; have hOa := hO7.of_drew.on k1; have hBa := Below.call (Below.drew hB7) k1)
                      | ((with_reducible refine (sign_iv (x := Os) hOa).mono ?_); rintro e v2 ⟨rfl, k2⟩; have oRb := oRa.on k2; have oOb := oOa.on k2; have hBb := Below.call hBa k2)))
              go_wp2
              go_ret
              exact ⟨ret_i64 (by rw [← HT.out, HF.out]; rfl), hBb⟩
          · have hco : cmpI ob 0 = 1 := cmpI_gt ho0
            have hnx : T = -sg * cmpI (q' * ob) (s' * ra) := by rw [hT.out, cmp_next HXR.out, ← HRA.out, ← HOB.out, Int.mul_neg, Int.neg_mul]
            have HNX := Lib.hid hnx
            have hns : -sg = 1 ∨ -sg = -1 := by omega
            clear hnx
            go_wp2_with fail
            have p50 := hL7.o5.c0
            have p51 := hL7.o5.c1
            have p60 := hL7.o6.c0
            have p61 := hL7.o6.c1
            have p70 := hL7.o7.c0
            have p71 := hL7.o7.c1
            have p80 := hL7.o8.c0
            have p81 := hL7.o8.c1
            have k50 := hL7.o5.frozen 0
            have k51 := hL7.o5.frozen 1
            have k60 := hL7.o6.frozen 0
            have k61 := hL7.o6.frozen 1
            have k70 := hL7.o7.frozen 0
            have k71 := hL7.o7.frozen 1
            have k80 := hL7.o8.frozen 0
            have k81 := hL7.o8.frozen 1
            have r0 := oR7.c0
            have r1 := oR7.c1
            have o0 := oO7.c0
            have o1 := oO7.c1
            have n56 := hL7.n56
            have n57 := hL7.n57
            have n58 := hL7.n58
            have n67 := hL7.n67
            have n68 := hL7.n68
            have n78 := hL7.n78
            have n65 := n56.symm
            have n75 := n57.symm
            have n85 := n58.symm
            have n76 := n67.symm
            have n86 := n68.symm
            have n87 := n78.symm
            have m1 : g5 ≠ bR := by omega
            have m2 : g6 ≠ bR := by omega
            have m3 : g7 ≠ bR := by omega
            have m4 : g8 ≠ bR := by omega
            have m5 : g5 ≠ bO := by omega
            have m6 : g6 ≠ bO := by omega
            have m7 : g7 ≠ bO := by omega
            have m8 : g8 ≠ bO := by omega
            have hN := hL7.next hR7 hO7
            have HN := Lib.hid hN
            clear hN
            go_region
            generalize ((((((((w7.setCell ⟨g5, 0, none⟩ (.bool Q.neg)).setCell ⟨g5, 1, none⟩ (.slice Q.A Q.n Q.c)).setCell ⟨g6, 0, none⟩ (.bool Rs.neg)).setCell ⟨g6, 1, none⟩ (.slice Rs.A Rs.n Rs.c)).setCell ⟨g7, 0, none⟩ (.bool S.neg)).setCell ⟨g7, 1, none⟩ (.slice S.A S.n S.c)).setCell ⟨g8, 0, none⟩ (.bool Os.neg)).setCell ⟨g8, 1, none⟩ (.slice Os.A Os.n Os.c)).drew = w8 at HN ⊢
            go_wp2_with fail
            go_roundg ob.toNat
            case measure => rw [← hn.out]; omega
            case rel => exact ⟨-sg, q', ra, s', ob, Q, Rs, S, Os, rfl, hns, HN.out, hr0, ho0, Lib.hid rfl, HNX⟩
      · have hne : (cmpI xx yy != 0) = true := by
          rcases Int.lt_or_gt_of_ne hxy with h | h
          · rw [cmpI_lt h]; rfl
          · rw [cmpI_gt h]; rfl
        have hfin : T = sg * cmpI xx yy := by rw [hT.out, cmp_whole hq hs (by rw [← HXX.out, ← HYY.out]; exact hxy), ← HXX.out, ← HYY.out]
        have HF := Lib.hid hfin
        have x0 := oX5.c0
        have x1 := oX5.c1
        have y0 := oY5.c0
        have y1 := oY5.c1
        have hB5 : Below w.heap.size w w5 := Below.call hB hL5.bel
        clear hfin
        rcases hsg with rfl | rfl
        all_goals
          go_wp2_with fail
          refine (compare_iv hX5 hY5).mono ?_
          rintro e w6 ⟨rfl, hb6⟩
          go_wp2
          go_ret
          exact ⟨ret_i64 (by rw [← HT.out, HF.out]; omega), Below.call hB5 hb6⟩
end Go.Proofs.YtfbbnphpapmpcaaGreatDoor
