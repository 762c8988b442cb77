/-
  Contracts of package frac: Mul.
-/
import Derived.Test.YtfbbnphpapmpcaaGreatDoorF5
namespace Go.Proofs.YtfbbnphpapmpcaaGreatDoor
open Go.RowKit Mag

/-- What holds when the operations L of the region have come up. -/
structure MulR1 (L : Array Bool) (W : World) (f g : FV) (p q r s : Int) (b1 b2 : Nat) (s12 s13 s14 s15 s16 s17 s18 s19 s20 s21 s6 s7 : Value) (w : World) : Prop where
  bel : Below W.heap.size W w
  p0 : done L 0 → s12 = .pointer (some ⟨b1, 0, none⟩)
  p1 : done L 1 → s13 = .agg #[.bool f.p.neg, .slice f.p.A f.p.n f.p.c]
  p2 : done L 2 → s14 = .agg #[.bool g.p.neg, .slice g.p.A g.p.n g.p.c, .bool g.l.neg, .slice g.l.A g.l.n g.l.c]
  c3 : done L 3 → IsI w s15 s
  c4 : done L 4 → IsI w s16 (Int.gcd p s : Nat)
  p5 : done L 5 → s17 = .pointer (some ⟨b2, 0, none⟩)
  p6 : done L 6 → s18 = .agg #[.bool g.p.neg, .slice g.p.A g.p.n g.p.c]
  p7 : done L 7 → s19 = .agg #[.bool f.p.neg, .slice f.p.A f.p.n f.p.c, .bool f.l.neg, .slice f.l.A f.l.n f.l.c]
  c8 : done L 8 → IsI w s20 q
  c9 : done L 9 → IsI w s21 (Int.gcd r q : Nat)
  a10 : done L 10 → BoxAt W w 29 s6 (done L 12) s16
  a11 : done L 11 → BoxAt W w 29 s7 (done L 13) s21
  e12 : done L 12 → done L 10 ∧ done L 4
  e13 : done L 13 → done L 11 ∧ done L 9
  n10_11 : done L 10 → done L 11 → s6 ≠ s7
theorem MulR1.up {L : Array Bool} {W : World} {f g : FV} {p q r s : Int} {b1 b2 : Nat} {s12 s13 s14 s15 s16 s17 s18 s19 s20 s21 s6 s7 : Value} {w : World} (h : MulR1 L W f g p q r s b1 b2 s12 s13 s14 s15 s16 s17 s18 s19 s20 s21 s6 s7 w) {w' : World} (hb : Below w.heap.size w w') : MulR1 L W f g p q r s b1 b2 s12 s13 s14 s15 s16 s17 s18 s19 s20 s21 s6 s7 w' :=
  ⟨Below.call h.bel hb, h.p0, h.p1, h.p2, fun d => (h.c3 d).on hb, fun d => (h.c4 d).on hb, h.p5, h.p6, h.p7, fun d => (h.c8 d).on hb, fun d => (h.c9 d).on hb, fun d => (h.a10 d).on hb, fun d => (h.a11 d).on hb, h.e12, h.e13, h.n10_11⟩
theorem MulR1.set0 {L : Array Bool} {W : World} {f g : FV} {p q r s : Int} {b1 b2 : Nat} {s12 s13 s14 s15 s16 s17 s18 s19 s20 s21 s6 s7 : Value} {w : World} (h : MulR1 L W f g p q r s b1 b2 s12 s13 s14 s15 s16 s17 s18 s19 s20 s21 s6 s7 w) (_hk : ¬ done L 0) {v : Value} (hv : v = .pointer (some ⟨b1, 0, none⟩)) : MulR1 (L.setIfInBounds 0 true) W f g p q r s b1 b2 v s13 s14 s15 s16 s17 s18 s19 s20 s21 s6 s7 w :=
  ⟨h.bel, fun _ => hv, fun d => h.p1 (done_set d (by decide)), fun d => h.p2 (done_set d (by decide)), fun d => h.c3 (done_set d (by decide)), fun d => h.c4 (done_set d (by decide)), fun d => h.p5 (done_set d (by decide)), fun d => h.p6 (done_set d (by decide)), fun d => h.p7 (done_set d (by decide)), fun d => h.c8 (done_set d (by decide)), fun d => h.c9 (done_set d (by decide)), fun d => (h.a10 (done_set d (by decide))).imp (fun x => done_set x (by decide)), fun d => (h.a11 (done_set d (by decide))).imp (fun x => done_set x (by decide)), fun d => ⟨done_up (h.e12 (done_set d (by decide))).1, done_up (h.e12 (done_set d (by decide))).2⟩, fun d => ⟨done_up (h.e13 (done_set d (by decide))).1, done_up (h.e13 (done_set d (by decide))).2⟩, fun d d2 => h.n10_11 (done_set d (by decide)) (done_set d2 (by decide))⟩
theorem MulR1.set1 {L : Array Bool} {W : World} {f g : FV} {p q r s : Int} {b1 b2 : Nat} {s12 s13 s14 s15 s16 s17 s18 s19 s20 s21 s6 s7 : Value} {w : World} (h : MulR1 L W f g p q r s b1 b2 s12 s13 s14 s15 s16 s17 s18 s19 s20 s21 s6 s7 w) (_hk : ¬ done L 1) {v : Value} (hv : v = .agg #[.bool f.p.neg, .slice f.p.A f.p.n f.p.c]) : MulR1 (L.setIfInBounds 1 true) W f g p q r s b1 b2 s12 v s14 s15 s16 s17 s18 s19 s20 s21 s6 s7 w :=
  ⟨h.bel, fun d => h.p0 (done_set d (by decide)), fun _ => hv, fun d => h.p2 (done_set d (by decide)), fun d => h.c3 (done_set d (by decide)), fun d => h.c4 (done_set d (by decide)), fun d => h.p5 (done_set d (by decide)), fun d => h.p6 (done_set d (by decide)), fun d => h.p7 (done_set d (by decide)), fun d => h.c8 (done_set d (by decide)), fun d => h.c9 (done_set d (by decide)), fun d => (h.a10 (done_set d (by decide))).imp (fun x => done_set x (by decide)), fun d => (h.a11 (done_set d (by decide))).imp (fun x => done_set x (by decide)), fun d => ⟨done_up (h.e12 (done_set d (by decide))).1, done_up (h.e12 (done_set d (by decide))).2⟩, fun d => ⟨done_up (h.e13 (done_set d (by decide))).1, done_up (h.e13 (done_set d (by decide))).2⟩, fun d d2 => h.n10_11 (done_set d (by decide)) (done_set d2 (by decide))⟩
theorem MulR1.set2 {L : Array Bool} {W : World} {f g : FV} {p q r s : Int} {b1 b2 : Nat} {s12 s13 s14 s15 s16 s17 s18 s19 s20 s21 s6 s7 : Value} {w : World} (h : MulR1 L W f g p q r s b1 b2 s12 s13 s14 s15 s16 s17 s18 s19 s20 s21 s6 s7 w) (_hk : ¬ done L 2) {v : Value} (hv : v = .agg #[.bool g.p.neg, .slice g.p.A g.p.n g.p.c, .bool g.l.neg, .slice g.l.A g.l.n g.l.c]) : MulR1 (L.setIfInBounds 2 true) W f g p q r s b1 b2 s12 s13 v s15 s16 s17 s18 s19 s20 s21 s6 s7 w :=
  ⟨h.bel, fun d => h.p0 (done_set d (by decide)), fun d => h.p1 (done_set d (by decide)), fun _ => hv, fun d => h.c3 (done_set d (by decide)), fun d => h.c4 (done_set d (by decide)), fun d => h.p5 (done_set d (by decide)), fun d => h.p6 (done_set d (by decide)), fun d => h.p7 (done_set d (by decide)), fun d => h.c8 (done_set d (by decide)), fun d => h.c9 (done_set d (by decide)), fun d => (h.a10 (done_set d (by decide))).imp (fun x => done_set x (by decide)), fun d => (h.a11 (done_set d (by decide))).imp (fun x => done_set x (by decide)), fun d => ⟨done_up (h.e12 (done_set d (by decide))).1, done_up (h.e12 (done_set d (by decide))).2⟩, fun d => ⟨done_up (h.e13 (done_set d (by decide))).1, done_up (h.e13 (done_set d (by decide))).2⟩, fun d d2 => h.n10_11 (done_set d (by decide)) (done_set d2 (by decide))⟩
theorem MulR1.set3 {L : Array Bool} {W : World} {f g : FV} {p q r s : Int} {b1 b2 : Nat} {s12 s13 s14 s15 s16 s17 s18 s19 s20 s21 s6 s7 : Value} {w : World} (h : MulR1 L W f g p q r s b1 b2 s12 s13 s14 s15 s16 s17 s18 s19 s20 s21 s6 s7 w) (_hk : ¬ done L 3) {v : Value} (hv : IsI w v s) : MulR1 (L.setIfInBounds 3 true) W f g p q r s b1 b2 s12 s13 s14 v s16 s17 s18 s19 s20 s21 s6 s7 w :=
  ⟨h.bel, fun d => h.p0 (done_set d (by decide)), fun d => h.p1 (done_set d (by decide)), fun d => h.p2 (done_set d (by decide)), fun _ => hv, fun d => h.c4 (done_set d (by decide)), fun d => h.p5 (done_set d (by decide)), fun d => h.p6 (done_set d (by decide)), fun d => h.p7 (done_set d (by decide)), fun d => h.c8 (done_set d (by decide)), fun d => h.c9 (done_set d (by decide)), fun d => (h.a10 (done_set d (by decide))).imp (fun x => done_set x (by decide)), fun d => (h.a11 (done_set d (by decide))).imp (fun x => done_set x (by decide)), fun d => ⟨done_up (h.e12 (done_set d (by decide))).1, done_up (h.e12 (done_set d (by decide))).2⟩, fun d => ⟨done_up (h.e13 (done_set d (by decide))).1, done_up (h.e13 (done_set d (by decide))).2⟩, fun d d2 => h.n10_11 (done_set d (by decide)) (done_set d2 (by decide))⟩
theorem MulR1.set4 {L : Array Bool} {W : World} {f g : FV} {p q r s : Int} {b1 b2 : Nat} {s12 s13 s14 s15 s16 s17 s18 s19 s20 s21 s6 s7 : Value} {w : World} (h : MulR1 L W f g p q r s b1 b2 s12 s13 s14 s15 s16 s17 s18 s19 s20 s21 s6 s7 w) (hk : ¬ done L 4) {v : Value} (hv : IsI w v (Int.gcd p s : Nat)) : MulR1 (L.setIfInBounds 4 true) W f g p q r s b1 b2 s12 s13 s14 s15 v s17 s18 s19 s20 s21 s6 s7 w :=
  ⟨h.bel, fun d => h.p0 (done_set d (by decide)), fun d => h.p1 (done_set d (by decide)), fun d => h.p2 (done_set d (by decide)), fun d => h.c3 (done_set d (by decide)), fun _ => hv, fun d => h.p5 (done_set d (by decide)), fun d => h.p6 (done_set d (by decide)), fun d => h.p7 (done_set d (by decide)), fun d => h.c8 (done_set d (by decide)), fun d => h.c9 (done_set d (by decide)), fun d => (h.a10 (done_set d (by decide))).resrc (fun x => hk (h.e12 (done_set x (by decide))).2), fun d => (h.a11 (done_set d (by decide))).imp (fun x => done_set x (by decide)), fun d => ⟨done_up (h.e12 (done_set d (by decide))).1, done_up (h.e12 (done_set d (by decide))).2⟩, fun d => ⟨done_up (h.e13 (done_set d (by decide))).1, done_up (h.e13 (done_set d (by decide))).2⟩, fun d d2 => h.n10_11 (done_set d (by decide)) (done_set d2 (by decide))⟩
theorem MulR1.set5 {L : Array Bool} {W : World} {f g : FV} {p q r s : Int} {b1 b2 : Nat} {s12 s13 s14 s15 s16 s17 s18 s19 s20 s21 s6 s7 : Value} {w : World} (h : MulR1 L W f g p q r s b1 b2 s12 s13 s14 s15 s16 s17 s18 s19 s20 s21 s6 s7 w) (_hk : ¬ done L 5) {v : Value} (hv : v = .pointer (some ⟨b2, 0, none⟩)) : MulR1 (L.setIfInBounds 5 true) W f g p q r s b1 b2 s12 s13 s14 s15 s16 v s18 s19 s20 s21 s6 s7 w :=
  ⟨h.bel, fun d => h.p0 (done_set d (by decide)), fun d => h.p1 (done_set d (by decide)), fun d => h.p2 (done_set d (by decide)), fun d => h.c3 (done_set d (by decide)), fun d => h.c4 (done_set d (by decide)), fun _ => hv, fun d => h.p6 (done_set d (by decide)), fun d => h.p7 (done_set d (by decide)), fun d => h.c8 (done_set d (by decide)), fun d => h.c9 (done_set d (by decide)), fun d => (h.a10 (done_set d (by decide))).imp (fun x => done_set x (by decide)), fun d => (h.a11 (done_set d (by decide))).imp (fun x => done_set x (by decide)), fun d => ⟨done_up (h.e12 (done_set d (by decide))).1, done_up (h.e12 (done_set d (by decide))).2⟩, fun d => ⟨done_up (h.e13 (done_set d (by decide))).1, done_up (h.e13 (done_set d (by decide))).2⟩, fun d d2 => h.n10_11 (done_set d (by decide)) (done_set d2 (by decide))⟩
theorem MulR1.set6 {L : Array Bool} {W : World} {f g : FV} {p q r s : Int} {b1 b2 : Nat} {s12 s13 s14 s15 s16 s17 s18 s19 s20 s21 s6 s7 : Value} {w : World} (h : MulR1 L W f g p q r s b1 b2 s12 s13 s14 s15 s16 s17 s18 s19 s20 s21 s6 s7 w) (_hk : ¬ done L 6) {v : Value} (hv : v = .agg #[.bool g.p.neg, .slice g.p.A g.p.n g.p.c]) : MulR1 (L.setIfInBounds 6 true) W f g p q r s b1 b2 s12 s13 s14 s15 s16 s17 v s19 s20 s21 s6 s7 w :=
  ⟨h.bel, fun d => h.p0 (done_set d (by decide)), fun d => h.p1 (done_set d (by decide)), fun d => h.p2 (done_set d (by decide)), fun d => h.c3 (done_set d (by decide)), fun d => h.c4 (done_set d (by decide)), fun d => h.p5 (done_set d (by decide)), fun _ => hv, fun d => h.p7 (done_set d (by decide)), fun d => h.c8 (done_set d (by decide)), fun d => h.c9 (done_set d (by decide)), fun d => (h.a10 (done_set d (by decide))).imp (fun x => done_set x (by decide)), fun d => (h.a11 (done_set d (by decide))).imp (fun x => done_set x (by decide)), fun d => ⟨done_up (h.e12 (done_set d (by decide))).1, done_up (h.e12 (done_set d (by decide))).2⟩, fun d => ⟨done_up (h.e13 (done_set d (by decide))).1, done_up (h.e13 (done_set d (by decide))).2⟩, fun d d2 => h.n10_11 (done_set d (by decide)) (done_set d2 (by decide))⟩
theorem MulR1.set7 {L : Array Bool} {W : World} {f g : FV} {p q r s : Int} {b1 b2 : Nat} {s12 s13 s14 s15 s16 s17 s18 s19 s20 s21 s6 s7 : Value} {w : World} (h : MulR1 L W f g p q r s b1 b2 s12 s13 s14 s15 s16 s17 s18 s19 s20 s21 s6 s7 w) (_hk : ¬ done L 7) {v : Value} (hv : v = .agg #[.bool f.p.neg, .slice f.p.A f.p.n f.p.c, .bool f.l.neg, .slice f.l.A f.l.n f.l.c]) : MulR1 (L.setIfInBounds 7 true) W f g p q r s b1 b2 s12 s13 s14 s15 s16 s17 s18 v s20 s21 s6 s7 w :=
  ⟨h.bel, fun d => h.p0 (done_set d (by decide)), fun d => h.p1 (done_set d (by decide)), fun d => h.p2 (done_set d (by decide)), fun d => h.c3 (done_set d (by decide)), fun d => h.c4 (done_set d (by decide)), fun d => h.p5 (done_set d (by decide)), fun d => h.p6 (done_set d (by decide)), fun _ => hv, fun d => h.c8 (done_set d (by decide)), fun d => h.c9 (done_set d (by decide)), fun d => (h.a10 (done_set d (by decide))).imp (fun x => done_set x (by decide)), fun d => (h.a11 (done_set d (by decide))).imp (fun x => done_set x (by decide)), fun d => ⟨done_up (h.e12 (done_set d (by decide))).1, done_up (h.e12 (done_set d (by decide))).2⟩, fun d => ⟨done_up (h.e13 (done_set d (by decide))).1, done_up (h.e13 (done_set d (by decide))).2⟩, fun d d2 => h.n10_11 (done_set d (by decide)) (done_set d2 (by decide))⟩
theorem MulR1.set8 {L : Array Bool} {W : World} {f g : FV} {p q r s : Int} {b1 b2 : Nat} {s12 s13 s14 s15 s16 s17 s18 s19 s20 s21 s6 s7 : Value} {w : World} (h : MulR1 L W f g p q r s b1 b2 s12 s13 s14 s15 s16 s17 s18 s19 s20 s21 s6 s7 w) (_hk : ¬ done L 8) {v : Value} (hv : IsI w v q) : MulR1 (L.setIfInBounds 8 true) W f g p q r s b1 b2 s12 s13 s14 s15 s16 s17 s18 s19 v s21 s6 s7 w :=
  ⟨h.bel, fun d => h.p0 (done_set d (by decide)), fun d => h.p1 (done_set d (by decide)), fun d => h.p2 (done_set d (by decide)), fun d => h.c3 (done_set d (by decide)), fun d => h.c4 (done_set d (by decide)), fun d => h.p5 (done_set d (by decide)), fun d => h.p6 (done_set d (by decide)), fun d => h.p7 (done_set d (by decide)), fun _ => hv, fun d => h.c9 (done_set d (by decide)), fun d => (h.a10 (done_set d (by decide))).imp (fun x => done_set x (by decide)), fun d => (h.a11 (done_set d (by decide))).imp (fun x => done_set x (by decide)), fun d => ⟨done_up (h.e12 (done_set d (by decide))).1, done_up (h.e12 (done_set d (by decide))).2⟩, fun d => ⟨done_up (h.e13 (done_set d (by decide))).1, done_up (h.e13 (done_set d (by decide))).2⟩, fun d d2 => h.n10_11 (done_set d (by decide)) (done_set d2 (by decide))⟩
theorem MulR1.set9 {L : Array Bool} {W : World} {f g : FV} {p q r s : Int} {b1 b2 : Nat} {s12 s13 s14 s15 s16 s17 s18 s19 s20 s21 s6 s7 : Value} {w : World} (h : MulR1 L W f g p q r s b1 b2 s12 s13 s14 s15 s16 s17 s18 s19 s20 s21 s6 s7 w) (hk : ¬ done L 9) {v : Value} (hv : IsI w v (Int.gcd r q : Nat)) : MulR1 (L.setIfInBounds 9 true) W f g p q r s b1 b2 s12 s13 s14 s15 s16 s17 s18 s19 s20 v s6 s7 w :=
  ⟨h.bel, fun d => h.p0 (done_set d (by decide)), fun d => h.p1 (done_set d (by decide)), fun d => h.p2 (done_set d (by decide)), fun d => h.c3 (done_set d (by decide)), fun d => h.c4 (done_set d (by decide)), fun d => h.p5 (done_set d (by decide)), fun d => h.p6 (done_set d (by decide)), fun d => h.p7 (done_set d (by decide)), fun d => h.c8 (done_set d (by decide)), fun _ => hv, fun d => (h.a10 (done_set d (by decide))).imp (fun x => done_set x (by decide)), fun d => (h.a11 (done_set d (by decide))).resrc (fun x => hk (h.e13 (done_set x (by decide))).2), fun d => ⟨done_up (h.e12 (done_set d (by decide))).1, done_up (h.e12 (done_set d (by decide))).2⟩, fun d => ⟨done_up (h.e13 (done_set d (by decide))).1, done_up (h.e13 (done_set d (by decide))).2⟩, fun d d2 => h.n10_11 (done_set d (by decide)) (done_set d2 (by decide))⟩
theorem MulR1.set10 {L : Array Bool} {W : World} {f g : FV} {p q r s : Int} {b1 b2 : Nat} {s12 s13 s14 s15 s16 s17 s18 s19 s20 s21 s6 s7 : Value} {w : World} (h : MulR1 L W f g p q r s b1 b2 s12 s13 s14 s15 s16 s17 s18 s19 s20 s21 s6 s7 w) (hk : ¬ done L 10) : MulR1 (L.setIfInBounds 10 true) W f g p q r s b1 b2 s12 s13 s14 s15 s16 s17 s18 s19 s20 s21 (.pointer (some ⟨w.heap.size, 0, none⟩)) s7 (w.alloc (.cells #[.bool false, .slice none 0 0] 29)) :=
  have h' := h.up (below_new w (.cells #[.bool false, .slice none 0 0] 29))
  ⟨h'.bel, fun d => h'.p0 (done_set d (by decide)), fun d => h'.p1 (done_set d (by decide)), fun d => h'.p2 (done_set d (by decide)), fun d => h'.c3 (done_set d (by decide)), fun d => h'.c4 (done_set d (by decide)), fun d => h'.p5 (done_set d (by decide)), fun d => h'.p6 (done_set d (by decide)), fun d => h'.p7 (done_set d (by decide)), fun d => h'.c8 (done_set d (by decide)), fun d => h'.c9 (done_set d (by decide)), fun _ => BoxAt.new h.bel.size (fun x => hk (h.e12 (done_set x (by decide))).1), fun d => (h'.a11 (done_set d (by decide))).imp (fun x => done_set x (by decide)), fun d => ⟨done_up (h.e12 (done_set d (by decide))).1, done_up (h.e12 (done_set d (by decide))).2⟩, fun d => ⟨done_up (h.e13 (done_set d (by decide))).1, done_up (h.e13 (done_set d (by decide))).2⟩, fun _ d2 e => (h.a11 (done_set d2 (by decide))).ne_new e.symm⟩
theorem MulR1.set11 {L : Array Bool} {W : World} {f g : FV} {p q r s : Int} {b1 b2 : Nat} {s12 s13 s14 s15 s16 s17 s18 s19 s20 s21 s6 s7 : Value} {w : World} (h : MulR1 L W f g p q r s b1 b2 s12 s13 s14 s15 s16 s17 s18 s19 s20 s21 s6 s7 w) (hk : ¬ done L 11) : MulR1 (L.setIfInBounds 11 true) W f g p q r s b1 b2 s12 s13 s14 s15 s16 s17 s18 s19 s20 s21 s6 (.pointer (some ⟨w.heap.size, 0, none⟩)) (w.alloc (.cells #[.bool false, .slice none 0 0] 29)) :=
  have h' := h.up (below_new w (.cells #[.bool false, .slice none 0 0] 29))
  ⟨h'.bel, fun d => h'.p0 (done_set d (by decide)), fun d => h'.p1 (done_set d (by decide)), fun d => h'.p2 (done_set d (by decide)), fun d => h'.c3 (done_set d (by decide)), fun d => h'.c4 (done_set d (by decide)), fun d => h'.p5 (done_set d (by decide)), fun d => h'.p6 (done_set d (by decide)), fun d => h'.p7 (done_set d (by decide)), fun d => h'.c8 (done_set d (by decide)), fun d => h'.c9 (done_set d (by decide)), fun d => (h'.a10 (done_set d (by decide))).imp (fun x => done_set x (by decide)), fun _ => BoxAt.new h.bel.size (fun x => hk (h.e13 (done_set x (by decide))).1), fun d => ⟨done_up (h.e12 (done_set d (by decide))).1, done_up (h.e12 (done_set d (by decide))).2⟩, fun d => ⟨done_up (h.e13 (done_set d (by decide))).1, done_up (h.e13 (done_set d (by decide))).2⟩, fun d _ => (h.a10 (done_set d (by decide))).ne_new⟩
theorem MulR1.set12 {L : Array Bool} {W : World} {f g : FV} {p q r s : Int} {b1 b2 : Nat} {s12 s13 s14 s15 s16 s17 s18 s19 s20 s21 s6 s7 : Value} {w : World} (h : MulR1 L W f g p q r s b1 b2 s12 s13 s14 s15 s16 s17 s18 s19 s20 s21 s6 s7 w) (da : done L 10) (ds : done L 4) {x : IV} {gb : Nat} {c0 c1 : Value} (es : s6 = .pointer (some ⟨gb, 0, none⟩)) (ex : s16 = .agg #[.bool x.neg, .slice x.A x.n x.c]) (hgb : W.heap.size ≤ gb) (hO : Own w gb 29 [c0, c1]) (h0 : ∀ n, c0 ≠ .int .u32 n) (h1 : ∀ n, c1 ≠ .int .u32 n) :
    MulR1 (L.setIfInBounds 12 true) W f g p q r s b1 b2 s12 s13 s14 s15 s16 s17 s18 s19 s20 s21 s6 s7 ((w.setCell ⟨gb, 0, none⟩ (.bool x.neg)).setCell ⟨gb, 1, none⟩ (.slice x.A x.n x.c)) :=
  ⟨Below.put2 h.bel hgb _ _, fun d => h.p0 (done_set d (by decide)), fun d => h.p1 (done_set d (by decide)), fun d => h.p2 (done_set d (by decide)), fun d => (h.c3 (done_set d (by decide))).put2 hO h0 h1 _ _, fun d => (h.c4 (done_set d (by decide))).put2 hO h0 h1 _ _, fun d => h.p5 (done_set d (by decide)), fun d => h.p6 (done_set d (by decide)), fun d => h.p7 (done_set d (by decide)), fun d => (h.c8 (done_set d (by decide))).put2 hO h0 h1 _ _, fun d => (h.c9 (done_set d (by decide))).put2 hO h0 h1 _ _, fun _ => ⟨gb, _, _, es, hgb, hO.put2 _ _, by simp, by simp, fun _ => ex⟩, fun d => ((h.a11 (done_set d (by decide))).far es ((fun e => h.n10_11 da (done_set d (by decide)) e.symm)) _ _).imp (fun x => done_set x (by decide)), fun _ => ⟨done_up da, done_up ds⟩, fun d => ⟨done_up (h.e13 (done_set d (by decide))).1, done_up (h.e13 (done_set d (by decide))).2⟩, fun d d2 => h.n10_11 (done_set d (by decide)) (done_set d2 (by decide))⟩
theorem MulR1.set13 {L : Array Bool} {W : World} {f g : FV} {p q r s : Int} {b1 b2 : Nat} {s12 s13 s14 s15 s16 s17 s18 s19 s20 s21 s6 s7 : Value} {w : World} (h : MulR1 L W f g p q r s b1 b2 s12 s13 s14 s15 s16 s17 s18 s19 s20 s21 s6 s7 w) (da : done L 11) (ds : done L 9) {x : IV} {gb : Nat} {c0 c1 : Value} (es : s7 = .pointer (some ⟨gb, 0, none⟩)) (ex : s21 = .agg #[.bool x.neg, .slice x.A x.n x.c]) (hgb : W.heap.size ≤ gb) (hO : Own w gb 29 [c0, c1]) (h0 : ∀ n, c0 ≠ .int .u32 n) (h1 : ∀ n, c1 ≠ .int .u32 n) :
    MulR1 (L.setIfInBounds 13 true) W f g p q r s b1 b2 s12 s13 s14 s15 s16 s17 s18 s19 s20 s21 s6 s7 ((w.setCell ⟨gb, 0, none⟩ (.bool x.neg)).setCell ⟨gb, 1, none⟩ (.slice x.A x.n x.c)) :=
  ⟨Below.put2 h.bel hgb _ _, fun d => h.p0 (done_set d (by decide)), fun d => h.p1 (done_set d (by decide)), fun d => h.p2 (done_set d (by decide)), fun d => (h.c3 (done_set d (by decide))).put2 hO h0 h1 _ _, fun d => (h.c4 (done_set d (by decide))).put2 hO h0 h1 _ _, fun d => h.p5 (done_set d (by decide)), fun d => h.p6 (done_set d (by decide)), fun d => h.p7 (done_set d (by decide)), fun d => (h.c8 (done_set d (by decide))).put2 hO h0 h1 _ _, fun d => (h.c9 (done_set d (by decide))).put2 hO h0 h1 _ _, fun d => ((h.a10 (done_set d (by decide))).far es (h.n10_11 (done_set d (by decide)) da) _ _).imp (fun x => done_set x (by decide)), fun _ => ⟨gb, _, _, es, hgb, hO.put2 _ _, by simp, by simp, fun _ => ex⟩, fun d => ⟨done_up (h.e12 (done_set d (by decide))).1, done_up (h.e12 (done_set d (by decide))).2⟩, fun _ => ⟨done_up da, done_up ds⟩, fun d d2 => h.n10_11 (done_set d (by decide)) (done_set d2 (by decide))⟩
theorem MulR1.start {W : World} {f g : FV} {p q r s : Int} {b1 b2 : Nat} {s12 s13 s14 s15 s16 s17 s18 s19 s20 s21 s6 s7 : Value} : MulR1 (Array.replicate 14 false) W f g p q r s b1 b2 s12 s13 s14 s15 s16 s17 s18 s19 s20 s21 s6 s7 W.drew :=
  ⟨Below.drew (Below.refl _ _), fun d => absurd d (done_none _ _), fun d => absurd d (done_none _ _), fun d => absurd d (done_none _ _), fun d => absurd d (done_none _ _), fun d => absurd d (done_none _ _), fun d => absurd d (done_none _ _), fun d => absurd d (done_none _ _), fun d => absurd d (done_none _ _), fun d => absurd d (done_none _ _), fun d => absurd d (done_none _ _), fun d => absurd d (done_none _ _), fun d => absurd d (done_none _ _), fun d => absurd d (done_none _ _), fun d => absurd d (done_none _ _), fun d => absurd d (done_none _ _)⟩
/-- The same of a frame. -/
def MulR1J (W : World) (f g : FV) (p q r s : Int) (b1 b2 : Nat) (b3 : Nat) (L : Array Bool) (ac : Act) (wx : World) : Prop := ∃ s12 s13 s14 s15 s16 s17 s18 s19 s20 s21 s6 s7 : Value, ac = { tmps := #[.agg #[.bool f.p.neg, .slice f.p.A f.p.n f.p.c, .bool f.l.neg, .slice f.l.A f.l.n f.l.c], .agg #[.bool g.p.neg, .slice g.p.A g.p.n g.p.c, .bool g.l.neg, .slice g.l.A g.l.n g.l.c], .pointer (some ⟨b1, 0, none⟩), .pointer (some ⟨b2, 0, none⟩), .pointer (some ⟨b3, 0, none⟩), .int .i64 0, s6, s7, undef, undef, undef, undef, s12, s13, s14, s15, s16, s17, s18, s19, s20, s21, undef, undef, undef, undef, undef, undef, undef, undef, undef, undef, undef, undef, undef, undef, undef, undef, undef, undef, undef, undef, undef, undef, undef, undef, undef, undef, undef, undef, undef, undef, undef, undef, undef], defers := [] } ∧ L.size = 14 ∧ MulR1 L W f g p q r s b1 b2 s12 s13 s14 s15 s16 s17 s18 s19 s20 s21 s6 s7 wx
/-! ### What a slice of two Ints stands for; an Int and an error -/
theorem Own.newP (w : World) (t : TypeId) (x y : IV) : Own (w.alloc (.cells #[.bool x.neg, .slice x.A x.n x.c, .bool y.neg, .slice y.A y.n y.c] t)) w.heap.size t [.bool x.neg, .slice x.A x.n x.c, .bool y.neg, .slice y.A y.n y.c] := Own.new w t [.bool x.neg, .slice x.A x.n x.c, .bool y.neg, .slice y.A y.n y.c]
def IsSl (w : World) (v : Value) (a b : Int) : Prop := ∃ g x y, v = .slice (some ⟨g, 0, none⟩) 2 2 ∧ Own w g 29 [.bool x.neg, .slice x.A x.n x.c, .bool y.neg, .slice y.A y.n y.c] ∧ IV.is x w a ∧ IV.is y w b
theorem IsSl.on {w w' : World} {v : Value} {a b : Int} (h : IsSl w v a b) (hb : Below w.heap.size w w') : IsSl w' v a b := by
  obtain ⟨g, x, y, e, ho, hx, hy⟩ := h
  exact ⟨g, x, y, e, ho.on hb, hx.on hb, hy.on hb⟩
theorem Own.ne_len {w : World} {g g' : Nat} {t t' : TypeId} {xs ys : List Value} (h : Own w g t xs) (h' : Own w g' t' ys) (hl : xs.length ≠ ys.length) : g ≠ g' := by
  rintro rfl
  unfold Own at h h'
  rw [h] at h'
  simp only [Option.some.injEq, Obj.cells.injEq] at h'
  have := congrArg Array.size h'.1
  simp at this
  exact hl this
theorem IsSl.put2 {w : World} {v : Value} {p q : Int} (h : IsSl w v p q) {g : Nat} {t : TypeId} {a b : Value} (hO : Own w g t [a, b]) (ha : ∀ n, a ≠ .int .u32 n) (hb : ∀ n, b ≠ .int .u32 n) (u r : Value) : IsSl ((w.setCell ⟨g, 0, none⟩ u).setCell ⟨g, 1, none⟩ r) v p q := by
  obtain ⟨g', x, y, e, ho, hx, hy⟩ := h
  exact ⟨g', x, y, e, ho.put2far (ho.ne_len hO (by simp)) _ _, hx.put2 hO ha hb u r, hy.put2 hO ha hb u r⟩
def IsTE (w : World) (v : Value) (z err : Int) : Prop := ∃ x, v = .tuple #[.agg #[.bool x.neg, .slice x.A x.n x.c], .int .i64 err] ∧ IV.is x w z
theorem IsTE.on {w w' : World} {v : Value} {z err : Int} (h : IsTE w v z err) (hb : Below w.heap.size w w') : IsTE w' v z err := by
  obtain ⟨x, e, hx⟩ := h
  exact ⟨x, e, hx.on hb⟩
theorem IsTE.put2 {w : World} {v : Value} {z err : Int} (h : IsTE w v z err) {g : Nat} {t : TypeId} {a b : Value} (hO : Own w g t [a, b]) (ha : ∀ n, a ≠ .int .u32 n) (hb : ∀ n, b ≠ .int .u32 n) (u r : Value) : IsTE ((w.setCell ⟨g, 0, none⟩ u).setCell ⟨g, 1, none⟩ r) v z err := by
  obtain ⟨x, e, hx⟩ := h
  exact ⟨x, e, hx.put2 hO ha hb u r⟩
/-- A Frac for p over q, or 0 and an error if it is not in range. -/
def inR (p q : Int) : Prop := p.natAbs < top ∧ q.natAbs < top
instance (p q : Int) : Decidable (inR p q) := inferInstanceAs (Decidable (_ ∧ _))
def FracL (w : World) (p q : Int) (e : Ending) (w' : World) : Prop := (inR p q ∧ FracE w p q 0 e w') ∨ (¬ inR p q ∧ FracE w 0 1 4 e w')
theorem lim_zero {z : Int} : (lim z != 0) = decide (¬ z.natAbs < top) := by
  by_cases h : z.natAbs < top
  · rw [lim_in h]; simp [h]
  · rw [lim_out h]; simp [h]
/-- A full box. -/
def IsBox (W w : World) (v : Value) (z : Int) : Prop := ∃ g x, v = .pointer (some ⟨g, 0, none⟩) ∧ W.heap.size ≤ g ∧ Own w g 29 [.bool x.neg, .slice x.A x.n x.c] ∧ IV.is x w z
theorem IsBox.of {W w : World} {v src : Value} {z : Int} {dn : Prop} (h : BoxAt W w 29 v dn src) (hd : dn) (hs : IsI w src z) : IsBox W w v z := by
  obtain ⟨x, e, hx⟩ := hs
  subst e
  obtain ⟨g, h1, h2, h3⟩ := box_full (h.imp (fun _ => hd))
  exact ⟨g, x, h1, h2, h3, hx⟩

/-- What holds when the operations L of the region have come up. -/
structure MulR2 (L : Array Bool) (W : World) (f g : FV) (A B : IV) (za zb : Int) (b1 b2 : Nat) (s23 s24 s25 s26 s27 s28 s29 s30 s31 s32 s22 s33 s34 s8 s9 : Value) (w : World) : Prop where
  bel : Below W.heap.size W w
  p0 : done L 0 → s23 = .pointer (some ⟨b1, 0, none⟩)
  p1 : done L 1 → s24 = .agg #[.bool f.p.neg, .slice f.p.A f.p.n f.p.c]
  p2 : done L 2 → s25 = .agg #[.bool A.neg, .slice A.A A.n A.c]
  c3 : done L 3 → IsI w s26 za
  p4 : done L 4 → s27 = .pointer (some ⟨b2, 0, none⟩)
  p5 : done L 5 → s28 = .agg #[.bool g.p.neg, .slice g.p.A g.p.n g.p.c]
  p6 : done L 6 → s29 = .agg #[.bool B.neg, .slice B.A B.n B.c]
  c7 : done L 7 → IsI w s30 zb
  c8 : done L 8 → IsSl w s31 (za) (zb)
  c9 : done L 9 → IsTE w s32 (clip (za * zb)) (lim (za * zb))
  c10 : done L 10 → IsTE w s22 (clip (za * zb)) (lim (za * zb))
  c11 : done L 11 → IsI w s33 (clip (za * zb))
  p12 : done L 12 → s34 = .int .i64 (lim (za * zb))
  a13 : done L 13 → BoxAt W w 29 s8 (done L 14) s33
  e14 : done L 14 → done L 13 ∧ done L 11
  p15 : done L 15 → s9 = .int .i64 (lim (za * zb))
theorem MulR2.up {L : Array Bool} {W : World} {f g : FV} {A B : IV} {za zb : Int} {b1 b2 : Nat} {s23 s24 s25 s26 s27 s28 s29 s30 s31 s32 s22 s33 s34 s8 s9 : Value} {w : World} (h : MulR2 L W f g A B za zb b1 b2 s23 s24 s25 s26 s27 s28 s29 s30 s31 s32 s22 s33 s34 s8 s9 w) {w' : World} (hb : Below w.heap.size w w') : MulR2 L W f g A B za zb b1 b2 s23 s24 s25 s26 s27 s28 s29 s30 s31 s32 s22 s33 s34 s8 s9 w' :=
  ⟨Below.call h.bel hb, h.p0, h.p1, h.p2, fun d => (h.c3 d).on hb, h.p4, h.p5, h.p6, fun d => (h.c7 d).on hb, fun d => (h.c8 d).on hb, fun d => (h.c9 d).on hb, fun d => (h.c10 d).on hb, fun d => (h.c11 d).on hb, h.p12, fun d => (h.a13 d).on hb, h.e14, h.p15⟩
theorem MulR2.set0 {L : Array Bool} {W : World} {f g : FV} {A B : IV} {za zb : Int} {b1 b2 : Nat} {s23 s24 s25 s26 s27 s28 s29 s30 s31 s32 s22 s33 s34 s8 s9 : Value} {w : World} (h : MulR2 L W f g A B za zb b1 b2 s23 s24 s25 s26 s27 s28 s29 s30 s31 s32 s22 s33 s34 s8 s9 w) (_hk : ¬ done L 0) {v : Value} (hv : v = .pointer (some ⟨b1, 0, none⟩)) : MulR2 (L.setIfInBounds 0 true) W f g A B za zb b1 b2 v s24 s25 s26 s27 s28 s29 s30 s31 s32 s22 s33 s34 s8 s9 w :=
  ⟨h.bel, fun _ => hv, fun d => h.p1 (done_set d (by decide)), fun d => h.p2 (done_set d (by decide)), fun d => h.c3 (done_set d (by decide)), fun d => h.p4 (done_set d (by decide)), fun d => h.p5 (done_set d (by decide)), fun d => h.p6 (done_set d (by decide)), fun d => h.c7 (done_set d (by decide)), fun d => h.c8 (done_set d (by decide)), fun d => h.c9 (done_set d (by decide)), fun d => h.c10 (done_set d (by decide)), fun d => h.c11 (done_set d (by decide)), fun d => h.p12 (done_set d (by decide)), fun d => (h.a13 (done_set d (by decide))).imp (fun x => done_set x (by decide)), fun d => ⟨done_up (h.e14 (done_set d (by decide))).1, done_up (h.e14 (done_set d (by decide))).2⟩, fun d => h.p15 (done_set d (by decide))⟩
theorem MulR2.set1 {L : Array Bool} {W : World} {f g : FV} {A B : IV} {za zb : Int} {b1 b2 : Nat} {s23 s24 s25 s26 s27 s28 s29 s30 s31 s32 s22 s33 s34 s8 s9 : Value} {w : World} (h : MulR2 L W f g A B za zb b1 b2 s23 s24 s25 s26 s27 s28 s29 s30 s31 s32 s22 s33 s34 s8 s9 w) (_hk : ¬ done L 1) {v : Value} (hv : v = .agg #[.bool f.p.neg, .slice f.p.A f.p.n f.p.c]) : MulR2 (L.setIfInBounds 1 true) W f g A B za zb b1 b2 s23 v s25 s26 s27 s28 s29 s30 s31 s32 s22 s33 s34 s8 s9 w :=
  ⟨h.bel, fun d => h.p0 (done_set d (by decide)), fun _ => hv, fun d => h.p2 (done_set d (by decide)), fun d => h.c3 (done_set d (by decide)), fun d => h.p4 (done_set d (by decide)), fun d => h.p5 (done_set d (by decide)), fun d => h.p6 (done_set d (by decide)), fun d => h.c7 (done_set d (by decide)), fun d => h.c8 (done_set d (by decide)), fun d => h.c9 (done_set d (by decide)), fun d => h.c10 (done_set d (by decide)), fun d => h.c11 (done_set d (by decide)), fun d => h.p12 (done_set d (by decide)), fun d => (h.a13 (done_set d (by decide))).imp (fun x => done_set x (by decide)), fun d => ⟨done_up (h.e14 (done_set d (by decide))).1, done_up (h.e14 (done_set d (by decide))).2⟩, fun d => h.p15 (done_set d (by decide))⟩
theorem MulR2.set2 {L : Array Bool} {W : World} {f g : FV} {A B : IV} {za zb : Int} {b1 b2 : Nat} {s23 s24 s25 s26 s27 s28 s29 s30 s31 s32 s22 s33 s34 s8 s9 : Value} {w : World} (h : MulR2 L W f g A B za zb b1 b2 s23 s24 s25 s26 s27 s28 s29 s30 s31 s32 s22 s33 s34 s8 s9 w) (_hk : ¬ done L 2) {v : Value} (hv : v = .agg #[.bool A.neg, .slice A.A A.n A.c]) : MulR2 (L.setIfInBounds 2 true) W f g A B za zb b1 b2 s23 s24 v s26 s27 s28 s29 s30 s31 s32 s22 s33 s34 s8 s9 w :=
  ⟨h.bel, fun d => h.p0 (done_set d (by decide)), fun d => h.p1 (done_set d (by decide)), fun _ => hv, fun d => h.c3 (done_set d (by decide)), fun d => h.p4 (done_set d (by decide)), fun d => h.p5 (done_set d (by decide)), fun d => h.p6 (done_set d (by decide)), fun d => h.c7 (done_set d (by decide)), fun d => h.c8 (done_set d (by decide)), fun d => h.c9 (done_set d (by decide)), fun d => h.c10 (done_set d (by decide)), fun d => h.c11 (done_set d (by decide)), fun d => h.p12 (done_set d (by decide)), fun d => (h.a13 (done_set d (by decide))).imp (fun x => done_set x (by decide)), fun d => ⟨done_up (h.e14 (done_set d (by decide))).1, done_up (h.e14 (done_set d (by decide))).2⟩, fun d => h.p15 (done_set d (by decide))⟩
theorem MulR2.set3 {L : Array Bool} {W : World} {f g : FV} {A B : IV} {za zb : Int} {b1 b2 : Nat} {s23 s24 s25 s26 s27 s28 s29 s30 s31 s32 s22 s33 s34 s8 s9 : Value} {w : World} (h : MulR2 L W f g A B za zb b1 b2 s23 s24 s25 s26 s27 s28 s29 s30 s31 s32 s22 s33 s34 s8 s9 w) (_hk : ¬ done L 3) {v : Value} (hv : IsI w v za) : MulR2 (L.setIfInBounds 3 true) W f g A B za zb b1 b2 s23 s24 s25 v s27 s28 s29 s30 s31 s32 s22 s33 s34 s8 s9 w :=
  ⟨h.bel, fun d => h.p0 (done_set d (by decide)), fun d => h.p1 (done_set d (by decide)), fun d => h.p2 (done_set d (by decide)), fun _ => hv, fun d => h.p4 (done_set d (by decide)), fun d => h.p5 (done_set d (by decide)), fun d => h.p6 (done_set d (by decide)), fun d => h.c7 (done_set d (by decide)), fun d => h.c8 (done_set d (by decide)), fun d => h.c9 (done_set d (by decide)), fun d => h.c10 (done_set d (by decide)), fun d => h.c11 (done_set d (by decide)), fun d => h.p12 (done_set d (by decide)), fun d => (h.a13 (done_set d (by decide))).imp (fun x => done_set x (by decide)), fun d => ⟨done_up (h.e14 (done_set d (by decide))).1, done_up (h.e14 (done_set d (by decide))).2⟩, fun d => h.p15 (done_set d (by decide))⟩
theorem MulR2.set4 {L : Array Bool} {W : World} {f g : FV} {A B : IV} {za zb : Int} {b1 b2 : Nat} {s23 s24 s25 s26 s27 s28 s29 s30 s31 s32 s22 s33 s34 s8 s9 : Value} {w : World} (h : MulR2 L W f g A B za zb b1 b2 s23 s24 s25 s26 s27 s28 s29 s30 s31 s32 s22 s33 s34 s8 s9 w) (_hk : ¬ done L 4) {v : Value} (hv : v = .pointer (some ⟨b2, 0, none⟩)) : MulR2 (L.setIfInBounds 4 true) W f g A B za zb b1 b2 s23 s24 s25 s26 v s28 s29 s30 s31 s32 s22 s33 s34 s8 s9 w :=
  ⟨h.bel, fun d => h.p0 (done_set d (by decide)), fun d => h.p1 (done_set d (by decide)), fun d => h.p2 (done_set d (by decide)), fun d => h.c3 (done_set d (by decide)), fun _ => hv, fun d => h.p5 (done_set d (by decide)), fun d => h.p6 (done_set d (by decide)), fun d => h.c7 (done_set d (by decide)), fun d => h.c8 (done_set d (by decide)), fun d => h.c9 (done_set d (by decide)), fun d => h.c10 (done_set d (by decide)), fun d => h.c11 (done_set d (by decide)), fun d => h.p12 (done_set d (by decide)), fun d => (h.a13 (done_set d (by decide))).imp (fun x => done_set x (by decide)), fun d => ⟨done_up (h.e14 (done_set d (by decide))).1, done_up (h.e14 (done_set d (by decide))).2⟩, fun d => h.p15 (done_set d (by decide))⟩
theorem MulR2.set5 {L : Array Bool} {W : World} {f g : FV} {A B : IV} {za zb : Int} {b1 b2 : Nat} {s23 s24 s25 s26 s27 s28 s29 s30 s31 s32 s22 s33 s34 s8 s9 : Value} {w : World} (h : MulR2 L W f g A B za zb b1 b2 s23 s24 s25 s26 s27 s28 s29 s30 s31 s32 s22 s33 s34 s8 s9 w) (_hk : ¬ done L 5) {v : Value} (hv : v = .agg #[.bool g.p.neg, .slice g.p.A g.p.n g.p.c]) : MulR2 (L.setIfInBounds 5 true) W f g A B za zb b1 b2 s23 s24 s25 s26 s27 v s29 s30 s31 s32 s22 s33 s34 s8 s9 w :=
  ⟨h.bel, fun d => h.p0 (done_set d (by decide)), fun d => h.p1 (done_set d (by decide)), fun d => h.p2 (done_set d (by decide)), fun d => h.c3 (done_set d (by decide)), fun d => h.p4 (done_set d (by decide)), fun _ => hv, fun d => h.p6 (done_set d (by decide)), fun d => h.c7 (done_set d (by decide)), fun d => h.c8 (done_set d (by decide)), fun d => h.c9 (done_set d (by decide)), fun d => h.c10 (done_set d (by decide)), fun d => h.c11 (done_set d (by decide)), fun d => h.p12 (done_set d (by decide)), fun d => (h.a13 (done_set d (by decide))).imp (fun x => done_set x (by decide)), fun d => ⟨done_up (h.e14 (done_set d (by decide))).1, done_up (h.e14 (done_set d (by decide))).2⟩, fun d => h.p15 (done_set d (by decide))⟩
theorem MulR2.set6 {L : Array Bool} {W : World} {f g : FV} {A B : IV} {za zb : Int} {b1 b2 : Nat} {s23 s24 s25 s26 s27 s28 s29 s30 s31 s32 s22 s33 s34 s8 s9 : Value} {w : World} (h : MulR2 L W f g A B za zb b1 b2 s23 s24 s25 s26 s27 s28 s29 s30 s31 s32 s22 s33 s34 s8 s9 w) (_hk : ¬ done L 6) {v : Value} (hv : v = .agg #[.bool B.neg, .slice B.A B.n B.c]) : MulR2 (L.setIfInBounds 6 true) W f g A B za zb b1 b2 s23 s24 s25 s26 s27 s28 v s30 s31 s32 s22 s33 s34 s8 s9 w :=
  ⟨h.bel, fun d => h.p0 (done_set d (by decide)), fun d => h.p1 (done_set d (by decide)), fun d => h.p2 (done_set d (by decide)), fun d => h.c3 (done_set d (by decide)), fun d => h.p4 (done_set d (by decide)), fun d => h.p5 (done_set d (by decide)), fun _ => hv, fun d => h.c7 (done_set d (by decide)), fun d => h.c8 (done_set d (by decide)), fun d => h.c9 (done_set d (by decide)), fun d => h.c10 (done_set d (by decide)), fun d => h.c11 (done_set d (by decide)), fun d => h.p12 (done_set d (by decide)), fun d => (h.a13 (done_set d (by decide))).imp (fun x => done_set x (by decide)), fun d => ⟨done_up (h.e14 (done_set d (by decide))).1, done_up (h.e14 (done_set d (by decide))).2⟩, fun d => h.p15 (done_set d (by decide))⟩
theorem MulR2.set7 {L : Array Bool} {W : World} {f g : FV} {A B : IV} {za zb : Int} {b1 b2 : Nat} {s23 s24 s25 s26 s27 s28 s29 s30 s31 s32 s22 s33 s34 s8 s9 : Value} {w : World} (h : MulR2 L W f g A B za zb b1 b2 s23 s24 s25 s26 s27 s28 s29 s30 s31 s32 s22 s33 s34 s8 s9 w) (_hk : ¬ done L 7) {v : Value} (hv : IsI w v zb) : MulR2 (L.setIfInBounds 7 true) W f g A B za zb b1 b2 s23 s24 s25 s26 s27 s28 s29 v s31 s32 s22 s33 s34 s8 s9 w :=
  ⟨h.bel, fun d => h.p0 (done_set d (by decide)), fun d => h.p1 (done_set d (by decide)), fun d => h.p2 (done_set d (by decide)), fun d => h.c3 (done_set d (by decide)), fun d => h.p4 (done_set d (by decide)), fun d => h.p5 (done_set d (by decide)), fun d => h.p6 (done_set d (by decide)), fun _ => hv, fun d => h.c8 (done_set d (by decide)), fun d => h.c9 (done_set d (by decide)), fun d => h.c10 (done_set d (by decide)), fun d => h.c11 (done_set d (by decide)), fun d => h.p12 (done_set d (by decide)), fun d => (h.a13 (done_set d (by decide))).imp (fun x => done_set x (by decide)), fun d => ⟨done_up (h.e14 (done_set d (by decide))).1, done_up (h.e14 (done_set d (by decide))).2⟩, fun d => h.p15 (done_set d (by decide))⟩
theorem MulR2.set8 {L : Array Bool} {W : World} {f g : FV} {A B : IV} {za zb : Int} {b1 b2 : Nat} {s23 s24 s25 s26 s27 s28 s29 s30 s31 s32 s22 s33 s34 s8 s9 : Value} {w : World} (h : MulR2 L W f g A B za zb b1 b2 s23 s24 s25 s26 s27 s28 s29 s30 s31 s32 s22 s33 s34 s8 s9 w) (_hk : ¬ done L 8) {v : Value} (hv : IsSl w v (za) (zb)) : MulR2 (L.setIfInBounds 8 true) W f g A B za zb b1 b2 s23 s24 s25 s26 s27 s28 s29 s30 v s32 s22 s33 s34 s8 s9 w :=
  ⟨h.bel, fun d => h.p0 (done_set d (by decide)), fun d => h.p1 (done_set d (by decide)), fun d => h.p2 (done_set d (by decide)), fun d => h.c3 (done_set d (by decide)), fun d => h.p4 (done_set d (by decide)), fun d => h.p5 (done_set d (by decide)), fun d => h.p6 (done_set d (by decide)), fun d => h.c7 (done_set d (by decide)), fun _ => hv, fun d => h.c9 (done_set d (by decide)), fun d => h.c10 (done_set d (by decide)), fun d => h.c11 (done_set d (by decide)), fun d => h.p12 (done_set d (by decide)), fun d => (h.a13 (done_set d (by decide))).imp (fun x => done_set x (by decide)), fun d => ⟨done_up (h.e14 (done_set d (by decide))).1, done_up (h.e14 (done_set d (by decide))).2⟩, fun d => h.p15 (done_set d (by decide))⟩
theorem MulR2.set9 {L : Array Bool} {W : World} {f g : FV} {A B : IV} {za zb : Int} {b1 b2 : Nat} {s23 s24 s25 s26 s27 s28 s29 s30 s31 s32 s22 s33 s34 s8 s9 : Value} {w : World} (h : MulR2 L W f g A B za zb b1 b2 s23 s24 s25 s26 s27 s28 s29 s30 s31 s32 s22 s33 s34 s8 s9 w) (_hk : ¬ done L 9) {v : Value} (hv : IsTE w v (clip (za * zb)) (lim (za * zb))) : MulR2 (L.setIfInBounds 9 true) W f g A B za zb b1 b2 s23 s24 s25 s26 s27 s28 s29 s30 s31 v s22 s33 s34 s8 s9 w :=
  ⟨h.bel, fun d => h.p0 (done_set d (by decide)), fun d => h.p1 (done_set d (by decide)), fun d => h.p2 (done_set d (by decide)), fun d => h.c3 (done_set d (by decide)), fun d => h.p4 (done_set d (by decide)), fun d => h.p5 (done_set d (by decide)), fun d => h.p6 (done_set d (by decide)), fun d => h.c7 (done_set d (by decide)), fun d => h.c8 (done_set d (by decide)), fun _ => hv, fun d => h.c10 (done_set d (by decide)), fun d => h.c11 (done_set d (by decide)), fun d => h.p12 (done_set d (by decide)), fun d => (h.a13 (done_set d (by decide))).imp (fun x => done_set x (by decide)), fun d => ⟨done_up (h.e14 (done_set d (by decide))).1, done_up (h.e14 (done_set d (by decide))).2⟩, fun d => h.p15 (done_set d (by decide))⟩
theorem MulR2.set10 {L : Array Bool} {W : World} {f g : FV} {A B : IV} {za zb : Int} {b1 b2 : Nat} {s23 s24 s25 s26 s27 s28 s29 s30 s31 s32 s22 s33 s34 s8 s9 : Value} {w : World} (h : MulR2 L W f g A B za zb b1 b2 s23 s24 s25 s26 s27 s28 s29 s30 s31 s32 s22 s33 s34 s8 s9 w) (_hk : ¬ done L 10) {v : Value} (hv : IsTE w v (clip (za * zb)) (lim (za * zb))) : MulR2 (L.setIfInBounds 10 true) W f g A B za zb b1 b2 s23 s24 s25 s26 s27 s28 s29 s30 s31 s32 v s33 s34 s8 s9 w :=
  ⟨h.bel, fun d => h.p0 (done_set d (by decide)), fun d => h.p1 (done_set d (by decide)), fun d => h.p2 (done_set d (by decide)), fun d => h.c3 (done_set d (by decide)), fun d => h.p4 (done_set d (by decide)), fun d => h.p5 (done_set d (by decide)), fun d => h.p6 (done_set d (by decide)), fun d => h.c7 (done_set d (by decide)), fun d => h.c8 (done_set d (by decide)), fun d => h.c9 (done_set d (by decide)), fun _ => hv, fun d => h.c11 (done_set d (by decide)), fun d => h.p12 (done_set d (by decide)), fun d => (h.a13 (done_set d (by decide))).imp (fun x => done_set x (by decide)), fun d => ⟨done_up (h.e14 (done_set d (by decide))).1, done_up (h.e14 (done_set d (by decide))).2⟩, fun d => h.p15 (done_set d (by decide))⟩
theorem MulR2.set11 {L : Array Bool} {W : World} {f g : FV} {A B : IV} {za zb : Int} {b1 b2 : Nat} {s23 s24 s25 s26 s27 s28 s29 s30 s31 s32 s22 s33 s34 s8 s9 : Value} {w : World} (h : MulR2 L W f g A B za zb b1 b2 s23 s24 s25 s26 s27 s28 s29 s30 s31 s32 s22 s33 s34 s8 s9 w) (hk : ¬ done L 11) {v : Value} (hv : IsI w v (clip (za * zb))) : MulR2 (L.setIfInBounds 11 true) W f g A B za zb b1 b2 s23 s24 s25 s26 s27 s28 s29 s30 s31 s32 s22 v s34 s8 s9 w :=
  ⟨h.bel, fun d => h.p0 (done_set d (by decide)), fun d => h.p1 (done_set d (by decide)), fun d => h.p2 (done_set d (by decide)), fun d => h.c3 (done_set d (by decide)), fun d => h.p4 (done_set d (by decide)), fun d => h.p5 (done_set d (by decide)), fun d => h.p6 (done_set d (by decide)), fun d => h.c7 (done_set d (by decide)), fun d => h.c8 (done_set d (by decide)), fun d => h.c9 (done_set d (by decide)), fun d => h.c10 (done_set d (by decide)), fun _ => hv, fun d => h.p12 (done_set d (by decide)), fun d => (h.a13 (done_set d (by decide))).resrc (fun x => hk (h.e14 (done_set x (by decide))).2), fun d => ⟨done_up (h.e14 (done_set d (by decide))).1, done_up (h.e14 (done_set d (by decide))).2⟩, fun d => h.p15 (done_set d (by decide))⟩
theorem MulR2.set12 {L : Array Bool} {W : World} {f g : FV} {A B : IV} {za zb : Int} {b1 b2 : Nat} {s23 s24 s25 s26 s27 s28 s29 s30 s31 s32 s22 s33 s34 s8 s9 : Value} {w : World} (h : MulR2 L W f g A B za zb b1 b2 s23 s24 s25 s26 s27 s28 s29 s30 s31 s32 s22 s33 s34 s8 s9 w) (_hk : ¬ done L 12) {v : Value} (hv : v = .int .i64 (lim (za * zb))) : MulR2 (L.setIfInBounds 12 true) W f g A B za zb b1 b2 s23 s24 s25 s26 s27 s28 s29 s30 s31 s32 s22 s33 v s8 s9 w :=
  ⟨h.bel, fun d => h.p0 (done_set d (by decide)), fun d => h.p1 (done_set d (by decide)), fun d => h.p2 (done_set d (by decide)), fun d => h.c3 (done_set d (by decide)), fun d => h.p4 (done_set d (by decide)), fun d => h.p5 (done_set d (by decide)), fun d => h.p6 (done_set d (by decide)), fun d => h.c7 (done_set d (by decide)), fun d => h.c8 (done_set d (by decide)), fun d => h.c9 (done_set d (by decide)), fun d => h.c10 (done_set d (by decide)), fun d => h.c11 (done_set d (by decide)), fun _ => hv, fun d => (h.a13 (done_set d (by decide))).imp (fun x => done_set x (by decide)), fun d => ⟨done_up (h.e14 (done_set d (by decide))).1, done_up (h.e14 (done_set d (by decide))).2⟩, fun d => h.p15 (done_set d (by decide))⟩
theorem MulR2.set13 {L : Array Bool} {W : World} {f g : FV} {A B : IV} {za zb : Int} {b1 b2 : Nat} {s23 s24 s25 s26 s27 s28 s29 s30 s31 s32 s22 s33 s34 s8 s9 : Value} {w : World} (h : MulR2 L W f g A B za zb b1 b2 s23 s24 s25 s26 s27 s28 s29 s30 s31 s32 s22 s33 s34 s8 s9 w) (hk : ¬ done L 13) : MulR2 (L.setIfInBounds 13 true) W f g A B za zb b1 b2 s23 s24 s25 s26 s27 s28 s29 s30 s31 s32 s22 s33 s34 (.pointer (some ⟨w.heap.size, 0, none⟩)) s9 (w.alloc (.cells #[.bool false, .slice none 0 0] 29)) :=
  have h' := h.up (below_new w (.cells #[.bool false, .slice none 0 0] 29))
  ⟨h'.bel, fun d => h'.p0 (done_set d (by decide)), fun d => h'.p1 (done_set d (by decide)), fun d => h'.p2 (done_set d (by decide)), fun d => h'.c3 (done_set d (by decide)), fun d => h'.p4 (done_set d (by decide)), fun d => h'.p5 (done_set d (by decide)), fun d => h'.p6 (done_set d (by decide)), fun d => h'.c7 (done_set d (by decide)), fun d => h'.c8 (done_set d (by decide)), fun d => h'.c9 (done_set d (by decide)), fun d => h'.c10 (done_set d (by decide)), fun d => h'.c11 (done_set d (by decide)), fun d => h'.p12 (done_set d (by decide)), fun _ => BoxAt.new h.bel.size (fun x => hk (h.e14 (done_set x (by decide))).1), fun d => ⟨done_up (h.e14 (done_set d (by decide))).1, done_up (h.e14 (done_set d (by decide))).2⟩, fun d => h'.p15 (done_set d (by decide))⟩
theorem MulR2.set14 {L : Array Bool} {W : World} {f g : FV} {A B : IV} {za zb : Int} {b1 b2 : Nat} {s23 s24 s25 s26 s27 s28 s29 s30 s31 s32 s22 s33 s34 s8 s9 : Value} {w : World} (h : MulR2 L W f g A B za zb b1 b2 s23 s24 s25 s26 s27 s28 s29 s30 s31 s32 s22 s33 s34 s8 s9 w) (da : done L 13) (ds : done L 11) {x : IV} {gb : Nat} {c0 c1 : Value} (es : s8 = .pointer (some ⟨gb, 0, none⟩)) (ex : s33 = .agg #[.bool x.neg, .slice x.A x.n x.c]) (hgb : W.heap.size ≤ gb) (hO : Own w gb 29 [c0, c1]) (h0 : ∀ n, c0 ≠ .int .u32 n) (h1 : ∀ n, c1 ≠ .int .u32 n) :
    MulR2 (L.setIfInBounds 14 true) W f g A B za zb b1 b2 s23 s24 s25 s26 s27 s28 s29 s30 s31 s32 s22 s33 s34 s8 s9 ((w.setCell ⟨gb, 0, none⟩ (.bool x.neg)).setCell ⟨gb, 1, none⟩ (.slice x.A x.n x.c)) :=
  ⟨Below.put2 h.bel hgb _ _, fun d => h.p0 (done_set d (by decide)), fun d => h.p1 (done_set d (by decide)), fun d => h.p2 (done_set d (by decide)), fun d => (h.c3 (done_set d (by decide))).put2 hO h0 h1 _ _, fun d => h.p4 (done_set d (by decide)), fun d => h.p5 (done_set d (by decide)), fun d => h.p6 (done_set d (by decide)), fun d => (h.c7 (done_set d (by decide))).put2 hO h0 h1 _ _, fun d => (h.c8 (done_set d (by decide))).put2 hO h0 h1 _ _, fun d => (h.c9 (done_set d (by decide))).put2 hO h0 h1 _ _, fun d => (h.c10 (done_set d (by decide))).put2 hO h0 h1 _ _, fun d => (h.c11 (done_set d (by decide))).put2 hO h0 h1 _ _, fun d => h.p12 (done_set d (by decide)), fun _ => ⟨gb, _, _, es, hgb, hO.put2 _ _, by simp, by simp, fun _ => ex⟩, fun _ => ⟨done_up da, done_up ds⟩, fun d => h.p15 (done_set d (by decide))⟩
theorem MulR2.set15 {L : Array Bool} {W : World} {f g : FV} {A B : IV} {za zb : Int} {b1 b2 : Nat} {s23 s24 s25 s26 s27 s28 s29 s30 s31 s32 s22 s33 s34 s8 s9 : Value} {w : World} (h : MulR2 L W f g A B za zb b1 b2 s23 s24 s25 s26 s27 s28 s29 s30 s31 s32 s22 s33 s34 s8 s9 w) (_hk : ¬ done L 15) {v : Value} (hv : v = .int .i64 (lim (za * zb))) : MulR2 (L.setIfInBounds 15 true) W f g A B za zb b1 b2 s23 s24 s25 s26 s27 s28 s29 s30 s31 s32 s22 s33 s34 s8 v w :=
  ⟨h.bel, fun d => h.p0 (done_set d (by decide)), fun d => h.p1 (done_set d (by decide)), fun d => h.p2 (done_set d (by decide)), fun d => h.c3 (done_set d (by decide)), fun d => h.p4 (done_set d (by decide)), fun d => h.p5 (done_set d (by decide)), fun d => h.p6 (done_set d (by decide)), fun d => h.c7 (done_set d (by decide)), fun d => h.c8 (done_set d (by decide)), fun d => h.c9 (done_set d (by decide)), fun d => h.c10 (done_set d (by decide)), fun d => h.c11 (done_set d (by decide)), fun d => h.p12 (done_set d (by decide)), fun d => (h.a13 (done_set d (by decide))).imp (fun x => done_set x (by decide)), fun d => ⟨done_up (h.e14 (done_set d (by decide))).1, done_up (h.e14 (done_set d (by decide))).2⟩, fun _ => hv⟩
theorem MulR2.start {W : World} {f g : FV} {A B : IV} {za zb : Int} {b1 b2 : Nat} {s23 s24 s25 s26 s27 s28 s29 s30 s31 s32 s22 s33 s34 s8 s9 : Value} : MulR2 (Array.replicate 16 false) W f g A B za zb b1 b2 s23 s24 s25 s26 s27 s28 s29 s30 s31 s32 s22 s33 s34 s8 s9 W.drew :=
  ⟨Below.drew (Below.refl _ _), fun d => absurd d (done_none _ _), fun d => absurd d (done_none _ _), fun d => absurd d (done_none _ _), fun d => absurd d (done_none _ _), fun d => absurd d (done_none _ _), fun d => absurd d (done_none _ _), fun d => absurd d (done_none _ _), fun d => absurd d (done_none _ _), fun d => absurd d (done_none _ _), fun d => absurd d (done_none _ _), fun d => absurd d (done_none _ _), fun d => absurd d (done_none _ _), fun d => absurd d (done_none _ _), fun d => absurd d (done_none _ _), fun d => absurd d (done_none _ _), fun d => absurd d (done_none _ _)⟩
/-- The same of a frame. -/
def MulR2J (W : World) (f g : FV) (A B : IV) (za zb : Int) (b1 b2 : Nat) (b3 g6 g7 : Nat) (u12 u13 u14 u15 u16 u17 u18 u19 u20 u21 u35 u36 u37 u38 u39 u40 u41 u42 u43 u44 u45 u46 u47 u48 u49 u50 u51 u52 u53 u54 : Value) (L : Array Bool) (ac : Act) (wx : World) : Prop := ∃ s23 s24 s25 s26 s27 s28 s29 s30 s31 s32 s22 s33 s34 s8 s9 : Value, ac = { tmps := #[.agg #[.bool f.p.neg, .slice f.p.A f.p.n f.p.c, .bool f.l.neg, .slice f.l.A f.l.n f.l.c], .agg #[.bool g.p.neg, .slice g.p.A g.p.n g.p.c, .bool g.l.neg, .slice g.l.A g.l.n g.l.c], .pointer (some ⟨b1, 0, none⟩), .pointer (some ⟨b2, 0, none⟩), .pointer (some ⟨b3, 0, none⟩), .int .i64 0, .pointer (some ⟨g6, 0, none⟩), .pointer (some ⟨g7, 0, none⟩), s8, s9, undef, undef, u12, u13, u14, u15, u16, u17, u18, u19, u20, u21, s22, s23, s24, s25, s26, s27, s28, s29, s30, s31, s32, s33, s34, u35, u36, u37, u38, u39, u40, u41, u42, u43, u44, u45, u46, u47, u48, u49, u50, u51, u52, u53, u54], defers := [] } ∧ L.size = 16 ∧ MulR2 L W f g A B za zb b1 b2 s23 s24 s25 s26 s27 s28 s29 s30 s31 s32 s22 s33 s34 s8 s9 wx
/-- What holds when the operations L of the region have come up. -/
structure MulR3 (L : Array Bool) (W : World) (f g : FV) (A B : IV) (q s za zb : Int) (s36 s37 s38 s39 s40 s41 s42 s43 s44 s45 s35 s46 s47 s10 s11 : Value) (w : World) : Prop where
  bel : Below W.heap.size W w
  p0 : done L 0 → s36 = .agg #[.bool f.p.neg, .slice f.p.A f.p.n f.p.c, .bool f.l.neg, .slice f.l.A f.l.n f.l.c]
  c1 : done L 1 → IsI w s37 q
  p2 : done L 2 → s38 = .agg #[.bool B.neg, .slice B.A B.n B.c]
  c3 : done L 3 → IsI w s39 za
  p4 : done L 4 → s40 = .agg #[.bool g.p.neg, .slice g.p.A g.p.n g.p.c, .bool g.l.neg, .slice g.l.A g.l.n g.l.c]
  c5 : done L 5 → IsI w s41 s
  p6 : done L 6 → s42 = .agg #[.bool A.neg, .slice A.A A.n A.c]
  c7 : done L 7 → IsI w s43 zb
  c8 : done L 8 → IsSl w s44 (za) (zb)
  c9 : done L 9 → IsTE w s45 (clip (za * zb)) (lim (za * zb))
  c10 : done L 10 → IsTE w s35 (clip (za * zb)) (lim (za * zb))
  c11 : done L 11 → IsI w s46 (clip (za * zb))
  p12 : done L 12 → s47 = .int .i64 (lim (za * zb))
  a13 : done L 13 → BoxAt W w 29 s10 (done L 14) s46
  e14 : done L 14 → done L 13 ∧ done L 11
  p15 : done L 15 → s11 = .int .i64 (lim (za * zb))
theorem MulR3.up {L : Array Bool} {W : World} {f g : FV} {A B : IV} {q s za zb : Int} {s36 s37 s38 s39 s40 s41 s42 s43 s44 s45 s35 s46 s47 s10 s11 : Value} {w : World} (h : MulR3 L W f g A B q s za zb s36 s37 s38 s39 s40 s41 s42 s43 s44 s45 s35 s46 s47 s10 s11 w) {w' : World} (hb : Below w.heap.size w w') : MulR3 L W f g A B q s za zb s36 s37 s38 s39 s40 s41 s42 s43 s44 s45 s35 s46 s47 s10 s11 w' :=
  ⟨Below.call h.bel hb, h.p0, fun d => (h.c1 d).on hb, h.p2, fun d => (h.c3 d).on hb, h.p4, fun d => (h.c5 d).on hb, h.p6, fun d => (h.c7 d).on hb, fun d => (h.c8 d).on hb, fun d => (h.c9 d).on hb, fun d => (h.c10 d).on hb, fun d => (h.c11 d).on hb, h.p12, fun d => (h.a13 d).on hb, h.e14, h.p15⟩
theorem MulR3.set0 {L : Array Bool} {W : World} {f g : FV} {A B : IV} {q s za zb : Int} {s36 s37 s38 s39 s40 s41 s42 s43 s44 s45 s35 s46 s47 s10 s11 : Value} {w : World} (h : MulR3 L W f g A B q s za zb s36 s37 s38 s39 s40 s41 s42 s43 s44 s45 s35 s46 s47 s10 s11 w) (_hk : ¬ done L 0) {v : Value} (hv : v = .agg #[.bool f.p.neg, .slice f.p.A f.p.n f.p.c, .bool f.l.neg, .slice f.l.A f.l.n f.l.c]) : MulR3 (L.setIfInBounds 0 true) W f g A B q s za zb v s37 s38 s39 s40 s41 s42 s43 s44 s45 s35 s46 s47 s10 s11 w :=
  ⟨h.bel, fun _ => hv, fun d => h.c1 (done_set d (by decide)), fun d => h.p2 (done_set d (by decide)), fun d => h.c3 (done_set d (by decide)), fun d => h.p4 (done_set d (by decide)), fun d => h.c5 (done_set d (by decide)), fun d => h.p6 (done_set d (by decide)), fun d => h.c7 (done_set d (by decide)), fun d => h.c8 (done_set d (by decide)), fun d => h.c9 (done_set d (by decide)), fun d => h.c10 (done_set d (by decide)), fun d => h.c11 (done_set d (by decide)), fun d => h.p12 (done_set d (by decide)), fun d => (h.a13 (done_set d (by decide))).imp (fun x => done_set x (by decide)), fun d => ⟨done_up (h.e14 (done_set d (by decide))).1, done_up (h.e14 (done_set d (by decide))).2⟩, fun d => h.p15 (done_set d (by decide))⟩
theorem MulR3.set1 {L : Array Bool} {W : World} {f g : FV} {A B : IV} {q s za zb : Int} {s36 s37 s38 s39 s40 s41 s42 s43 s44 s45 s35 s46 s47 s10 s11 : Value} {w : World} (h : MulR3 L W f g A B q s za zb s36 s37 s38 s39 s40 s41 s42 s43 s44 s45 s35 s46 s47 s10 s11 w) (_hk : ¬ done L 1) {v : Value} (hv : IsI w v q) : MulR3 (L.setIfInBounds 1 true) W f g A B q s za zb s36 v s38 s39 s40 s41 s42 s43 s44 s45 s35 s46 s47 s10 s11 w :=
  ⟨h.bel, fun d => h.p0 (done_set d (by decide)), fun _ => hv, fun d => h.p2 (done_set d (by decide)), fun d => h.c3 (done_set d (by decide)), fun d => h.p4 (done_set d (by decide)), fun d => h.c5 (done_set d (by decide)), fun d => h.p6 (done_set d (by decide)), fun d => h.c7 (done_set d (by decide)), fun d => h.c8 (done_set d (by decide)), fun d => h.c9 (done_set d (by decide)), fun d => h.c10 (done_set d (by decide)), fun d => h.c11 (done_set d (by decide)), fun d => h.p12 (done_set d (by decide)), fun d => (h.a13 (done_set d (by decide))).imp (fun x => done_set x (by decide)), fun d => ⟨done_up (h.e14 (done_set d (by decide))).1, done_up (h.e14 (done_set d (by decide))).2⟩, fun d => h.p15 (done_set d (by decide))⟩
theorem MulR3.set2 {L : Array Bool} {W : World} {f g : FV} {A B : IV} {q s za zb : Int} {s36 s37 s38 s39 s40 s41 s42 s43 s44 s45 s35 s46 s47 s10 s11 : Value} {w : World} (h : MulR3 L W f g A B q s za zb s36 s37 s38 s39 s40 s41 s42 s43 s44 s45 s35 s46 s47 s10 s11 w) (_hk : ¬ done L 2) {v : Value} (hv : v = .agg #[.bool B.neg, .slice B.A B.n B.c]) : MulR3 (L.setIfInBounds 2 true) W f g A B q s za zb s36 s37 v s39 s40 s41 s42 s43 s44 s45 s35 s46 s47 s10 s11 w :=
  ⟨h.bel, fun d => h.p0 (done_set d (by decide)), fun d => h.c1 (done_set d (by decide)), fun _ => hv, fun d => h.c3 (done_set d (by decide)), fun d => h.p4 (done_set d (by decide)), fun d => h.c5 (done_set d (by decide)), fun d => h.p6 (done_set d (by decide)), fun d => h.c7 (done_set d (by decide)), fun d => h.c8 (done_set d (by decide)), fun d => h.c9 (done_set d (by decide)), fun d => h.c10 (done_set d (by decide)), fun d => h.c11 (done_set d (by decide)), fun d => h.p12 (done_set d (by decide)), fun d => (h.a13 (done_set d (by decide))).imp (fun x => done_set x (by decide)), fun d => ⟨done_up (h.e14 (done_set d (by decide))).1, done_up (h.e14 (done_set d (by decide))).2⟩, fun d => h.p15 (done_set d (by decide))⟩
theorem MulR3.set3 {L : Array Bool} {W : World} {f g : FV} {A B : IV} {q s za zb : Int} {s36 s37 s38 s39 s40 s41 s42 s43 s44 s45 s35 s46 s47 s10 s11 : Value} {w : World} (h : MulR3 L W f g A B q s za zb s36 s37 s38 s39 s40 s41 s42 s43 s44 s45 s35 s46 s47 s10 s11 w) (_hk : ¬ done L 3) {v : Value} (hv : IsI w v za) : MulR3 (L.setIfInBounds 3 true) W f g A B q s za zb s36 s37 s38 v s40 s41 s42 s43 s44 s45 s35 s46 s47 s10 s11 w :=
  ⟨h.bel, fun d => h.p0 (done_set d (by decide)), fun d => h.c1 (done_set d (by decide)), fun d => h.p2 (done_set d (by decide)), fun _ => hv, fun d => h.p4 (done_set d (by decide)), fun d => h.c5 (done_set d (by decide)), fun d => h.p6 (done_set d (by decide)), fun d => h.c7 (done_set d (by decide)), fun d => h.c8 (done_set d (by decide)), fun d => h.c9 (done_set d (by decide)), fun d => h.c10 (done_set d (by decide)), fun d => h.c11 (done_set d (by decide)), fun d => h.p12 (done_set d (by decide)), fun d => (h.a13 (done_set d (by decide))).imp (fun x => done_set x (by decide)), fun d => ⟨done_up (h.e14 (done_set d (by decide))).1, done_up (h.e14 (done_set d (by decide))).2⟩, fun d => h.p15 (done_set d (by decide))⟩
theorem MulR3.set4 {L : Array Bool} {W : World} {f g : FV} {A B : IV} {q s za zb : Int} {s36 s37 s38 s39 s40 s41 s42 s43 s44 s45 s35 s46 s47 s10 s11 : Value} {w : World} (h : MulR3 L W f g A B q s za zb s36 s37 s38 s39 s40 s41 s42 s43 s44 s45 s35 s46 s47 s10 s11 w) (_hk : ¬ done L 4) {v : Value} (hv : v = .agg #[.bool g.p.neg, .slice g.p.A g.p.n g.p.c, .bool g.l.neg, .slice g.l.A g.l.n g.l.c]) : MulR3 (L.setIfInBounds 4 true) W f g A B q s za zb s36 s37 s38 s39 v s41 s42 s43 s44 s45 s35 s46 s47 s10 s11 w :=
  ⟨h.bel, fun d => h.p0 (done_set d (by decide)), fun d => h.c1 (done_set d (by decide)), fun d => h.p2 (done_set d (by decide)), fun d => h.c3 (done_set d (by decide)), fun _ => hv, fun d => h.c5 (done_set d (by decide)), fun d => h.p6 (done_set d (by decide)), fun d => h.c7 (done_set d (by decide)), fun d => h.c8 (done_set d (by decide)), fun d => h.c9 (done_set d (by decide)), fun d => h.c10 (done_set d (by decide)), fun d => h.c11 (done_set d (by decide)), fun d => h.p12 (done_set d (by decide)), fun d => (h.a13 (done_set d (by decide))).imp (fun x => done_set x (by decide)), fun d => ⟨done_up (h.e14 (done_set d (by decide))).1, done_up (h.e14 (done_set d (by decide))).2⟩, fun d => h.p15 (done_set d (by decide))⟩
theorem MulR3.set5 {L : Array Bool} {W : World} {f g : FV} {A B : IV} {q s za zb : Int} {s36 s37 s38 s39 s40 s41 s42 s43 s44 s45 s35 s46 s47 s10 s11 : Value} {w : World} (h : MulR3 L W f g A B q s za zb s36 s37 s38 s39 s40 s41 s42 s43 s44 s45 s35 s46 s47 s10 s11 w) (_hk : ¬ done L 5) {v : Value} (hv : IsI w v s) : MulR3 (L.setIfInBounds 5 true) W f g A B q s za zb s36 s37 s38 s39 s40 v s42 s43 s44 s45 s35 s46 s47 s10 s11 w :=
  ⟨h.bel, fun d => h.p0 (done_set d (by decide)), fun d => h.c1 (done_set d (by decide)), fun d => h.p2 (done_set d (by decide)), fun d => h.c3 (done_set d (by decide)), fun d => h.p4 (done_set d (by decide)), fun _ => hv, fun d => h.p6 (done_set d (by decide)), fun d => h.c7 (done_set d (by decide)), fun d => h.c8 (done_set d (by decide)), fun d => h.c9 (done_set d (by decide)), fun d => h.c10 (done_set d (by decide)), fun d => h.c11 (done_set d (by decide)), fun d => h.p12 (done_set d (by decide)), fun d => (h.a13 (done_set d (by decide))).imp (fun x => done_set x (by decide)), fun d => ⟨done_up (h.e14 (done_set d (by decide))).1, done_up (h.e14 (done_set d (by decide))).2⟩, fun d => h.p15 (done_set d (by decide))⟩
theorem MulR3.set6 {L : Array Bool} {W : World} {f g : FV} {A B : IV} {q s za zb : Int} {s36 s37 s38 s39 s40 s41 s42 s43 s44 s45 s35 s46 s47 s10 s11 : Value} {w : World} (h : MulR3 L W f g A B q s za zb s36 s37 s38 s39 s40 s41 s42 s43 s44 s45 s35 s46 s47 s10 s11 w) (_hk : ¬ done L 6) {v : Value} (hv : v = .agg #[.bool A.neg, .slice A.A A.n A.c]) : MulR3 (L.setIfInBounds 6 true) W f g A B q s za zb s36 s37 s38 s39 s40 s41 v s43 s44 s45 s35 s46 s47 s10 s11 w :=
  ⟨h.bel, fun d => h.p0 (done_set d (by decide)), fun d => h.c1 (done_set d (by decide)), fun d => h.p2 (done_set d (by decide)), fun d => h.c3 (done_set d (by decide)), fun d => h.p4 (done_set d (by decide)), fun d => h.c5 (done_set d (by decide)), fun _ => hv, fun d => h.c7 (done_set d (by decide)), fun d => h.c8 (done_set d (by decide)), fun d => h.c9 (done_set d (by decide)), fun d => h.c10 (done_set d (by decide)), fun d => h.c11 (done_set d (by decide)), fun d => h.p12 (done_set d (by decide)), fun d => (h.a13 (done_set d (by decide))).imp (fun x => done_set x (by decide)), fun d => ⟨done_up (h.e14 (done_set d (by decide))).1, done_up (h.e14 (done_set d (by decide))).2⟩, fun d => h.p15 (done_set d (by decide))⟩
theorem MulR3.set7 {L : Array Bool} {W : World} {f g : FV} {A B : IV} {q s za zb : Int} {s36 s37 s38 s39 s40 s41 s42 s43 s44 s45 s35 s46 s47 s10 s11 : Value} {w : World} (h : MulR3 L W f g A B q s za zb s36 s37 s38 s39 s40 s41 s42 s43 s44 s45 s35 s46 s47 s10 s11 w) (_hk : ¬ done L 7) {v : Value} (hv : IsI w v zb) : MulR3 (L.setIfInBounds 7 true) W f g A B q s za zb s36 s37 s38 s39 s40 s41 s42 v s44 s45 s35 s46 s47 s10 s11 w :=
  ⟨h.bel, fun d => h.p0 (done_set d (by decide)), fun d => h.c1 (done_set d (by decide)), fun d => h.p2 (done_set d (by decide)), fun d => h.c3 (done_set d (by decide)), fun d => h.p4 (done_set d (by decide)), fun d => h.c5 (done_set d (by decide)), fun d => h.p6 (done_set d (by decide)), fun _ => hv, fun d => h.c8 (done_set d (by decide)), fun d => h.c9 (done_set d (by decide)), fun d => h.c10 (done_set d (by decide)), fun d => h.c11 (done_set d (by decide)), fun d => h.p12 (done_set d (by decide)), fun d => (h.a13 (done_set d (by decide))).imp (fun x => done_set x (by decide)), fun d => ⟨done_up (h.e14 (done_set d (by decide))).1, done_up (h.e14 (done_set d (by decide))).2⟩, fun d => h.p15 (done_set d (by decide))⟩
theorem MulR3.set8 {L : Array Bool} {W : World} {f g : FV} {A B : IV} {q s za zb : Int} {s36 s37 s38 s39 s40 s41 s42 s43 s44 s45 s35 s46 s47 s10 s11 : Value} {w : World} (h : MulR3 L W f g A B q s za zb s36 s37 s38 s39 s40 s41 s42 s43 s44 s45 s35 s46 s47 s10 s11 w) (_hk : ¬ done L 8) {v : Value} (hv : IsSl w v (za) (zb)) : MulR3 (L.setIfInBounds 8 true) W f g A B q s za zb s36 s37 s38 s39 s40 s41 s42 s43 v s45 s35 s46 s47 s10 s11 w :=
  ⟨h.bel, fun d => h.p0 (done_set d (by decide)), fun d => h.c1 (done_set d (by decide)), fun d => h.p2 (done_set d (by decide)), fun d => h.c3 (done_set d (by decide)), fun d => h.p4 (done_set d (by decide)), fun d => h.c5 (done_set d (by decide)), fun d => h.p6 (done_set d (by decide)), fun d => h.c7 (done_set d (by decide)), fun _ => hv, fun d => h.c9 (done_set d (by decide)), fun d => h.c10 (done_set d (by decide)), fun d => h.c11 (done_set d (by decide)), fun d => h.p12 (done_set d (by decide)), fun d => (h.a13 (done_set d (by decide))).imp (fun x => done_set x (by decide)), fun d => ⟨done_up (h.e14 (done_set d (by decide))).1, done_up (h.e14 (done_set d (by decide))).2⟩, fun d => h.p15 (done_set d (by decide))⟩
theorem MulR3.set9 {L : Array Bool} {W : World} {f g : FV} {A B : IV} {q s za zb : Int} {s36 s37 s38 s39 s40 s41 s42 s43 s44 s45 s35 s46 s47 s10 s11 : Value} {w : World} (h : MulR3 L W f g A B q s za zb s36 s37 s38 s39 s40 s41 s42 s43 s44 s45 s35 s46 s47 s10 s11 w) (_hk : ¬ done L 9) {v : Value} (hv : IsTE w v (clip (za * zb)) (lim (za * zb))) : MulR3 (L.setIfInBounds 9 true) W f g A B q s za zb s36 s37 s38 s39 s40 s41 s42 s43 s44 v s35 s46 s47 s10 s11 w :=
  ⟨h.bel, fun d => h.p0 (done_set d (by decide)), fun d => h.c1 (done_set d (by decide)), fun d => h.p2 (done_set d (by decide)), fun d => h.c3 (done_set d (by decide)), fun d => h.p4 (done_set d (by decide)), fun d => h.c5 (done_set d (by decide)), fun d => h.p6 (done_set d (by decide)), fun d => h.c7 (done_set d (by decide)), fun d => h.c8 (done_set d (by decide)), fun _ => hv, fun d => h.c10 (done_set d (by decide)), fun d => h.c11 (done_set d (by decide)), fun d => h.p12 (done_set d (by decide)), fun d => (h.a13 (done_set d (by decide))).imp (fun x => done_set x (by decide)), fun d => ⟨done_up (h.e14 (done_set d (by decide))).1, done_up (h.e14 (done_set d (by decide))).2⟩, fun d => h.p15 (done_set d (by decide))⟩
theorem MulR3.set10 {L : Array Bool} {W : World} {f g : FV} {A B : IV} {q s za zb : Int} {s36 s37 s38 s39 s40 s41 s42 s43 s44 s45 s35 s46 s47 s10 s11 : Value} {w : World} (h : MulR3 L W f g A B q s za zb s36 s37 s38 s39 s40 s41 s42 s43 s44 s45 s35 s46 s47 s10 s11 w) (_hk : ¬ done L 10) {v : Value} (hv : IsTE w v (clip (za * zb)) (lim (za * zb))) : MulR3 (L.setIfInBounds 10 true) W f g A B q s za zb s36 s37 s38 s39 s40 s41 s42 s43 s44 s45 v s46 s47 s10 s11 w :=
  ⟨h.bel, fun d => h.p0 (done_set d (by decide)), fun d => h.c1 (done_set d (by decide)), fun d => h.p2 (done_set d (by decide)), fun d => h.c3 (done_set d (by decide)), fun d => h.p4 (done_set d (by decide)), fun d => h.c5 (done_set d (by decide)), fun d => h.p6 (done_set d (by decide)), fun d => h.c7 (done_set d (by decide)), fun d => h.c8 (done_set d (by decide)), fun d => h.c9 (done_set d (by decide)), fun _ => hv, fun d => h.c11 (done_set d (by decide)), fun d => h.p12 (done_set d (by decide)), fun d => (h.a13 (done_set d (by decide))).imp (fun x => done_set x (by decide)), fun d => ⟨done_up (h.e14 (done_set d (by decide))).1, done_up (h.e14 (done_set d (by decide))).2⟩, fun d => h.p15 (done_set d (by decide))⟩
theorem MulR3.set11 {L : Array Bool} {W : World} {f g : FV} {A B : IV} {q s za zb : Int} {s36 s37 s38 s39 s40 s41 s42 s43 s44 s45 s35 s46 s47 s10 s11 : Value} {w : World} (h : MulR3 L W f g A B q s za zb s36 s37 s38 s39 s40 s41 s42 s43 s44 s45 s35 s46 s47 s10 s11 w) (hk : ¬ done L 11) {v : Value} (hv : IsI w v (clip (za * zb))) : MulR3 (L.setIfInBounds 11 true) W f g A B q s za zb s36 s37 s38 s39 s40 s41 s42 s43 s44 s45 s35 v s47 s10 s11 w :=
  ⟨h.bel, fun d => h.p0 (done_set d (by decide)), fun d => h.c1 (done_set d (by decide)), fun d => h.p2 (done_set d (by decide)), fun d => h.c3 (done_set d (by decide)), fun d => h.p4 (done_set d (by decide)), fun d => h.c5 (done_set d (by decide)), fun d => h.p6 (done_set d (by decide)), fun d => h.c7 (done_set d (by decide)), fun d => h.c8 (done_set d (by decide)), fun d => h.c9 (done_set d (by decide)), fun d => h.c10 (done_set d (by decide)), fun _ => hv, fun d => h.p12 (done_set d (by decide)), fun d => (h.a13 (done_set d (by decide))).resrc (fun x => hk (h.e14 (done_set x (by decide))).2), fun d => ⟨done_up (h.e14 (done_set d (by decide))).1, done_up (h.e14 (done_set d (by decide))).2⟩, fun d => h.p15 (done_set d (by decide))⟩
theorem MulR3.set12 {L : Array Bool} {W : World} {f g : FV} {A B : IV} {q s za zb : Int} {s36 s37 s38 s39 s40 s41 s42 s43 s44 s45 s35 s46 s47 s10 s11 : Value} {w : World} (h : MulR3 L W f g A B q s za zb s36 s37 s38 s39 s40 s41 s42 s43 s44 s45 s35 s46 s47 s10 s11 w) (_hk : ¬ done L 12) {v : Value} (hv : v = .int .i64 (lim (za * zb))) : MulR3 (L.setIfInBounds 12 true) W f g A B q s za zb s36 s37 s38 s39 s40 s41 s42 s43 s44 s45 s35 s46 v s10 s11 w :=
  ⟨h.bel, fun d => h.p0 (done_set d (by decide)), fun d => h.c1 (done_set d (by decide)), fun d => h.p2 (done_set d (by decide)), fun d => h.c3 (done_set d (by decide)), fun d => h.p4 (done_set d (by decide)), fun d => h.c5 (done_set d (by decide)), fun d => h.p6 (done_set d (by decide)), fun d => h.c7 (done_set d (by decide)), fun d => h.c8 (done_set d (by decide)), fun d => h.c9 (done_set d (by decide)), fun d => h.c10 (done_set d (by decide)), fun d => h.c11 (done_set d (by decide)), fun _ => hv, fun d => (h.a13 (done_set d (by decide))).imp (fun x => done_set x (by decide)), fun d => ⟨done_up (h.e14 (done_set d (by decide))).1, done_up (h.e14 (done_set d (by decide))).2⟩, fun d => h.p15 (done_set d (by decide))⟩
theorem MulR3.set13 {L : Array Bool} {W : World} {f g : FV} {A B : IV} {q s za zb : Int} {s36 s37 s38 s39 s40 s41 s42 s43 s44 s45 s35 s46 s47 s10 s11 : Value} {w : World} (h : MulR3 L W f g A B q s za zb s36 s37 s38 s39 s40 s41 s42 s43 s44 s45 s35 s46 s47 s10 s11 w) (hk : ¬ done L 13) : MulR3 (L.setIfInBounds 13 true) W f g A B q s za zb s36 s37 s38 s39 s40 s41 s42 s43 s44 s45 s35 s46 s47 (.pointer (some ⟨w.heap.size, 0, none⟩)) s11 (w.alloc (.cells #[.bool false, .slice none 0 0] 29)) :=
  have h' := h.up (below_new w (.cells #[.bool false, .slice none 0 0] 29))
  ⟨h'.bel, fun d => h'.p0 (done_set d (by decide)), fun d => h'.c1 (done_set d (by decide)), fun d => h'.p2 (done_set d (by decide)), fun d => h'.c3 (done_set d (by decide)), fun d => h'.p4 (done_set d (by decide)), fun d => h'.c5 (done_set d (by decide)), fun d => h'.p6 (done_set d (by decide)), fun d => h'.c7 (done_set d (by decide)), fun d => h'.c8 (done_set d (by decide)), fun d => h'.c9 (done_set d (by decide)), fun d => h'.c10 (done_set d (by decide)), fun d => h'.c11 (done_set d (by decide)), fun d => h'.p12 (done_set d (by decide)), fun _ => BoxAt.new h.bel.size (fun x => hk (h.e14 (done_set x (by decide))).1), fun d => ⟨done_up (h.e14 (done_set d (by decide))).1, done_up (h.e14 (done_set d (by decide))).2⟩, fun d => h'.p15 (done_set d (by decide))⟩
theorem MulR3.set14 {L : Array Bool} {W : World} {f g : FV} {A B : IV} {q s za zb : Int} {s36 s37 s38 s39 s40 s41 s42 s43 s44 s45 s35 s46 s47 s10 s11 : Value} {w : World} (h : MulR3 L W f g A B q s za zb s36 s37 s38 s39 s40 s41 s42 s43 s44 s45 s35 s46 s47 s10 s11 w) (da : done L 13) (ds : done L 11) {x : IV} {gb : Nat} {c0 c1 : Value} (es : s10 = .pointer (some ⟨gb, 0, none⟩)) (ex : s46 = .agg #[.bool x.neg, .slice x.A x.n x.c]) (hgb : W.heap.size ≤ gb) (hO : Own w gb 29 [c0, c1]) (h0 : ∀ n, c0 ≠ .int .u32 n) (h1 : ∀ n, c1 ≠ .int .u32 n) :
    MulR3 (L.setIfInBounds 14 true) W f g A B q s za zb s36 s37 s38 s39 s40 s41 s42 s43 s44 s45 s35 s46 s47 s10 s11 ((w.setCell ⟨gb, 0, none⟩ (.bool x.neg)).setCell ⟨gb, 1, none⟩ (.slice x.A x.n x.c)) :=
  ⟨Below.put2 h.bel hgb _ _, fun d => h.p0 (done_set d (by decide)), fun d => (h.c1 (done_set d (by decide))).put2 hO h0 h1 _ _, fun d => h.p2 (done_set d (by decide)), fun d => (h.c3 (done_set d (by decide))).put2 hO h0 h1 _ _, fun d => h.p4 (done_set d (by decide)), fun d => (h.c5 (done_set d (by decide))).put2 hO h0 h1 _ _, fun d => h.p6 (done_set d (by decide)), fun d => (h.c7 (done_set d (by decide))).put2 hO h0 h1 _ _, fun d => (h.c8 (done_set d (by decide))).put2 hO h0 h1 _ _, fun d => (h.c9 (done_set d (by decide))).put2 hO h0 h1 _ _, fun d => (h.c10 (done_set d (by decide))).put2 hO h0 h1 _ _, fun d => (h.c11 (done_set d (by decide))).put2 hO h0 h1 _ _, fun d => h.p12 (done_set d (by decide)), fun _ => ⟨gb, _, _, es, hgb, hO.put2 _ _, by simp, by simp, fun _ => ex⟩, fun _ => ⟨done_up da, done_up ds⟩, fun d => h.p15 (done_set d (by decide))⟩
theorem MulR3.set15 {L : Array Bool} {W : World} {f g : FV} {A B : IV} {q s za zb : Int} {s36 s37 s38 s39 s40 s41 s42 s43 s44 s45 s35 s46 s47 s10 s11 : Value} {w : World} (h : MulR3 L W f g A B q s za zb s36 s37 s38 s39 s40 s41 s42 s43 s44 s45 s35 s46 s47 s10 s11 w) (_hk : ¬ done L 15) {v : Value} (hv : v = .int .i64 (lim (za * zb))) : MulR3 (L.setIfInBounds 15 true) W f g A B q s za zb s36 s37 s38 s39 s40 s41 s42 s43 s44 s45 s35 s46 s47 s10 v w :=
  ⟨h.bel, fun d => h.p0 (done_set d (by decide)), fun d => h.c1 (done_set d (by decide)), fun d => h.p2 (done_set d (by decide)), fun d => h.c3 (done_set d (by decide)), fun d => h.p4 (done_set d (by decide)), fun d => h.c5 (done_set d (by decide)), fun d => h.p6 (done_set d (by decide)), fun d => h.c7 (done_set d (by decide)), fun d => h.c8 (done_set d (by decide)), fun d => h.c9 (done_set d (by decide)), fun d => h.c10 (done_set d (by decide)), fun d => h.c11 (done_set d (by decide)), fun d => h.p12 (done_set d (by decide)), fun d => (h.a13 (done_set d (by decide))).imp (fun x => done_set x (by decide)), fun d => ⟨done_up (h.e14 (done_set d (by decide))).1, done_up (h.e14 (done_set d (by decide))).2⟩, fun _ => hv⟩
theorem MulR3.start {W : World} {f g : FV} {A B : IV} {q s za zb : Int} {s36 s37 s38 s39 s40 s41 s42 s43 s44 s45 s35 s46 s47 s10 s11 : Value} : MulR3 (Array.replicate 16 false) W f g A B q s za zb s36 s37 s38 s39 s40 s41 s42 s43 s44 s45 s35 s46 s47 s10 s11 W.drew :=
  ⟨Below.drew (Below.refl _ _), fun d => absurd d (done_none _ _), fun d => absurd d (done_none _ _), fun d => absurd d (done_none _ _), fun d => absurd d (done_none _ _), fun d => absurd d (done_none _ _), fun d => absurd d (done_none _ _), fun d => absurd d (done_none _ _), fun d => absurd d (done_none _ _), fun d => absurd d (done_none _ _), fun d => absurd d (done_none _ _), fun d => absurd d (done_none _ _), fun d => absurd d (done_none _ _), fun d => absurd d (done_none _ _), fun d => absurd d (done_none _ _), fun d => absurd d (done_none _ _), fun d => absurd d (done_none _ _)⟩
/-- The same of a frame. -/
def MulR3J (W : World) (f g : FV) (A B : IV) (q s za zb : Int) (b1 b2 b3 g6 g7 g8 : Nat) (e9 : Int) (u12 u13 u14 u15 u16 u17 u18 u19 u20 u21 u22 u23 u24 u25 u26 u27 u28 u29 u30 u31 u32 u33 u34 u48 u49 u50 u51 u52 u53 u54 : Value) (L : Array Bool) (ac : Act) (wx : World) : Prop := ∃ s36 s37 s38 s39 s40 s41 s42 s43 s44 s45 s35 s46 s47 s10 s11 : Value, ac = { tmps := #[.agg #[.bool f.p.neg, .slice f.p.A f.p.n f.p.c, .bool f.l.neg, .slice f.l.A f.l.n f.l.c], .agg #[.bool g.p.neg, .slice g.p.A g.p.n g.p.c, .bool g.l.neg, .slice g.l.A g.l.n g.l.c], .pointer (some ⟨b1, 0, none⟩), .pointer (some ⟨b2, 0, none⟩), .pointer (some ⟨b3, 0, none⟩), .int .i64 0, .pointer (some ⟨g6, 0, none⟩), .pointer (some ⟨g7, 0, none⟩), .pointer (some ⟨g8, 0, none⟩), .int .i64 e9, s10, s11, u12, u13, u14, u15, u16, u17, u18, u19, u20, u21, u22, u23, u24, u25, u26, u27, u28, u29, u30, u31, u32, u33, u34, s35, s36, s37, s38, s39, s40, s41, s42, s43, s44, s45, s46, s47, u48, u49, u50, u51, u52, u53, u54], defers := [] } ∧ L.size = 16 ∧ MulR3 L W f g A B q s za zb s36 s37 s38 s39 s40 s41 s42 s43 s44 s45 s35 s46 s47 s10 s11 wx
theorem mk_of {p q P Q G : Int} (hG : 0 < G) (hQ : 0 < Q) (hp : P * G = p) (hq : Q * G = q) (hc : Int.gcd P Q = 1) : mkP p q = P ∧ mkQ p q = Q := by
  have hgcd : (Int.gcd p q : Int) = G := by
    rw [← hp, ← hq, Int.gcd_mul_right, hc, Nat.one_mul, Int.natAbs_of_nonneg (by omega)]
  have hq0 : 0 < q := by rw [← hq]; exact Int.mul_pos hQ hG
  unfold mkP mkQ
  rw [hgcd, Int.sign_eq_one_of_pos hq0, Int.one_mul, Int.natAbs_of_nonneg (by omega), ← hp, ← hq]
  exact ⟨Int.mul_ediv_cancel _ (by omega), Int.mul_ediv_cancel _ (by omega)⟩
theorem cop_mul {a b c d : Int} (h1 : Int.gcd a c = 1) (h2 : Int.gcd a d = 1) (h3 : Int.gcd b c = 1) (h4 : Int.gcd b d = 1) : Int.gcd (a * b) (c * d) = 1 := by
  unfold Int.gcd at *
  rw [Int.natAbs_mul, Int.natAbs_mul]
  have e1 : Nat.Coprime a.natAbs c.natAbs := h1
  have e2 : Nat.Coprime a.natAbs d.natAbs := h2
  have e3 : Nat.Coprime b.natAbs c.natAbs := h3
  have e4 : Nat.Coprime b.natAbs d.natAbs := h4
  exact (e1.mul_right e2).mul_left (e3.mul_right e4)
theorem cop_div {p q a b : Int} (h : Int.gcd p q = 1) (ha : a ∣ p) (hb : b ∣ q) : Int.gcd a b = 1 := by
  unfold Int.gcd at *
  have e : Nat.Coprime p.natAbs q.natAbs := h
  exact (e.coprime_dvd_left (Int.natAbs_dvd_natAbs.2 ha)).coprime_dvd_right (Int.natAbs_dvd_natAbs.2 hb)
theorem mul_frac {p q r s : Int} (hq : 0 < q) (hs : 0 < s) (h1 : Int.gcd p q = 1) (h2 : Int.gcd r s = 1) :
    0 < q / (Int.gcd r q : Nat) * (s / (Int.gcd p s : Nat)) ∧ Int.gcd (p / (Int.gcd p s : Nat) * (r / (Int.gcd r q : Nat))) (q / (Int.gcd r q : Nat) * (s / (Int.gcd p s : Nat))) = 1 ∧
      mkP (p * r) (q * s) = p / (Int.gcd p s : Nat) * (r / (Int.gcd r q : Nat)) ∧ mkQ (p * r) (q * s) = q / (Int.gcd r q : Nat) * (s / (Int.gcd p s : Nat)) := by
  have g1 : 0 < Int.gcd p s := Int.gcd_pos_of_ne_zero_right _ (by omega)
  have g2 : 0 < Int.gcd r q := Int.gcd_pos_of_ne_zero_right _ (by omega)
  have a1 := Int.gcd_dvd_left p s
  have a2 := Int.gcd_dvd_right p s
  have b1 := Int.gcd_dvd_left r q
  have b2 := Int.gcd_dvd_right r q
  have e1 := Int.gcd_ediv_gcd_ediv_gcd g1
  have e2 := Int.gcd_ediv_gcd_ediv_gcd g2
  generalize Int.gcd p s = G1 at *
  generalize Int.gcd r q = G2 at *
  obtain ⟨a, ha⟩ := a1
  obtain ⟨d, hd⟩ := a2
  obtain ⟨b, hb⟩ := b1
  obtain ⟨c, hc⟩ := b2
  have z1 : (G1 : Int) ≠ 0 := by omega
  have z2 : (G2 : Int) ≠ 0 := by omega
  have ea : p / (G1 : Int) = a := by rw [ha, Int.mul_ediv_cancel_left _ z1]
  have ed : s / (G1 : Int) = d := by rw [hd, Int.mul_ediv_cancel_left _ z1]
  have eb : r / (G2 : Int) = b := by rw [hb, Int.mul_ediv_cancel_left _ z2]
  have ec : q / (G2 : Int) = c := by rw [hc, Int.mul_ediv_cancel_left _ z2]
  rw [ea, ed] at e1
  rw [eb, ec] at e2
  rw [ea, ed, eb, ec]
  have hd0 : 0 < d := by
    rw [hd] at hs
    exact Int.pos_of_mul_pos_right hs (by omega)
  have hc0 : 0 < c := by
    rw [hc] at hq
    exact Int.pos_of_mul_pos_right hq (by omega)
  have c1 : Int.gcd a c = 1 := cop_div h1 ⟨G1, by rw [ha, Int.mul_comm]⟩ ⟨G2, by rw [hc, Int.mul_comm]⟩
  have c2 : Int.gcd b d = 1 := cop_div h2 ⟨G2, by rw [hb, Int.mul_comm]⟩ ⟨G1, by rw [hd, Int.mul_comm]⟩
  have c3 := cop_mul c1 e1 e2 c2
  obtain ⟨m1, m2⟩ := mk_of (p := p * r) (q := q * s) (P := a * b) (Q := c * d) (G := G1 * G2) (Int.mul_pos (by omega) (by omega)) (Int.mul_pos hc0 hd0) (by rw [ha, hb]; grind) (by rw [hc, hd]; grind) c3
  exact ⟨Int.mul_pos hc0 hd0, c3, m1, m2⟩
set_option maxRecDepth 100000 in
set_option maxHeartbeats 6400000 in
theorem Mul_frac {f g : FV} {p q r s : Int} {w : World} (hf : f.is w p q) (hg : g.is w r s) : Calls Tryz.prog 73 #[.agg #[.bool f.p.neg, .slice f.p.A f.p.n f.p.c, .bool f.l.neg, .slice f.l.A f.l.n f.l.c], .agg #[.bool g.p.neg, .slice g.p.A g.p.n g.p.c, .bool g.l.neg, .slice g.l.A g.l.n g.l.c]] w (FracL w (mkP (p * r) (q * s)) (mkQ (p * r) (q * s))) := by
  go_enter Tryz.func73, Tryz.ntmps73
  have hS := TwoSt.start hf hg
  go_upto_region 1 with fail
  generalize ((w.alloc (.cells #[.bool f.p.neg, .slice f.p.A f.p.n f.p.c, .bool f.l.neg, .slice f.l.A f.l.n f.l.c] 31)).alloc (.cells #[.bool g.p.neg, .slice g.p.A g.p.n g.p.c, .bool g.l.neg, .slice g.l.A g.l.n g.l.c] 31)).alloc (.cells #[.bool false, .slice none 0 0, .bool false, .slice none 0 0] 31) = W at hS ⊢
  obtain ⟨b1, hb1⟩ : ∃ b1, b1 = w.heap.size := ⟨_, rfl⟩
  obtain ⟨b2, hb2⟩ : ∃ b2, b2 = w.heap.size + 1 := ⟨_, rfl⟩
  obtain ⟨b3, hb3⟩ : ∃ b3, b3 = w.heap.size + 1 + 1 := ⟨_, rfl⟩
  have hS1 := hS.of_
  have hS2 := hS.og
  have hS3 := hS.oz
  rw [← hb1] at hS1
  rw [← hb2] at hS2
  rw [← hb3] at hS3
  rw [← hb3, ← hb2, ← hb1]
  have hfW := hS.if_
  have hgW := hS.ig
  have hBW := hS.bel
  have hw3 : w.heap.size ≤ b3 := by omega
  clear hS hb1 hb2 hb3
  go_cut [6, 7] (fun s6 s7 wx => IsBox W wx s6 (Int.gcd p s : Nat) ∧ IsBox W wx s7 (Int.gcd r q : Nat) ∧ Below W.heap.size W wx)
  case first =>
    refine region_inv (by kernel_rfl) (MulR1J W f g p q r s b1 b2 b3) ?_ ?_ ?_
    · exact ⟨_, _, _, _, _, _, _, _, _, _, _, _, rfl, by simp, MulR1.start⟩
    · intro L a wx i hJ hi
      obtain ⟨hlt, hnd, hdep⟩ := ready_spec hi
      obtain ⟨s12, s13, s14, s15, s16, s17, s18, s19, s20, s21, s6, s7, rfl, hsz, h⟩ := hJ
      have hlt2 : i < 14 := hlt
      clear hi hlt
      rcases (by omega : i = 0 ∨ i = 1 ∨ i = 2 ∨ i = 3 ∨ i = 4 ∨ i = 5 ∨ i = 6 ∨ i = 7 ∨ i = 8 ∨ i = 9 ∨ i = 10 ∨ i = 11 ∨ i = 12 ∨ i = 13) with rfl | rfl | rfl | rfl | rfl | rfl | rfl | rfl | rfl | rfl | rfl | rfl | rfl | rfl
      · clear hdep
        refine wpOp_step rfl (fun K hK => ?_)
        go_wp2_with fail
        exact ⟨_, _, _, _, _, _, _, _, _, _, _, _, rfl, by simp [hsz], h.set0 hnd rfl⟩
      · have d0 : done L 0 := hdep _ rfl { on := 0, ground := Ground.data } (by simp) rfl
        have e0 := h.p0 d0
        subst e0
        have l0 := (hS1.on h.bel).c0
        have l1 := (hS1.on h.bel).c1
        clear hdep
        refine wpOp_step rfl (fun K hK => ?_)
        go_wp2_with fail
        exact ⟨_, _, _, _, _, _, _, _, _, _, _, _, rfl, by simp [hsz], h.set1 hnd rfl⟩
      · have l0 := (hS2.on h.bel).c0
        have l1 := (hS2.on h.bel).c1
        have l2 := (hS2.on h.bel).c2
        have l3 := (hS2.on h.bel).c3
        clear hdep
        refine wpOp_step rfl (fun K hK => ?_)
        go_wp2_with fail
        exact ⟨_, _, _, _, _, _, _, _, _, _, _, _, rfl, by simp [hsz], h.set2 hnd rfl⟩
      · have d2 : done L 2 := hdep _ rfl { on := 2, ground := Ground.data } (by simp) rfl
        have e2 := h.p2 d2
        subst e2
        clear hdep
        refine wpOp_step rfl (fun K hK => ?_)
        go_wp2_with fail
        refine (Den_b (f := g) hgW h.bel).mono ?_
        rintro e v ⟨r1, rfl, j, k, hr⟩
        go_wp2_with fail
        exact ⟨_, _, _, _, _, _, _, _, _, _, _, _, rfl, by simp [hsz], (h.up k).set3 hnd ⟨r1, rfl, hr⟩⟩
      · have d1 : done L 1 := hdep _ rfl { on := 1, ground := Ground.data } (by simp) rfl
        have d3 : done L 3 := hdep _ rfl { on := 3, ground := Ground.data } (by simp) rfl
        have e1 := h.p1 d1
        obtain ⟨x3, e3, hx3⟩ := h.c3 d3
        subst e1
        subst e3
        clear hdep
        refine wpOp_step rfl (fun K hK => ?_)
        go_wp2_with fail
        refine (gcd_b (x := f.p) (y := x3) hfW.num h.bel hx3 (Below.refl _ _)).mono ?_
        rintro e v ⟨r1, rfl, j, k, hr⟩
        go_wp2_with fail
        exact ⟨_, _, _, _, _, _, _, _, _, _, _, _, rfl, by simp [hsz], (h.up k).set4 hnd ⟨r1, rfl, hr⟩⟩
      · clear hdep
        refine wpOp_step rfl (fun K hK => ?_)
        go_wp2_with fail
        exact ⟨_, _, _, _, _, _, _, _, _, _, _, _, rfl, by simp [hsz], h.set5 hnd rfl⟩
      · have d5 : done L 5 := hdep _ rfl { on := 5, ground := Ground.data } (by simp) rfl
        have e5 := h.p5 d5
        subst e5
        have l0 := (hS2.on h.bel).c0
        have l1 := (hS2.on h.bel).c1
        clear hdep
        refine wpOp_step rfl (fun K hK => ?_)
        go_wp2_with fail
        exact ⟨_, _, _, _, _, _, _, _, _, _, _, _, rfl, by simp [hsz], h.set6 hnd rfl⟩
      · have l0 := (hS1.on h.bel).c0
        have l1 := (hS1.on h.bel).c1
        have l2 := (hS1.on h.bel).c2
        have l3 := (hS1.on h.bel).c3
        clear hdep
        refine wpOp_step rfl (fun K hK => ?_)
        go_wp2_with fail
        exact ⟨_, _, _, _, _, _, _, _, _, _, _, _, rfl, by simp [hsz], h.set7 hnd rfl⟩
      · have d7 : done L 7 := hdep _ rfl { on := 7, ground := Ground.data } (by simp) rfl
        have e7 := h.p7 d7
        subst e7
        clear hdep
        refine wpOp_step rfl (fun K hK => ?_)
        go_wp2_with fail
        refine (Den_b (f := f) hfW h.bel).mono ?_
        rintro e v ⟨r1, rfl, j, k, hr⟩
        go_wp2_with fail
        exact ⟨_, _, _, _, _, _, _, _, _, _, _, _, rfl, by simp [hsz], (h.up k).set8 hnd ⟨r1, rfl, hr⟩⟩
      · have d6 : done L 6 := hdep _ rfl { on := 6, ground := Ground.data } (by simp) rfl
        have d8 : done L 8 := hdep _ rfl { on := 8, ground := Ground.data } (by simp) rfl
        have e6 := h.p6 d6
        obtain ⟨x8, e8, hx8⟩ := h.c8 d8
        subst e6
        subst e8
        clear hdep
        refine wpOp_step rfl (fun K hK => ?_)
        go_wp2_with fail
        refine (gcd_b (x := g.p) (y := x8) hgW.num h.bel hx8 (Below.refl _ _)).mono ?_
        rintro e v ⟨r1, rfl, j, k, hr⟩
        go_wp2_with fail
        exact ⟨_, _, _, _, _, _, _, _, _, _, _, _, rfl, by simp [hsz], (h.up k).set9 hnd ⟨r1, rfl, hr⟩⟩
      · clear hdep
        refine wpOp_step rfl (fun K hK => ?_)
        go_wp2_with fail
        exact ⟨_, _, _, _, _, _, _, _, _, _, _, _, rfl, by simp [hsz], h.set10 hnd⟩
      · clear hdep
        refine wpOp_step rfl (fun K hK => ?_)
        go_wp2_with fail
        exact ⟨_, _, _, _, _, _, _, _, _, _, _, _, rfl, by simp [hsz], h.set11 hnd⟩
      · have d10 : done L 10 := hdep _ rfl { on := 10, ground := Ground.data } (by simp) rfl
        have d4 : done L 4 := hdep _ rfl { on := 4, ground := Ground.data } (by simp) rfl
        obtain ⟨gb, c0, c1, es, hgb, hO, h0, h1, _⟩ := h.a10 d10
        obtain ⟨x, ex, _⟩ := h.c4 d4
        have hn := h.set12 d10 d4 es ex hgb hO h0 h1
        have z0 := hO.c0
        have z1 := hO.c1
        have f0 := hO.frozen 0
        have f1 := hO.frozen 1
        have HN := Lib.hid hn
        clear hn hdep
        subst es ex
        refine wpOp_step rfl (fun K hK => ?_)
        go_wp2_with fail
        exact ⟨_, _, _, _, _, _, _, _, _, _, _, _, rfl, by simp [hsz], HN.out⟩
      · have d11 : done L 11 := hdep _ rfl { on := 11, ground := Ground.data } (by simp) rfl
        have d9 : done L 9 := hdep _ rfl { on := 9, ground := Ground.data } (by simp) rfl
        obtain ⟨gb, c0, c1, es, hgb, hO, h0, h1, _⟩ := h.a11 d11
        obtain ⟨x, ex, _⟩ := h.c9 d9
        have hn := h.set13 d11 d9 es ex hgb hO h0 h1
        have z0 := hO.c0
        have z1 := hO.c1
        have f0 := hO.frozen 0
        have f1 := hO.frozen 1
        have HN := Lib.hid hn
        clear hn hdep
        subst es ex
        refine wpOp_step rfl (fun K hK => ?_)
        go_wp2_with fail
        exact ⟨_, _, _, _, _, _, _, _, _, _, _, _, rfl, by simp [hsz], HN.out⟩
    · intro L a wx hJ hr
      obtain ⟨s12, s13, s14, s15, s16, s17, s18, s19, s20, s21, s6, s7, rfl, hsz, h⟩ := hJ
      have D := all_done hr hsz (by kernel_rfl)
      have D2 : ∀ k, k < 14 → done L k := D
      clear D
      have B6 := IsBox.of (h.a10 (D2 10 (by omega))) (D2 12 (by omega)) (h.c4 (D2 4 (by omega)))
      have B7 := IsBox.of (h.a11 (D2 11 (by omega))) (D2 13 (by omega)) (h.c9 (D2 9 (by omega)))
      have hbw := h.bel
      clear h D2
      go_wp2_with fail
      go_meet
      exact ⟨B6, B7, hbw⟩
  case rest =>
    obtain ⟨⟨g6, A, rfl, l6, hO6, hA⟩, ⟨g7, B, rfl, l7, hO7, hB⟩, hbw⟩ := hcut
    obtain ⟨k1, k2, k3, k4⟩ := mul_frac hf.pos hg.pos hf.cop hg.cop
    have hA0 : ((Int.gcd p s : Nat) : Int) ≠ 0 := by have := Int.gcd_pos_of_ne_zero_right p (show s ≠ 0 by have := hg.pos; omega); omega
    have hB0 : ((Int.gcd r q : Nat) : Int) ≠ 0 := by have := Int.gcd_pos_of_ne_zero_right r (show q ≠ 0 by have := hf.pos; omega); omega
    obtain ⟨z1, hz1⟩ : ∃ z1, z1 = p / (Int.gcd p s : Nat) := ⟨_, rfl⟩
    obtain ⟨z2, hz2⟩ : ∃ z2, z2 = r / (Int.gcd r q : Nat) := ⟨_, rfl⟩
    obtain ⟨z3, hz3⟩ : ∃ z3, z3 = q / (Int.gcd r q : Nat) := ⟨_, rfl⟩
    obtain ⟨z4, hz4⟩ : ∃ z4, z4 = s / (Int.gcd p s : Nat) := ⟨_, rfl⟩
    rw [← hz1, ← hz2] at k2 k3
    rw [← hz3, ← hz4] at k1 k2 k4
    have HK2 := Lib.hid k2
    have HK3 := Lib.hid k3
    have HK4 := Lib.hid k4
    obtain ⟨G1, hG1⟩ : ∃ G1 : Nat, G1 = Int.gcd p s := ⟨_, rfl⟩
    obtain ⟨G2, hG2⟩ : ∃ G2 : Nat, G2 = Int.gcd r q := ⟨_, rfl⟩
    rw [← hG1] at hA hA0 hz1 hz4
    rw [← hG2] at hB hB0 hz2 hz3
    have HZ1 := Lib.hid hz1
    have HZ2 := Lib.hid hz2
    have HZ3 := Lib.hid hz3
    have HZ4 := Lib.hid hz4
    have hS1 := hS1.on hbw
    have hS2 := hS2.on hbw
    have hS3 := hS3.on hbw
    have hfW := hfW.on hbw
    have hgW := hgW.on hbw
    have hB2 := Below.call hBW hbw
    clear hG1 hG2 k2 k3 k4 hz1 hz2 hz3 hz4
    go_upto_region 2 with fail
    go_cut [8, 9] (fun s8 s9 wx => IsBox wc wx s8 (clip (z1 * z2)) ∧ s9 = .int .i64 (lim (z1 * z2)) ∧ Below wc.heap.size wc wx)
    case first =>
      refine region_inv (by kernel_rfl) (MulR2J wc f g A B z1 z2 b1 b2 b3 g6 g7 u12 u13 u14 u15 u16 u17 u18 u19 u20 u21 u35 u36 u37 u38 u39 u40 u41 u42 u43 u44 u45 u46 u47 u48 u49 u50 u51 u52 u53 u54) ?_ ?_ ?_
      · exact ⟨_, _, _, _, _, _, _, _, _, _, _, _, _, _, _, rfl, by simp, MulR2.start⟩
      · intro L a wx i hJ hi
        obtain ⟨hlt, hnd, hdep⟩ := ready_spec hi
        obtain ⟨s23, s24, s25, s26, s27, s28, s29, s30, s31, s32, s22, s33, s34, s8, s9, rfl, hsz, h⟩ := hJ
        have hlt2 : i < 16 := hlt
        clear hi hlt
        rcases (by omega : i = 0 ∨ i = 1 ∨ i = 2 ∨ i = 3 ∨ i = 4 ∨ i = 5 ∨ i = 6 ∨ i = 7 ∨ i = 8 ∨ i = 9 ∨ i = 10 ∨ i = 11 ∨ i = 12 ∨ i = 13 ∨ i = 14 ∨ i = 15) with rfl | rfl | rfl | rfl | rfl | rfl | rfl | rfl | rfl | rfl | rfl | rfl | rfl | rfl | rfl | rfl
        · clear hdep
          refine wpOp_step rfl (fun K hK => ?_)
          go_wp2_with fail
          exact ⟨_, _, _, _, _, _, _, _, _, _, _, _, _, _, _, rfl, by simp [hsz], h.set0 hnd rfl⟩
        · have d0 : done L 0 := hdep _ rfl { on := 0, ground := Ground.data } (by simp) rfl
          have e0 := h.p0 d0
          subst e0
          have l0 := (hS1.on h.bel).c0
          have l1 := (hS1.on h.bel).c1
          clear hdep
          refine wpOp_step rfl (fun K hK => ?_)
          go_wp2_with fail
          exact ⟨_, _, _, _, _, _, _, _, _, _, _, _, _, _, _, rfl, by simp [hsz], h.set1 hnd rfl⟩
        · have l0 := (hO6.on h.bel).c0
          have l1 := (hO6.on h.bel).c1
          clear hdep
          refine wpOp_step rfl (fun K hK => ?_)
          go_wp2_with fail
          exact ⟨_, _, _, _, _, _, _, _, _, _, _, _, _, _, _, rfl, by simp [hsz], h.set2 hnd rfl⟩
        · have d1 : done L 1 := hdep _ rfl { on := 1, ground := Ground.data } (by simp) rfl
          have d2 : done L 2 := hdep _ rfl { on := 2, ground := Ground.data } (by simp) rfl
          have e1 := h.p1 d1
          have e2 := h.p2 d2
          subst e1
          subst e2
          clear hdep
          refine wpOp_step rfl (fun K hK => ?_)
          go_wp2_with fail
          refine (over_b (x := f.p) (y := A) hfW.num h.bel hA h.bel hA0).mono ?_
          rintro e v ⟨r1, rfl, j, k, hr⟩
          go_wp2_with fail
          exact ⟨_, _, _, _, _, _, _, _, _, _, _, _, _, _, _, rfl, by simp [hsz], (h.up k).set3 hnd ⟨r1, rfl, by rw [HZ1.out]; exact hr⟩⟩
        · clear hdep
          refine wpOp_step rfl (fun K hK => ?_)
          go_wp2_with fail
          exact ⟨_, _, _, _, _, _, _, _, _, _, _, _, _, _, _, rfl, by simp [hsz], h.set4 hnd rfl⟩
        · have d4 : done L 4 := hdep _ rfl { on := 4, ground := Ground.data } (by simp) rfl
          have e4 := h.p4 d4
          subst e4
          have l0 := (hS2.on h.bel).c0
          have l1 := (hS2.on h.bel).c1
          clear hdep
          refine wpOp_step rfl (fun K hK => ?_)
          go_wp2_with fail
          exact ⟨_, _, _, _, _, _, _, _, _, _, _, _, _, _, _, rfl, by simp [hsz], h.set5 hnd rfl⟩
        · have l0 := (hO7.on h.bel).c0
          have l1 := (hO7.on h.bel).c1
          clear hdep
          refine wpOp_step rfl (fun K hK => ?_)
          go_wp2_with fail
          exact ⟨_, _, _, _, _, _, _, _, _, _, _, _, _, _, _, rfl, by simp [hsz], h.set6 hnd rfl⟩
        · have d5 : done L 5 := hdep _ rfl { on := 5, ground := Ground.data } (by simp) rfl
          have d6 : done L 6 := hdep _ rfl { on := 6, ground := Ground.data } (by simp) rfl
          have e5 := h.p5 d5
          have e6 := h.p6 d6
          subst e5
          subst e6
          clear hdep
          refine wpOp_step rfl (fun K hK => ?_)
          go_wp2_with fail
          refine (over_b (x := g.p) (y := B) hgW.num h.bel hB h.bel hB0).mono ?_
          rintro e v ⟨r1, rfl, j, k, hr⟩
          go_wp2_with fail
          exact ⟨_, _, _, _, _, _, _, _, _, _, _, _, _, _, _, rfl, by simp [hsz], (h.up k).set7 hnd ⟨r1, rfl, by rw [HZ2.out]; exact hr⟩⟩
        · have d3 : done L 3 := hdep _ rfl { on := 3, ground := Ground.data } (by simp) rfl
          have d7 : done L 7 := hdep _ rfl { on := 7, ground := Ground.data } (by simp) rfl
          obtain ⟨x3, e3, hx3⟩ := h.c3 d3
          obtain ⟨x7, e7, hx7⟩ := h.c7 d7
          subst e3
          subst e7
          clear hdep
          refine wpOp_step rfl (fun K hK => ?_)
          go_wp2_with fail
          exact ⟨_, _, _, _, _, _, _, _, _, _, _, _, _, _, _, rfl, by simp [hsz], (h.up (below_new _ _)).set8 hnd ⟨_, x3, x7, rfl, Own.newP _ _ _ _, hx3.on (below_new _ _), hx7.on (below_new _ _)⟩⟩
        · have d8 : done L 8 := hdep _ rfl { on := 8, ground := Ground.data } (by simp) rfl
          obtain ⟨g8, x8, y8, e8, ho8, hx8, hy8⟩ := h.c8 d8
          subst e8
          clear hdep
          refine wpOp_step rfl (fun K hK => ?_)
          go_wp2_with fail
          refine (times_iv ho8 hx8 hy8).mono ?_
          rintro e v ⟨r1, rfl, k, hr⟩
          go_wp2_with fail
          exact ⟨_, _, _, _, _, _, _, _, _, _, _, _, _, _, _, rfl, by simp [hsz], (h.up k).set9 hnd ⟨r1, rfl, hr⟩⟩
        · have d9 : done L 9 := hdep _ rfl { on := 9, ground := Ground.data } (by simp) rfl
          obtain ⟨x9, e9, hx9⟩ := h.c9 d9
          subst e9
          clear hdep
          refine wpOp_step rfl (fun K hK => ?_)
          go_wp2_with fail
          exact ⟨_, _, _, _, _, _, _, _, _, _, _, _, _, _, _, rfl, by simp [hsz], h.set10 hnd ⟨x9, rfl, hx9⟩⟩
        · have d10 : done L 10 := hdep _ rfl { on := 10, ground := Ground.data } (by simp) rfl
          obtain ⟨x10, e10, hx10⟩ := h.c10 d10
          subst e10
          clear hdep
          refine wpOp_step rfl (fun K hK => ?_)
          go_wp2_with fail
          exact ⟨_, _, _, _, _, _, _, _, _, _, _, _, _, _, _, rfl, by simp [hsz], h.set11 hnd ⟨x10, rfl, hx10⟩⟩
        · have d10 : done L 10 := hdep _ rfl { on := 10, ground := Ground.data } (by simp) rfl
          obtain ⟨x10, e10, hx10⟩ := h.c10 d10
          subst e10
          clear hdep
          refine wpOp_step rfl (fun K hK => ?_)
          go_wp2_with fail
          exact ⟨_, _, _, _, _, _, _, _, _, _, _, _, _, _, _, rfl, by simp [hsz], h.set12 hnd rfl⟩
        · clear hdep
          refine wpOp_step rfl (fun K hK => ?_)
          go_wp2_with fail
          exact ⟨_, _, _, _, _, _, _, _, _, _, _, _, _, _, _, rfl, by simp [hsz], h.set13 hnd⟩
        · have d13 : done L 13 := hdep _ rfl { on := 13, ground := Ground.data } (by simp) rfl
          have d11 : done L 11 := hdep _ rfl { on := 11, ground := Ground.data } (by simp) rfl
          obtain ⟨gb, c0, c1, es, hgb, hO, h0, h1, _⟩ := h.a13 d13
          obtain ⟨x, ex, _⟩ := h.c11 d11
          have hn := h.set14 d13 d11 es ex hgb hO h0 h1
          have z0 := hO.c0
          have z1 := hO.c1
          have f0 := hO.frozen 0
          have f1 := hO.frozen 1
          have HN := Lib.hid hn
          clear hn hdep
          subst es ex
          refine wpOp_step rfl (fun K hK => ?_)
          go_wp2_with fail
          exact ⟨_, _, _, _, _, _, _, _, _, _, _, _, _, _, _, rfl, by simp [hsz], HN.out⟩
        · have d12 : done L 12 := hdep _ rfl { on := 12, ground := Ground.data } (by simp) rfl
          have e12 := h.p12 d12
          subst e12
          clear hdep
          refine wpOp_step rfl (fun K hK => ?_)
          go_wp2_with fail
          exact ⟨_, _, _, _, _, _, _, _, _, _, _, _, _, _, _, rfl, by simp [hsz], h.set15 hnd rfl⟩
      · intro L a wx hJ hr
        obtain ⟨s23, s24, s25, s26, s27, s28, s29, s30, s31, s32, s22, s33, s34, s8, s9, rfl, hsz, h⟩ := hJ
        have D := all_done hr hsz (by kernel_rfl)
        have D2 : ∀ k, k < 16 → done L k := D
        clear D
        have B8 := IsBox.of (h.a13 (D2 13 (by omega))) (D2 14 (by omega)) (h.c11 (D2 11 (by omega)))
        have E9 := h.p15 (D2 15 (by omega))
        have hbw := h.bel
        clear h D2
        go_wp2_with fail
        go_meet
        exact ⟨B8, E9, hbw⟩
    case rest =>
      obtain ⟨⟨g8, X8, rfl, l8, hO8, hX8⟩, rfl, hbw2⟩ := hcut
      obtain ⟨wd, rfl⟩ : ∃ wd : World, wd = wc := ⟨_, rfl⟩
      have hS1 := hS1.on hbw2
      have hS2 := hS2.on hbw2
      have hS3 := hS3.on hbw2
      have hfW := hfW.on hbw2
      have hgW := hgW.on hbw2
      have hA := hA.on hbw2
      have hB := hB.on hbw2
      have hO6 := hO6.on hbw2
      have hO7 := hO7.on hbw2
      have hB3 := Below.call hB2 hbw2
      go_upto_region 3 with fail
      go_cut [10, 11] (fun s10 s11 wx => IsBox wd wx s10 (clip (z3 * z4)) ∧ s11 = .int .i64 (lim (z3 * z4)) ∧ Below wd.heap.size wd wx)
      case first =>
        refine region_inv (by kernel_rfl) (MulR3J wd f g A B q s z3 z4 b1 b2 b3 g6 g7 g8 (lim (z1 * z2)) u12 u13 u14 u15 u16 u17 u18 u19 u20 u21 u22 u23 u24 u25 u26 u27 u28 u29 u30 u31 u32 u33 u34 u48 u49 u50 u51 u52 u53 u54) ?_ ?_ ?_
        · exact ⟨_, _, _, _, _, _, _, _, _, _, _, _, _, _, _, rfl, by simp, MulR3.start⟩
        · intro L a wx i hJ hi
          obtain ⟨hlt, hnd, hdep⟩ := ready_spec hi
          obtain ⟨s36, s37, s38, s39, s40, s41, s42, s43, s44, s45, s35, s46, s47, s10, s11, rfl, hsz, h⟩ := hJ
          have hlt2 : i < 16 := hlt
          clear hi hlt
          rcases (by omega : i = 0 ∨ i = 1 ∨ i = 2 ∨ i = 3 ∨ i = 4 ∨ i = 5 ∨ i = 6 ∨ i = 7 ∨ i = 8 ∨ i = 9 ∨ i = 10 ∨ i = 11 ∨ i = 12 ∨ i = 13 ∨ i = 14 ∨ i = 15) with rfl | rfl | rfl | rfl | rfl | rfl | rfl | rfl | rfl | rfl | rfl | rfl | rfl | rfl | rfl | rfl
          · have l0 := (hS1.on h.bel).c0
            have l1 := (hS1.on h.bel).c1
            have l2 := (hS1.on h.bel).c2
            have l3 := (hS1.on h.bel).c3
            clear hdep
            refine wpOp_step rfl (fun K hK => ?_)
            go_wp2_with fail
            exact ⟨_, _, _, _, _, _, _, _, _, _, _, _, _, _, _, rfl, by simp [hsz], h.set0 hnd rfl⟩
          · have d0 : done L 0 := hdep _ rfl { on := 0, ground := Ground.data } (by simp) rfl
            have e0 := h.p0 d0
            subst e0
            clear hdep
            refine wpOp_step rfl (fun K hK => ?_)
            go_wp2_with fail
            refine (Den_b (f := f) hfW h.bel).mono ?_
            rintro e v ⟨r1, rfl, j, k, hr⟩
            go_wp2_with fail
            exact ⟨_, _, _, _, _, _, _, _, _, _, _, _, _, _, _, rfl, by simp [hsz], (h.up k).set1 hnd ⟨r1, rfl, hr⟩⟩
          · have l0 := (hO7.on h.bel).c0
            have l1 := (hO7.on h.bel).c1
            clear hdep
            refine wpOp_step rfl (fun K hK => ?_)
            go_wp2_with fail
            exact ⟨_, _, _, _, _, _, _, _, _, _, _, _, _, _, _, rfl, by simp [hsz], h.set2 hnd rfl⟩
          · have d1 : done L 1 := hdep _ rfl { on := 1, ground := Ground.data } (by simp) rfl
            have d2 : done L 2 := hdep _ rfl { on := 2, ground := Ground.data } (by simp) rfl
            obtain ⟨x1, e1, hx1⟩ := h.c1 d1
            have e2 := h.p2 d2
            subst e1
            subst e2
            clear hdep
            refine wpOp_step rfl (fun K hK => ?_)
            go_wp2_with fail
            refine (over_b (x := x1) (y := B) hx1 (Below.refl _ _) hB h.bel hB0).mono ?_
            rintro e v ⟨r1, rfl, j, k, hr⟩
            go_wp2_with fail
            exact ⟨_, _, _, _, _, _, _, _, _, _, _, _, _, _, _, rfl, by simp [hsz], (h.up k).set3 hnd ⟨r1, rfl, by rw [HZ3.out]; exact hr⟩⟩
          · have l0 := (hS2.on h.bel).c0
            have l1 := (hS2.on h.bel).c1
            have l2 := (hS2.on h.bel).c2
            have l3 := (hS2.on h.bel).c3
            clear hdep
            refine wpOp_step rfl (fun K hK => ?_)
            go_wp2_with fail
            exact ⟨_, _, _, _, _, _, _, _, _, _, _, _, _, _, _, rfl, by simp [hsz], h.set4 hnd rfl⟩
          · have d4 : done L 4 := hdep _ rfl { on := 4, ground := Ground.data } (by simp) rfl
            have e4 := h.p4 d4
            subst e4
            clear hdep
            refine wpOp_step rfl (fun K hK => ?_)
            go_wp2_with fail
            refine (Den_b (f := g) hgW h.bel).mono ?_
            rintro e v ⟨r1, rfl, j, k, hr⟩
            go_wp2_with fail
            exact ⟨_, _, _, _, _, _, _, _, _, _, _, _, _, _, _, rfl, by simp [hsz], (h.up k).set5 hnd ⟨r1, rfl, hr⟩⟩
          · have l0 := (hO6.on h.bel).c0
            have l1 := (hO6.on h.bel).c1
            clear hdep
            refine wpOp_step rfl (fun K hK => ?_)
            go_wp2_with fail
            exact ⟨_, _, _, _, _, _, _, _, _, _, _, _, _, _, _, rfl, by simp [hsz], h.set6 hnd rfl⟩
          · have d5 : done L 5 := hdep _ rfl { on := 5, ground := Ground.data } (by simp) rfl
            have d6 : done L 6 := hdep _ rfl { on := 6, ground := Ground.data } (by simp) rfl
            obtain ⟨x5, e5, hx5⟩ := h.c5 d5
            have e6 := h.p6 d6
            subst e5
            subst e6
            clear hdep
            refine wpOp_step rfl (fun K hK => ?_)
            go_wp2_with fail
            refine (over_b (x := x5) (y := A) hx5 (Below.refl _ _) hA h.bel hA0).mono ?_
            rintro e v ⟨r1, rfl, j, k, hr⟩
            go_wp2_with fail
            exact ⟨_, _, _, _, _, _, _, _, _, _, _, _, _, _, _, rfl, by simp [hsz], (h.up k).set7 hnd ⟨r1, rfl, by rw [HZ4.out]; exact hr⟩⟩
          · have d3 : done L 3 := hdep _ rfl { on := 3, ground := Ground.data } (by simp) rfl
            have d7 : done L 7 := hdep _ rfl { on := 7, ground := Ground.data } (by simp) rfl
            obtain ⟨x3, e3, hx3⟩ := h.c3 d3
            obtain ⟨x7, e7, hx7⟩ := h.c7 d7
            subst e3
            subst e7
            clear hdep
            refine wpOp_step rfl (fun K hK => ?_)
            go_wp2_with fail
            exact ⟨_, _, _, _, _, _, _, _, _, _, _, _, _, _, _, rfl, by simp [hsz], (h.up (below_new _ _)).set8 hnd ⟨_, x3, x7, rfl, Own.newP _ _ _ _, hx3.on (below_new _ _), hx7.on (below_new _ _)⟩⟩
          · have d8 : done L 8 := hdep _ rfl { on := 8, ground := Ground.data } (by simp) rfl
            obtain ⟨g8, x8, y8, e8, ho8, hx8, hy8⟩ := h.c8 d8
            subst e8
            clear hdep
            refine wpOp_step rfl (fun K hK => ?_)
            go_wp2_with fail
            refine (times_iv ho8 hx8 hy8).mono ?_
            rintro e v ⟨r1, rfl, k, hr⟩
            go_wp2_with fail
            exact ⟨_, _, _, _, _, _, _, _, _, _, _, _, _, _, _, rfl, by simp [hsz], (h.up k).set9 hnd ⟨r1, rfl, hr⟩⟩
          · have d9 : done L 9 := hdep _ rfl { on := 9, ground := Ground.data } (by simp) rfl
            obtain ⟨x9, e9, hx9⟩ := h.c9 d9
            subst e9
            clear hdep
            refine wpOp_step rfl (fun K hK => ?_)
            go_wp2_with fail
            exact ⟨_, _, _, _, _, _, _, _, _, _, _, _, _, _, _, rfl, by simp [hsz], h.set10 hnd ⟨x9, rfl, hx9⟩⟩
          · have d10 : done L 10 := hdep _ rfl { on := 10, ground := Ground.data } (by simp) rfl
            obtain ⟨x10, e10, hx10⟩ := h.c10 d10
            subst e10
            clear hdep
            refine wpOp_step rfl (fun K hK => ?_)
            go_wp2_with fail
            exact ⟨_, _, _, _, _, _, _, _, _, _, _, _, _, _, _, rfl, by simp [hsz], h.set11 hnd ⟨x10, rfl, hx10⟩⟩
          · have d10 : done L 10 := hdep _ rfl { on := 10, ground := Ground.data } (by simp) rfl
            obtain ⟨x10, e10, hx10⟩ := h.c10 d10
            subst e10
            clear hdep
            refine wpOp_step rfl (fun K hK => ?_)
            go_wp2_with fail
            exact ⟨_, _, _, _, _, _, _, _, _, _, _, _, _, _, _, rfl, by simp [hsz], h.set12 hnd rfl⟩
          · clear hdep
            refine wpOp_step rfl (fun K hK => ?_)
            go_wp2_with fail
            exact ⟨_, _, _, _, _, _, _, _, _, _, _, _, _, _, _, rfl, by simp [hsz], h.set13 hnd⟩
          · have d13 : done L 13 := hdep _ rfl { on := 13, ground := Ground.data } (by simp) rfl
            have d11 : done L 11 := hdep _ rfl { on := 11, ground := Ground.data } (by simp) rfl
            obtain ⟨gb, c0, c1, es, hgb, hO, h0, h1, _⟩ := h.a13 d13
            obtain ⟨x, ex, _⟩ := h.c11 d11
            have hn := h.set14 d13 d11 es ex hgb hO h0 h1
            have z0 := hO.c0
            have z1 := hO.c1
            have f0 := hO.frozen 0
            have f1 := hO.frozen 1
            have HN := Lib.hid hn
            clear hn hdep
            subst es ex
            refine wpOp_step rfl (fun K hK => ?_)
            go_wp2_with fail
            exact ⟨_, _, _, _, _, _, _, _, _, _, _, _, _, _, _, rfl, by simp [hsz], HN.out⟩
          · have d12 : done L 12 := hdep _ rfl { on := 12, ground := Ground.data } (by simp) rfl
            have e12 := h.p12 d12
            subst e12
            clear hdep
            refine wpOp_step rfl (fun K hK => ?_)
            go_wp2_with fail
            exact ⟨_, _, _, _, _, _, _, _, _, _, _, _, _, _, _, rfl, by simp [hsz], h.set15 hnd rfl⟩
        · intro L a wx hJ hr
          obtain ⟨s36, s37, s38, s39, s40, s41, s42, s43, s44, s45, s35, s46, s47, s10, s11, rfl, hsz, h⟩ := hJ
          have D := all_done hr hsz (by kernel_rfl)
          have D2 : ∀ k, k < 16 → done L k := D
          clear D
          have B10 := IsBox.of (h.a13 (D2 13 (by omega))) (D2 14 (by omega)) (h.c11 (D2 11 (by omega)))
          have E11 := h.p15 (D2 15 (by omega))
          have hbw := h.bel
          clear h D2
          go_wp2_with fail
          go_meet
          exact ⟨B10, E11, hbw⟩
      case rest =>
        obtain ⟨⟨g10, X10, rfl, l10, hO10, hX10⟩, rfl, hbw3⟩ := hcut
        have hS3 := hS3.on hbw3
        have hB4 := Below.call hB3 hbw3
        have hO8 := hO8.on hbw3
        have hX8 := hX8.on hbw3
        have x0 := hO8.c0
        have x1 := hO8.c1
        have y0 := hO10.c0
        have y1 := hO10.c1
        by_cases hin : inR (z1 * z2) (z3 * z4)
        · have hl1 := lim_in hin.1
          have hl2 := lim_in hin.2
          rw [clip_in hin.1] at hX8
          rw [clip_in hin.2] at hX10
          rw [hl1, hl2]
          go_wp2_with fail
          refine (lowest_ok hX8 hX10 k1 HK2.out).mono ?_
          rintro e w1 ⟨f', rfl, hb1, hf'⟩
          have oz := hS3.on hb1
          have hB5 := Below.call hB4 hb1
          have z0 := oz.c0
          have z10 := oz.c1
          have z20 := oz.c2
          have z30 := oz.c3
          have f0 := oz.frozen 0
          have f1 := oz.frozen 1
          have f2 := oz.frozen 2
          have f3 := oz.frozen 3
          have hp := put_frac (err := 0) hB5 hw3 oz (by simp) (by simp) (by simp) (by simp) hf'
          have hO5 := oz.put4 (.bool f'.p.neg) (.slice f'.p.A f'.p.n f'.p.c) (.bool f'.l.neg) (.slice f'.l.A f'.l.n f'.l.c)
          have q0 := hO5.c0
          have q1 := hO5.c1
          have q2 := hO5.c2
          have q3 := hO5.c3
          have HP : Hid (FracL w (mkP (p * r) (q * s)) (mkQ (p * r) (q * s)) (.returned (.tuple #[.agg #[.bool f'.p.neg, .slice f'.p.A f'.p.n f'.p.c, .bool f'.l.neg, .slice f'.l.A f'.l.n f'.l.c], .int .i64 0])) _) := Lib.hid (.inl ⟨by rw [HK3.out, HK4.out]; exact hin, by rw [HK3.out, HK4.out]; exact hp⟩)
          clear hp hO5
          go_wp2
          exact bodyPost_ret (v := .tuple #[.agg #[.bool f'.p.neg, .slice f'.p.A f'.p.n f'.p.c, .bool f'.l.neg, .slice f'.l.A f'.l.n f'.l.c], .int .i64 0]) (by simp [results, Tryz.results73, go_sem, q0, q1, q2, q3]) rfl HP.out
        · have hor : (lim (z1 * z2) != 0 || lim (z3 * z4) != 0) = true := by
            rw [lim_zero, lim_zero]
            by_cases h1 : (z1 * z2).natAbs < top
            · by_cases h2 : (z3 * z4).natAbs < top
              · exact absurd ⟨h1, h2⟩ hin
              · simp [h2]
            · simp [h1]
          have HIN := Lib.hid hin
          have HOR := Lib.hid hor
          clear hin hor
          go_wp2_with fail
          refine (lowest_err HOR.out).mono ?_
          rintro e w1 ⟨f', rfl, hb1, hf'⟩
          have oz := hS3.on hb1
          have hB5 := Below.call hB4 hb1
          have z0 := oz.c0
          have z10 := oz.c1
          have z20 := oz.c2
          have z30 := oz.c3
          have f0 := oz.frozen 0
          have f1 := oz.frozen 1
          have f2 := oz.frozen 2
          have f3 := oz.frozen 3
          have hp := put_frac (err := 4) hB5 hw3 oz (by simp) (by simp) (by simp) (by simp) hf'
          have hO5 := oz.put4 (.bool f'.p.neg) (.slice f'.p.A f'.p.n f'.p.c) (.bool f'.l.neg) (.slice f'.l.A f'.l.n f'.l.c)
          have q0 := hO5.c0
          have q1 := hO5.c1
          have q2 := hO5.c2
          have q3 := hO5.c3
          have HP : Hid (FracL w (mkP (p * r) (q * s)) (mkQ (p * r) (q * s)) (.returned (.tuple #[.agg #[.bool f'.p.neg, .slice f'.p.A f'.p.n f'.p.c, .bool f'.l.neg, .slice f'.l.A f'.l.n f'.l.c], .int .i64 4])) _) := Lib.hid (.inr ⟨by rw [HK3.out, HK4.out]; exact HIN.out, hp⟩)
          clear hp hO5
          go_wp2
          exact bodyPost_ret (v := .tuple #[.agg #[.bool f'.p.neg, .slice f'.p.A f'.p.n f'.p.c, .bool f'.l.neg, .slice f'.l.A f'.l.n f'.l.c], .int .i64 4]) (by simp [results, Tryz.results73, go_sem, q0, q1, q2, q3]) rfl HP.out
end Go.Proofs.YtfbbnphpapmpcaaGreatDoor
