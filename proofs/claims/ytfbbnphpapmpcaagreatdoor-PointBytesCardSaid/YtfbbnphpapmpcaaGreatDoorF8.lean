/-
  Contracts of package frac: Add.
-/
import Derived.Test.YtfbbnphpapmpcaaGreatDoorF6
namespace Go.Proofs.YtfbbnphpapmpcaaGreatDoor
open Go.RowKit Mag

theorem mk_scale {a b k : Int} (hk : 0 < k) : mkP (a * k) (b * k) = mkP a b ∧ mkQ (a * k) (b * k) = mkQ a b := by
  unfold mkP mkQ
  have hk0 : k ≠ 0 := by omega
  rw [Int.gcd_mul_right, Int.sign_mul, Int.sign_eq_one_of_pos hk, Int.mul_one, Int.natAbs_mul, Int.natCast_mul, Int.natCast_mul, Int.natAbs_of_nonneg (by omega : 0 ≤ k)]
  constructor
  · rw [← Int.mul_assoc, Int.mul_ediv_mul_of_pos_left _ _ hk]
  · rw [Int.mul_ediv_mul_of_pos_left _ _ hk]
theorem add_frac {p q r s : Int} (hq : 0 < q) (hs : 0 < s) :
    0 < q / (Int.gcd q s : Nat) * s ∧ mkP (p * (s / (Int.gcd q s : Nat)) + r * (q / (Int.gcd q s : Nat))) (q / (Int.gcd q s : Nat) * s) = mkP (p * s + r * q) (q * s) ∧
      mkQ (p * (s / (Int.gcd q s : Nat)) + r * (q / (Int.gcd q s : Nat))) (q / (Int.gcd q s : Nat) * s) = mkQ (p * s + r * q) (q * s) := by
  have g1 : 0 < Int.gcd q s := Int.gcd_pos_of_ne_zero_right _ (by omega)
  have a1 := Int.gcd_dvd_left q s
  have a2 := Int.gcd_dvd_right q s
  generalize Int.gcd q s = G at *
  obtain ⟨a, ha⟩ := a1
  obtain ⟨b, hb⟩ := a2
  have z1 : (G : Int) ≠ 0 := by omega
  have ea : q / (G : Int) = a := by rw [ha, Int.mul_ediv_cancel_left _ z1]
  have eb : s / (G : Int) = b := by rw [hb, Int.mul_ediv_cancel_left _ z1]
  rw [ea, eb]
  have ha0 : 0 < a := by
    rw [ha] at hq
    exact Int.pos_of_mul_pos_right hq (by omega)
  obtain ⟨m1, m2⟩ := mk_scale (a := p * b + r * a) (b := a * s) (k := G) (by omega)
  have e1 : (p * b + r * a) * G = p * s + r * q := by rw [ha, hb]; grind
  have e2 : a * s * G = q * s := by rw [ha]; grind
  rw [e1, e2] at m1 m2
  exact ⟨Int.mul_pos ha0 hs, m1.symm, m2.symm⟩
/-- What holds when the operations L of the region have come up. -/
structure AddR1 (L : Array Bool) (W : World) (f g : FV) (q s : Int) (s15 s16 s17 s18 s19 s6 : Value) (w : World) : Prop where
  bel : Below W.heap.size W w
  p0 : done L 0 → s15 = .agg #[.bool f.p.neg, .slice f.p.A f.p.n f.p.c, .bool f.l.neg, .slice f.l.A f.l.n f.l.c]
  c1 : done L 1 → IsI w s16 q
  p2 : done L 2 → s17 = .agg #[.bool g.p.neg, .slice g.p.A g.p.n g.p.c, .bool g.l.neg, .slice g.l.A g.l.n g.l.c]
  c3 : done L 3 → IsI w s18 s
  c4 : done L 4 → IsI w s19 (Int.gcd q s : Nat)
  a5 : done L 5 → BoxAt W w 29 s6 (done L 6) s19
  e6 : done L 6 → done L 5 ∧ done L 4
theorem AddR1.up {L : Array Bool} {W : World} {f g : FV} {q s : Int} {s15 s16 s17 s18 s19 s6 : Value} {w : World} (h : AddR1 L W f g q s s15 s16 s17 s18 s19 s6 w) {w' : World} (hb : Below w.heap.size w w') : AddR1 L W f g q s s15 s16 s17 s18 s19 s6 w' :=
  ⟨Below.call h.bel hb, h.p0, fun d => (h.c1 d).on hb, h.p2, fun d => (h.c3 d).on hb, fun d => (h.c4 d).on hb, fun d => (h.a5 d).on hb, h.e6⟩
theorem AddR1.set0 {L : Array Bool} {W : World} {f g : FV} {q s : Int} {s15 s16 s17 s18 s19 s6 : Value} {w : World} (h : AddR1 L W f g q s s15 s16 s17 s18 s19 s6 w) (_hk : ¬ done L 0) {v : Value} (hv : v = .agg #[.bool f.p.neg, .slice f.p.A f.p.n f.p.c, .bool f.l.neg, .slice f.l.A f.l.n f.l.c]) : AddR1 (L.setIfInBounds 0 true) W f g q s v s16 s17 s18 s19 s6 w :=
  ⟨h.bel, fun _ => hv, fun d => h.c1 (done_set d (by decide)), fun d => h.p2 (done_set d (by decide)), fun d => h.c3 (done_set d (by decide)), fun d => h.c4 (done_set d (by decide)), fun d => (h.a5 (done_set d (by decide))).imp (fun x => done_set x (by decide)), fun d => ⟨done_up (h.e6 (done_set d (by decide))).1, done_up (h.e6 (done_set d (by decide))).2⟩⟩
theorem AddR1.set1 {L : Array Bool} {W : World} {f g : FV} {q s : Int} {s15 s16 s17 s18 s19 s6 : Value} {w : World} (h : AddR1 L W f g q s s15 s16 s17 s18 s19 s6 w) (_hk : ¬ done L 1) {v : Value} (hv : IsI w v q) : AddR1 (L.setIfInBounds 1 true) W f g q s s15 v s17 s18 s19 s6 w :=
  ⟨h.bel, fun d => h.p0 (done_set d (by decide)), fun _ => hv, fun d => h.p2 (done_set d (by decide)), fun d => h.c3 (done_set d (by decide)), fun d => h.c4 (done_set d (by decide)), fun d => (h.a5 (done_set d (by decide))).imp (fun x => done_set x (by decide)), fun d => ⟨done_up (h.e6 (done_set d (by decide))).1, done_up (h.e6 (done_set d (by decide))).2⟩⟩
theorem AddR1.set2 {L : Array Bool} {W : World} {f g : FV} {q s : Int} {s15 s16 s17 s18 s19 s6 : Value} {w : World} (h : AddR1 L W f g q s s15 s16 s17 s18 s19 s6 w) (_hk : ¬ done L 2) {v : Value} (hv : v = .agg #[.bool g.p.neg, .slice g.p.A g.p.n g.p.c, .bool g.l.neg, .slice g.l.A g.l.n g.l.c]) : AddR1 (L.setIfInBounds 2 true) W f g q s s15 s16 v s18 s19 s6 w :=
  ⟨h.bel, fun d => h.p0 (done_set d (by decide)), fun d => h.c1 (done_set d (by decide)), fun _ => hv, fun d => h.c3 (done_set d (by decide)), fun d => h.c4 (done_set d (by decide)), fun d => (h.a5 (done_set d (by decide))).imp (fun x => done_set x (by decide)), fun d => ⟨done_up (h.e6 (done_set d (by decide))).1, done_up (h.e6 (done_set d (by decide))).2⟩⟩
theorem AddR1.set3 {L : Array Bool} {W : World} {f g : FV} {q s : Int} {s15 s16 s17 s18 s19 s6 : Value} {w : World} (h : AddR1 L W f g q s s15 s16 s17 s18 s19 s6 w) (_hk : ¬ done L 3) {v : Value} (hv : IsI w v s) : AddR1 (L.setIfInBounds 3 true) W f g q s s15 s16 s17 v s19 s6 w :=
  ⟨h.bel, fun d => h.p0 (done_set d (by decide)), fun d => h.c1 (done_set d (by decide)), fun d => h.p2 (done_set d (by decide)), fun _ => hv, fun d => h.c4 (done_set d (by decide)), fun d => (h.a5 (done_set d (by decide))).imp (fun x => done_set x (by decide)), fun d => ⟨done_up (h.e6 (done_set d (by decide))).1, done_up (h.e6 (done_set d (by decide))).2⟩⟩
theorem AddR1.set4 {L : Array Bool} {W : World} {f g : FV} {q s : Int} {s15 s16 s17 s18 s19 s6 : Value} {w : World} (h : AddR1 L W f g q s s15 s16 s17 s18 s19 s6 w) (hk : ¬ done L 4) {v : Value} (hv : IsI w v (Int.gcd q s : Nat)) : AddR1 (L.setIfInBounds 4 true) W f g q s s15 s16 s17 s18 v s6 w :=
  ⟨h.bel, fun d => h.p0 (done_set d (by decide)), fun d => h.c1 (done_set d (by decide)), fun d => h.p2 (done_set d (by decide)), fun d => h.c3 (done_set d (by decide)), fun _ => hv, fun d => (h.a5 (done_set d (by decide))).resrc (fun x => hk (h.e6 (done_set x (by decide))).2), fun d => ⟨done_up (h.e6 (done_set d (by decide))).1, done_up (h.e6 (done_set d (by decide))).2⟩⟩
theorem AddR1.set5 {L : Array Bool} {W : World} {f g : FV} {q s : Int} {s15 s16 s17 s18 s19 s6 : Value} {w : World} (h : AddR1 L W f g q s s15 s16 s17 s18 s19 s6 w) (hk : ¬ done L 5) : AddR1 (L.setIfInBounds 5 true) W f g q s s15 s16 s17 s18 s19 (.pointer (some ⟨w.heap.size, 0, none⟩)) (w.alloc (.cells #[.bool false, .slice none 0 0] 29)) :=
  have h' := h.up (below_new w (.cells #[.bool false, .slice none 0 0] 29))
  ⟨h'.bel, fun d => h'.p0 (done_set d (by decide)), fun d => h'.c1 (done_set d (by decide)), fun d => h'.p2 (done_set d (by decide)), fun d => h'.c3 (done_set d (by decide)), fun d => h'.c4 (done_set d (by decide)), fun _ => BoxAt.new h.bel.size (fun x => hk (h.e6 (done_set x (by decide))).1), fun d => ⟨done_up (h.e6 (done_set d (by decide))).1, done_up (h.e6 (done_set d (by decide))).2⟩⟩
theorem AddR1.set6 {L : Array Bool} {W : World} {f g : FV} {q s : Int} {s15 s16 s17 s18 s19 s6 : Value} {w : World} (h : AddR1 L W f g q s s15 s16 s17 s18 s19 s6 w) (da : done L 5) (ds : done L 4) {x : IV} {gb : Nat} {c0 c1 : Value} (es : s6 = .pointer (some ⟨gb, 0, none⟩)) (ex : s19 = .agg #[.bool x.neg, .slice x.A x.n x.c]) (hgb : W.heap.size ≤ gb) (hO : Own w gb 29 [c0, c1]) (h0 : ∀ n, c0 ≠ .int .u32 n) (h1 : ∀ n, c1 ≠ .int .u32 n) :
    AddR1 (L.setIfInBounds 6 true) W f g q s s15 s16 s17 s18 s19 s6 ((w.setCell ⟨gb, 0, none⟩ (.bool x.neg)).setCell ⟨gb, 1, none⟩ (.slice x.A x.n x.c)) :=
  ⟨Below.put2 h.bel hgb _ _, fun d => h.p0 (done_set d (by decide)), fun d => (h.c1 (done_set d (by decide))).put2 hO h0 h1 _ _, fun d => h.p2 (done_set d (by decide)), fun d => (h.c3 (done_set d (by decide))).put2 hO h0 h1 _ _, fun d => (h.c4 (done_set d (by decide))).put2 hO h0 h1 _ _, fun _ => ⟨gb, _, _, es, hgb, hO.put2 _ _, by simp, by simp, fun _ => ex⟩, fun _ => ⟨done_up da, done_up ds⟩⟩
theorem AddR1.start {W : World} {f g : FV} {q s : Int} {s15 s16 s17 s18 s19 s6 : Value} : AddR1 (Array.replicate 7 false) W f g q s s15 s16 s17 s18 s19 s6 W.drew :=
  ⟨Below.drew (Below.refl _ _), fun d => absurd d (done_none _ _), fun d => absurd d (done_none _ _), fun d => absurd d (done_none _ _), fun d => absurd d (done_none _ _), fun d => absurd d (done_none _ _), fun d => absurd d (done_none _ _), fun d => absurd d (done_none _ _)⟩
/-- The same of a frame. -/
def AddR1J (W : World) (f g : FV) (q s : Int) (b1 b2 b3 : Nat) (L : Array Bool) (ac : Act) (wx : World) : Prop := ∃ s15 s16 s17 s18 s19 s6 : Value, ac = { tmps := #[.agg #[.bool f.p.neg, .slice f.p.A f.p.n f.p.c, .bool f.l.neg, .slice f.l.A f.l.n f.l.c], .agg #[.bool g.p.neg, .slice g.p.A g.p.n g.p.c, .bool g.l.neg, .slice g.l.A g.l.n g.l.c], .pointer (some ⟨b1, 0, none⟩), .pointer (some ⟨b2, 0, none⟩), .pointer (some ⟨b3, 0, none⟩), .int .i64 0, s6, undef, undef, undef, undef, undef, undef, undef, undef, s15, s16, s17, s18, s19, undef, undef, undef, undef, undef, undef, undef, undef, undef, undef, undef, undef, undef, undef, undef, undef, undef, undef, undef, undef, undef, undef, undef, undef, undef, undef, undef, undef, undef, undef, undef, undef, undef, undef, undef, undef, undef, undef, undef, undef, undef, undef, undef, undef, undef, undef, undef, undef, undef, undef, undef, undef, undef, undef, undef, undef, undef, undef, undef], defers := [] } ∧ L.size = 7 ∧ AddR1 L W f g q s s15 s16 s17 s18 s19 s6 wx
/-- What holds when the operations L of the region have come up. -/
structure AddR2 (L : Array Bool) (W : World) (f g : FV) (A : IV) (zn zd z1 : Int) (b : Nat) (s21 s22 s23 s24 s25 s26 s27 s28 s20 s29 s30 s7 s8 : Value) (w : World) : Prop where
  bel : Below W.heap.size W w
  p0 : done L 0 → s21 = .pointer (some ⟨b, 0, none⟩)
  p1 : done L 1 → s22 = .agg #[.bool f.p.neg, .slice f.p.A f.p.n f.p.c]
  p2 : done L 2 → s23 = .agg #[.bool g.p.neg, .slice g.p.A g.p.n g.p.c, .bool g.l.neg, .slice g.l.A g.l.n g.l.c]
  c3 : done L 3 → IsI w s24 zd
  p4 : done L 4 → s25 = .agg #[.bool A.neg, .slice A.A A.n A.c]
  c5 : done L 5 → IsI w s26 z1
  c6 : done L 6 → IsSl w s27 zn z1
  c7 : done L 7 → IsTE w s28 (clip (zn * z1)) (lim (zn * z1))
  c8 : done L 8 → IsTE w s20 (clip (zn * z1)) (lim (zn * z1))
  c9 : done L 9 → IsI w s29 (clip (zn * z1))
  p10 : done L 10 → s30 = .int .i64 (lim (zn * z1))
  a11 : done L 11 → BoxAt W w 29 s7 (done L 12) s29
  e12 : done L 12 → done L 11 ∧ done L 9
  p13 : done L 13 → s8 = .int .i64 (lim (zn * z1))
theorem AddR2.up {L : Array Bool} {W : World} {f g : FV} {A : IV} {zn zd z1 : Int} {b : Nat} {s21 s22 s23 s24 s25 s26 s27 s28 s20 s29 s30 s7 s8 : Value} {w : World} (h : AddR2 L W f g A zn zd z1 b s21 s22 s23 s24 s25 s26 s27 s28 s20 s29 s30 s7 s8 w) {w' : World} (hb : Below w.heap.size w w') : AddR2 L W f g A zn zd z1 b s21 s22 s23 s24 s25 s26 s27 s28 s20 s29 s30 s7 s8 w' :=
  ⟨Below.call h.bel hb, h.p0, h.p1, h.p2, fun d => (h.c3 d).on hb, h.p4, fun d => (h.c5 d).on hb, fun d => (h.c6 d).on hb, fun d => (h.c7 d).on hb, fun d => (h.c8 d).on hb, fun d => (h.c9 d).on hb, h.p10, fun d => (h.a11 d).on hb, h.e12, h.p13⟩
theorem AddR2.set0 {L : Array Bool} {W : World} {f g : FV} {A : IV} {zn zd z1 : Int} {b : Nat} {s21 s22 s23 s24 s25 s26 s27 s28 s20 s29 s30 s7 s8 : Value} {w : World} (h : AddR2 L W f g A zn zd z1 b s21 s22 s23 s24 s25 s26 s27 s28 s20 s29 s30 s7 s8 w) (_hk : ¬ done L 0) {v : Value} (hv : v = .pointer (some ⟨b, 0, none⟩)) : AddR2 (L.setIfInBounds 0 true) W f g A zn zd z1 b v s22 s23 s24 s25 s26 s27 s28 s20 s29 s30 s7 s8 w :=
  ⟨h.bel, fun _ => hv, fun d => h.p1 (done_set d (by decide)), fun d => h.p2 (done_set d (by decide)), fun d => h.c3 (done_set d (by decide)), fun d => h.p4 (done_set d (by decide)), fun d => h.c5 (done_set d (by decide)), fun d => h.c6 (done_set d (by decide)), fun d => h.c7 (done_set d (by decide)), fun d => h.c8 (done_set d (by decide)), fun d => h.c9 (done_set d (by decide)), fun d => h.p10 (done_set d (by decide)), fun d => (h.a11 (done_set d (by decide))).imp (fun x => done_set x (by decide)), fun d => ⟨done_up (h.e12 (done_set d (by decide))).1, done_up (h.e12 (done_set d (by decide))).2⟩, fun d => h.p13 (done_set d (by decide))⟩
theorem AddR2.set1 {L : Array Bool} {W : World} {f g : FV} {A : IV} {zn zd z1 : Int} {b : Nat} {s21 s22 s23 s24 s25 s26 s27 s28 s20 s29 s30 s7 s8 : Value} {w : World} (h : AddR2 L W f g A zn zd z1 b s21 s22 s23 s24 s25 s26 s27 s28 s20 s29 s30 s7 s8 w) (_hk : ¬ done L 1) {v : Value} (hv : v = .agg #[.bool f.p.neg, .slice f.p.A f.p.n f.p.c]) : AddR2 (L.setIfInBounds 1 true) W f g A zn zd z1 b s21 v s23 s24 s25 s26 s27 s28 s20 s29 s30 s7 s8 w :=
  ⟨h.bel, fun d => h.p0 (done_set d (by decide)), fun _ => hv, fun d => h.p2 (done_set d (by decide)), fun d => h.c3 (done_set d (by decide)), fun d => h.p4 (done_set d (by decide)), fun d => h.c5 (done_set d (by decide)), fun d => h.c6 (done_set d (by decide)), fun d => h.c7 (done_set d (by decide)), fun d => h.c8 (done_set d (by decide)), fun d => h.c9 (done_set d (by decide)), fun d => h.p10 (done_set d (by decide)), fun d => (h.a11 (done_set d (by decide))).imp (fun x => done_set x (by decide)), fun d => ⟨done_up (h.e12 (done_set d (by decide))).1, done_up (h.e12 (done_set d (by decide))).2⟩, fun d => h.p13 (done_set d (by decide))⟩
theorem AddR2.set2 {L : Array Bool} {W : World} {f g : FV} {A : IV} {zn zd z1 : Int} {b : Nat} {s21 s22 s23 s24 s25 s26 s27 s28 s20 s29 s30 s7 s8 : Value} {w : World} (h : AddR2 L W f g A zn zd z1 b s21 s22 s23 s24 s25 s26 s27 s28 s20 s29 s30 s7 s8 w) (_hk : ¬ done L 2) {v : Value} (hv : v = .agg #[.bool g.p.neg, .slice g.p.A g.p.n g.p.c, .bool g.l.neg, .slice g.l.A g.l.n g.l.c]) : AddR2 (L.setIfInBounds 2 true) W f g A zn zd z1 b s21 s22 v s24 s25 s26 s27 s28 s20 s29 s30 s7 s8 w :=
  ⟨h.bel, fun d => h.p0 (done_set d (by decide)), fun d => h.p1 (done_set d (by decide)), fun _ => hv, fun d => h.c3 (done_set d (by decide)), fun d => h.p4 (done_set d (by decide)), fun d => h.c5 (done_set d (by decide)), fun d => h.c6 (done_set d (by decide)), fun d => h.c7 (done_set d (by decide)), fun d => h.c8 (done_set d (by decide)), fun d => h.c9 (done_set d (by decide)), fun d => h.p10 (done_set d (by decide)), fun d => (h.a11 (done_set d (by decide))).imp (fun x => done_set x (by decide)), fun d => ⟨done_up (h.e12 (done_set d (by decide))).1, done_up (h.e12 (done_set d (by decide))).2⟩, fun d => h.p13 (done_set d (by decide))⟩
theorem AddR2.set3 {L : Array Bool} {W : World} {f g : FV} {A : IV} {zn zd z1 : Int} {b : Nat} {s21 s22 s23 s24 s25 s26 s27 s28 s20 s29 s30 s7 s8 : Value} {w : World} (h : AddR2 L W f g A zn zd z1 b s21 s22 s23 s24 s25 s26 s27 s28 s20 s29 s30 s7 s8 w) (_hk : ¬ done L 3) {v : Value} (hv : IsI w v zd) : AddR2 (L.setIfInBounds 3 true) W f g A zn zd z1 b s21 s22 s23 v s25 s26 s27 s28 s20 s29 s30 s7 s8 w :=
  ⟨h.bel, fun d => h.p0 (done_set d (by decide)), fun d => h.p1 (done_set d (by decide)), fun d => h.p2 (done_set d (by decide)), fun _ => hv, fun d => h.p4 (done_set d (by decide)), fun d => h.c5 (done_set d (by decide)), fun d => h.c6 (done_set d (by decide)), fun d => h.c7 (done_set d (by decide)), fun d => h.c8 (done_set d (by decide)), fun d => h.c9 (done_set d (by decide)), fun d => h.p10 (done_set d (by decide)), fun d => (h.a11 (done_set d (by decide))).imp (fun x => done_set x (by decide)), fun d => ⟨done_up (h.e12 (done_set d (by decide))).1, done_up (h.e12 (done_set d (by decide))).2⟩, fun d => h.p13 (done_set d (by decide))⟩
theorem AddR2.set4 {L : Array Bool} {W : World} {f g : FV} {A : IV} {zn zd z1 : Int} {b : Nat} {s21 s22 s23 s24 s25 s26 s27 s28 s20 s29 s30 s7 s8 : Value} {w : World} (h : AddR2 L W f g A zn zd z1 b s21 s22 s23 s24 s25 s26 s27 s28 s20 s29 s30 s7 s8 w) (_hk : ¬ done L 4) {v : Value} (hv : v = .agg #[.bool A.neg, .slice A.A A.n A.c]) : AddR2 (L.setIfInBounds 4 true) W f g A zn zd z1 b s21 s22 s23 s24 v s26 s27 s28 s20 s29 s30 s7 s8 w :=
  ⟨h.bel, fun d => h.p0 (done_set d (by decide)), fun d => h.p1 (done_set d (by decide)), fun d => h.p2 (done_set d (by decide)), fun d => h.c3 (done_set d (by decide)), fun _ => hv, fun d => h.c5 (done_set d (by decide)), fun d => h.c6 (done_set d (by decide)), fun d => h.c7 (done_set d (by decide)), fun d => h.c8 (done_set d (by decide)), fun d => h.c9 (done_set d (by decide)), fun d => h.p10 (done_set d (by decide)), fun d => (h.a11 (done_set d (by decide))).imp (fun x => done_set x (by decide)), fun d => ⟨done_up (h.e12 (done_set d (by decide))).1, done_up (h.e12 (done_set d (by decide))).2⟩, fun d => h.p13 (done_set d (by decide))⟩
theorem AddR2.set5 {L : Array Bool} {W : World} {f g : FV} {A : IV} {zn zd z1 : Int} {b : Nat} {s21 s22 s23 s24 s25 s26 s27 s28 s20 s29 s30 s7 s8 : Value} {w : World} (h : AddR2 L W f g A zn zd z1 b s21 s22 s23 s24 s25 s26 s27 s28 s20 s29 s30 s7 s8 w) (_hk : ¬ done L 5) {v : Value} (hv : IsI w v z1) : AddR2 (L.setIfInBounds 5 true) W f g A zn zd z1 b s21 s22 s23 s24 s25 v s27 s28 s20 s29 s30 s7 s8 w :=
  ⟨h.bel, fun d => h.p0 (done_set d (by decide)), fun d => h.p1 (done_set d (by decide)), fun d => h.p2 (done_set d (by decide)), fun d => h.c3 (done_set d (by decide)), fun d => h.p4 (done_set d (by decide)), fun _ => hv, fun d => h.c6 (done_set d (by decide)), fun d => h.c7 (done_set d (by decide)), fun d => h.c8 (done_set d (by decide)), fun d => h.c9 (done_set d (by decide)), fun d => h.p10 (done_set d (by decide)), fun d => (h.a11 (done_set d (by decide))).imp (fun x => done_set x (by decide)), fun d => ⟨done_up (h.e12 (done_set d (by decide))).1, done_up (h.e12 (done_set d (by decide))).2⟩, fun d => h.p13 (done_set d (by decide))⟩
theorem AddR2.set6 {L : Array Bool} {W : World} {f g : FV} {A : IV} {zn zd z1 : Int} {b : Nat} {s21 s22 s23 s24 s25 s26 s27 s28 s20 s29 s30 s7 s8 : Value} {w : World} (h : AddR2 L W f g A zn zd z1 b s21 s22 s23 s24 s25 s26 s27 s28 s20 s29 s30 s7 s8 w) (_hk : ¬ done L 6) {v : Value} (hv : IsSl w v zn z1) : AddR2 (L.setIfInBounds 6 true) W f g A zn zd z1 b s21 s22 s23 s24 s25 s26 v s28 s20 s29 s30 s7 s8 w :=
  ⟨h.bel, fun d => h.p0 (done_set d (by decide)), fun d => h.p1 (done_set d (by decide)), fun d => h.p2 (done_set d (by decide)), fun d => h.c3 (done_set d (by decide)), fun d => h.p4 (done_set d (by decide)), fun d => h.c5 (done_set d (by decide)), fun _ => hv, fun d => h.c7 (done_set d (by decide)), fun d => h.c8 (done_set d (by decide)), fun d => h.c9 (done_set d (by decide)), fun d => h.p10 (done_set d (by decide)), fun d => (h.a11 (done_set d (by decide))).imp (fun x => done_set x (by decide)), fun d => ⟨done_up (h.e12 (done_set d (by decide))).1, done_up (h.e12 (done_set d (by decide))).2⟩, fun d => h.p13 (done_set d (by decide))⟩
theorem AddR2.set7 {L : Array Bool} {W : World} {f g : FV} {A : IV} {zn zd z1 : Int} {b : Nat} {s21 s22 s23 s24 s25 s26 s27 s28 s20 s29 s30 s7 s8 : Value} {w : World} (h : AddR2 L W f g A zn zd z1 b s21 s22 s23 s24 s25 s26 s27 s28 s20 s29 s30 s7 s8 w) (_hk : ¬ done L 7) {v : Value} (hv : IsTE w v (clip (zn * z1)) (lim (zn * z1))) : AddR2 (L.setIfInBounds 7 true) W f g A zn zd z1 b s21 s22 s23 s24 s25 s26 s27 v s20 s29 s30 s7 s8 w :=
  ⟨h.bel, fun d => h.p0 (done_set d (by decide)), fun d => h.p1 (done_set d (by decide)), fun d => h.p2 (done_set d (by decide)), fun d => h.c3 (done_set d (by decide)), fun d => h.p4 (done_set d (by decide)), fun d => h.c5 (done_set d (by decide)), fun d => h.c6 (done_set d (by decide)), fun _ => hv, fun d => h.c8 (done_set d (by decide)), fun d => h.c9 (done_set d (by decide)), fun d => h.p10 (done_set d (by decide)), fun d => (h.a11 (done_set d (by decide))).imp (fun x => done_set x (by decide)), fun d => ⟨done_up (h.e12 (done_set d (by decide))).1, done_up (h.e12 (done_set d (by decide))).2⟩, fun d => h.p13 (done_set d (by decide))⟩
theorem AddR2.set8 {L : Array Bool} {W : World} {f g : FV} {A : IV} {zn zd z1 : Int} {b : Nat} {s21 s22 s23 s24 s25 s26 s27 s28 s20 s29 s30 s7 s8 : Value} {w : World} (h : AddR2 L W f g A zn zd z1 b s21 s22 s23 s24 s25 s26 s27 s28 s20 s29 s30 s7 s8 w) (_hk : ¬ done L 8) {v : Value} (hv : IsTE w v (clip (zn * z1)) (lim (zn * z1))) : AddR2 (L.setIfInBounds 8 true) W f g A zn zd z1 b s21 s22 s23 s24 s25 s26 s27 s28 v s29 s30 s7 s8 w :=
  ⟨h.bel, fun d => h.p0 (done_set d (by decide)), fun d => h.p1 (done_set d (by decide)), fun d => h.p2 (done_set d (by decide)), fun d => h.c3 (done_set d (by decide)), fun d => h.p4 (done_set d (by decide)), fun d => h.c5 (done_set d (by decide)), fun d => h.c6 (done_set d (by decide)), fun d => h.c7 (done_set d (by decide)), fun _ => hv, fun d => h.c9 (done_set d (by decide)), fun d => h.p10 (done_set d (by decide)), fun d => (h.a11 (done_set d (by decide))).imp (fun x => done_set x (by decide)), fun d => ⟨done_up (h.e12 (done_set d (by decide))).1, done_up (h.e12 (done_set d (by decide))).2⟩, fun d => h.p13 (done_set d (by decide))⟩
theorem AddR2.set9 {L : Array Bool} {W : World} {f g : FV} {A : IV} {zn zd z1 : Int} {b : Nat} {s21 s22 s23 s24 s25 s26 s27 s28 s20 s29 s30 s7 s8 : Value} {w : World} (h : AddR2 L W f g A zn zd z1 b s21 s22 s23 s24 s25 s26 s27 s28 s20 s29 s30 s7 s8 w) (hk : ¬ done L 9) {v : Value} (hv : IsI w v (clip (zn * z1))) : AddR2 (L.setIfInBounds 9 true) W f g A zn zd z1 b s21 s22 s23 s24 s25 s26 s27 s28 s20 v s30 s7 s8 w :=
  ⟨h.bel, fun d => h.p0 (done_set d (by decide)), fun d => h.p1 (done_set d (by decide)), fun d => h.p2 (done_set d (by decide)), fun d => h.c3 (done_set d (by decide)), fun d => h.p4 (done_set d (by decide)), fun d => h.c5 (done_set d (by decide)), fun d => h.c6 (done_set d (by decide)), fun d => h.c7 (done_set d (by decide)), fun d => h.c8 (done_set d (by decide)), fun _ => hv, fun d => h.p10 (done_set d (by decide)), fun d => (h.a11 (done_set d (by decide))).resrc (fun x => hk (h.e12 (done_set x (by decide))).2), fun d => ⟨done_up (h.e12 (done_set d (by decide))).1, done_up (h.e12 (done_set d (by decide))).2⟩, fun d => h.p13 (done_set d (by decide))⟩
theorem AddR2.set10 {L : Array Bool} {W : World} {f g : FV} {A : IV} {zn zd z1 : Int} {b : Nat} {s21 s22 s23 s24 s25 s26 s27 s28 s20 s29 s30 s7 s8 : Value} {w : World} (h : AddR2 L W f g A zn zd z1 b s21 s22 s23 s24 s25 s26 s27 s28 s20 s29 s30 s7 s8 w) (_hk : ¬ done L 10) {v : Value} (hv : v = .int .i64 (lim (zn * z1))) : AddR2 (L.setIfInBounds 10 true) W f g A zn zd z1 b s21 s22 s23 s24 s25 s26 s27 s28 s20 s29 v s7 s8 w :=
  ⟨h.bel, fun d => h.p0 (done_set d (by decide)), fun d => h.p1 (done_set d (by decide)), fun d => h.p2 (done_set d (by decide)), fun d => h.c3 (done_set d (by decide)), fun d => h.p4 (done_set d (by decide)), fun d => h.c5 (done_set d (by decide)), fun d => h.c6 (done_set d (by decide)), fun d => h.c7 (done_set d (by decide)), fun d => h.c8 (done_set d (by decide)), fun d => h.c9 (done_set d (by decide)), fun _ => hv, fun d => (h.a11 (done_set d (by decide))).imp (fun x => done_set x (by decide)), fun d => ⟨done_up (h.e12 (done_set d (by decide))).1, done_up (h.e12 (done_set d (by decide))).2⟩, fun d => h.p13 (done_set d (by decide))⟩
theorem AddR2.set11 {L : Array Bool} {W : World} {f g : FV} {A : IV} {zn zd z1 : Int} {b : Nat} {s21 s22 s23 s24 s25 s26 s27 s28 s20 s29 s30 s7 s8 : Value} {w : World} (h : AddR2 L W f g A zn zd z1 b s21 s22 s23 s24 s25 s26 s27 s28 s20 s29 s30 s7 s8 w) (hk : ¬ done L 11) : AddR2 (L.setIfInBounds 11 true) W f g A zn zd z1 b s21 s22 s23 s24 s25 s26 s27 s28 s20 s29 s30 (.pointer (some ⟨w.heap.size, 0, none⟩)) s8 (w.alloc (.cells #[.bool false, .slice none 0 0] 29)) :=
  have h' := h.up (below_new w (.cells #[.bool false, .slice none 0 0] 29))
  ⟨h'.bel, fun d => h'.p0 (done_set d (by decide)), fun d => h'.p1 (done_set d (by decide)), fun d => h'.p2 (done_set d (by decide)), fun d => h'.c3 (done_set d (by decide)), fun d => h'.p4 (done_set d (by decide)), fun d => h'.c5 (done_set d (by decide)), fun d => h'.c6 (done_set d (by decide)), fun d => h'.c7 (done_set d (by decide)), fun d => h'.c8 (done_set d (by decide)), fun d => h'.c9 (done_set d (by decide)), fun d => h'.p10 (done_set d (by decide)), fun _ => BoxAt.new h.bel.size (fun x => hk (h.e12 (done_set x (by decide))).1), fun d => ⟨done_up (h.e12 (done_set d (by decide))).1, done_up (h.e12 (done_set d (by decide))).2⟩, fun d => h'.p13 (done_set d (by decide))⟩
theorem AddR2.set12 {L : Array Bool} {W : World} {f g : FV} {A : IV} {zn zd z1 : Int} {b : Nat} {s21 s22 s23 s24 s25 s26 s27 s28 s20 s29 s30 s7 s8 : Value} {w : World} (h : AddR2 L W f g A zn zd z1 b s21 s22 s23 s24 s25 s26 s27 s28 s20 s29 s30 s7 s8 w) (da : done L 11) (ds : done L 9) {x : IV} {gb : Nat} {c0 c1 : Value} (es : s7 = .pointer (some ⟨gb, 0, none⟩)) (ex : s29 = .agg #[.bool x.neg, .slice x.A x.n x.c]) (hgb : W.heap.size ≤ gb) (hO : Own w gb 29 [c0, c1]) (h0 : ∀ n, c0 ≠ .int .u32 n) (h1 : ∀ n, c1 ≠ .int .u32 n) :
    AddR2 (L.setIfInBounds 12 true) W f g A zn zd z1 b s21 s22 s23 s24 s25 s26 s27 s28 s20 s29 s30 s7 s8 ((w.setCell ⟨gb, 0, none⟩ (.bool x.neg)).setCell ⟨gb, 1, none⟩ (.slice x.A x.n x.c)) :=
  ⟨Below.put2 h.bel hgb _ _, fun d => h.p0 (done_set d (by decide)), fun d => h.p1 (done_set d (by decide)), fun d => h.p2 (done_set d (by decide)), fun d => (h.c3 (done_set d (by decide))).put2 hO h0 h1 _ _, fun d => h.p4 (done_set d (by decide)), fun d => (h.c5 (done_set d (by decide))).put2 hO h0 h1 _ _, fun d => (h.c6 (done_set d (by decide))).put2 hO h0 h1 _ _, fun d => (h.c7 (done_set d (by decide))).put2 hO h0 h1 _ _, fun d => (h.c8 (done_set d (by decide))).put2 hO h0 h1 _ _, fun d => (h.c9 (done_set d (by decide))).put2 hO h0 h1 _ _, fun d => h.p10 (done_set d (by decide)), fun _ => ⟨gb, _, _, es, hgb, hO.put2 _ _, by simp, by simp, fun _ => ex⟩, fun _ => ⟨done_up da, done_up ds⟩, fun d => h.p13 (done_set d (by decide))⟩
theorem AddR2.set13 {L : Array Bool} {W : World} {f g : FV} {A : IV} {zn zd z1 : Int} {b : Nat} {s21 s22 s23 s24 s25 s26 s27 s28 s20 s29 s30 s7 s8 : Value} {w : World} (h : AddR2 L W f g A zn zd z1 b s21 s22 s23 s24 s25 s26 s27 s28 s20 s29 s30 s7 s8 w) (_hk : ¬ done L 13) {v : Value} (hv : v = .int .i64 (lim (zn * z1))) : AddR2 (L.setIfInBounds 13 true) W f g A zn zd z1 b s21 s22 s23 s24 s25 s26 s27 s28 s20 s29 s30 s7 v w :=
  ⟨h.bel, fun d => h.p0 (done_set d (by decide)), fun d => h.p1 (done_set d (by decide)), fun d => h.p2 (done_set d (by decide)), fun d => h.c3 (done_set d (by decide)), fun d => h.p4 (done_set d (by decide)), fun d => h.c5 (done_set d (by decide)), fun d => h.c6 (done_set d (by decide)), fun d => h.c7 (done_set d (by decide)), fun d => h.c8 (done_set d (by decide)), fun d => h.c9 (done_set d (by decide)), fun d => h.p10 (done_set d (by decide)), fun d => (h.a11 (done_set d (by decide))).imp (fun x => done_set x (by decide)), fun d => ⟨done_up (h.e12 (done_set d (by decide))).1, done_up (h.e12 (done_set d (by decide))).2⟩, fun _ => hv⟩
theorem AddR2.start {W : World} {f g : FV} {A : IV} {zn zd z1 : Int} {b : Nat} {s21 s22 s23 s24 s25 s26 s27 s28 s20 s29 s30 s7 s8 : Value} : AddR2 (Array.replicate 14 false) W f g A zn zd z1 b s21 s22 s23 s24 s25 s26 s27 s28 s20 s29 s30 s7 s8 W.drew :=
  ⟨Below.drew (Below.refl _ _), fun d => absurd d (done_none _ _), fun d => absurd d (done_none _ _), fun d => absurd d (done_none _ _), fun d => absurd d (done_none _ _), fun d => absurd d (done_none _ _), fun d => absurd d (done_none _ _), fun d => absurd d (done_none _ _), fun d => absurd d (done_none _ _), fun d => absurd d (done_none _ _), fun d => absurd d (done_none _ _), fun d => absurd d (done_none _ _), fun d => absurd d (done_none _ _), fun d => absurd d (done_none _ _), fun d => absurd d (done_none _ _)⟩
/-- The same of a frame. -/
def AddR2J (W : World) (f g : FV) (A : IV) (zn zd z1 : Int) (b : Nat) (b1 b2 b3 g6 : Nat) (u15 u16 u17 u18 u19 u31 u32 u33 u34 u35 u36 u37 u38 u39 u40 u41 u42 u43 u44 u45 u46 u47 u48 u49 u50 u51 u52 u53 u54 u55 u56 u57 u58 u59 u60 u61 u62 u63 u64 u65 u66 u67 u68 u69 u70 u71 u72 u73 u74 u75 u76 u77 u78 : Value) (L : Array Bool) (ac : Act) (wx : World) : Prop := ∃ s21 s22 s23 s24 s25 s26 s27 s28 s20 s29 s30 s7 s8 : Value, ac = { tmps := #[.agg #[.bool f.p.neg, .slice f.p.A f.p.n f.p.c, .bool f.l.neg, .slice f.l.A f.l.n f.l.c], .agg #[.bool g.p.neg, .slice g.p.A g.p.n g.p.c, .bool g.l.neg, .slice g.l.A g.l.n g.l.c], .pointer (some ⟨b1, 0, none⟩), .pointer (some ⟨b2, 0, none⟩), .pointer (some ⟨b3, 0, none⟩), .int .i64 0, .pointer (some ⟨g6, 0, none⟩), s7, s8, undef, undef, undef, undef, undef, undef, u15, u16, u17, u18, u19, s20, s21, s22, s23, s24, s25, s26, s27, s28, s29, s30, u31, u32, u33, u34, u35, u36, u37, u38, u39, u40, u41, u42, u43, u44, u45, u46, u47, u48, u49, u50, u51, u52, u53, u54, u55, u56, u57, u58, u59, u60, u61, u62, u63, u64, u65, u66, u67, u68, u69, u70, u71, u72, u73, u74, u75, u76, u77, u78], defers := [] } ∧ L.size = 14 ∧ AddR2 L W f g A zn zd z1 b s21 s22 s23 s24 s25 s26 s27 s28 s20 s29 s30 s7 s8 wx
/-- What holds when the operations L of the region have come up. -/
structure AddR3 (L : Array Bool) (W : World) (f g : FV) (A : IV) (zn zd z1 : Int) (b : Nat) (s32 s33 s34 s35 s36 s37 s38 s39 s31 s40 s41 s9 s10 : Value) (w : World) : Prop where
  bel : Below W.heap.size W w
  p0 : done L 0 → s32 = .pointer (some ⟨b, 0, none⟩)
  p1 : done L 1 → s33 = .agg #[.bool g.p.neg, .slice g.p.A g.p.n g.p.c]
  p2 : done L 2 → s34 = .agg #[.bool f.p.neg, .slice f.p.A f.p.n f.p.c, .bool f.l.neg, .slice f.l.A f.l.n f.l.c]
  c3 : done L 3 → IsI w s35 zd
  p4 : done L 4 → s36 = .agg #[.bool A.neg, .slice A.A A.n A.c]
  c5 : done L 5 → IsI w s37 z1
  c6 : done L 6 → IsSl w s38 zn z1
  c7 : done L 7 → IsTE w s39 (clip (zn * z1)) (lim (zn * z1))
  c8 : done L 8 → IsTE w s31 (clip (zn * z1)) (lim (zn * z1))
  c9 : done L 9 → IsI w s40 (clip (zn * z1))
  p10 : done L 10 → s41 = .int .i64 (lim (zn * z1))
  a11 : done L 11 → BoxAt W w 29 s9 (done L 12) s40
  e12 : done L 12 → done L 11 ∧ done L 9
  p13 : done L 13 → s10 = .int .i64 (lim (zn * z1))
theorem AddR3.up {L : Array Bool} {W : World} {f g : FV} {A : IV} {zn zd z1 : Int} {b : Nat} {s32 s33 s34 s35 s36 s37 s38 s39 s31 s40 s41 s9 s10 : Value} {w : World} (h : AddR3 L W f g A zn zd z1 b s32 s33 s34 s35 s36 s37 s38 s39 s31 s40 s41 s9 s10 w) {w' : World} (hb : Below w.heap.size w w') : AddR3 L W f g A zn zd z1 b s32 s33 s34 s35 s36 s37 s38 s39 s31 s40 s41 s9 s10 w' :=
  ⟨Below.call h.bel hb, h.p0, h.p1, h.p2, fun d => (h.c3 d).on hb, h.p4, fun d => (h.c5 d).on hb, fun d => (h.c6 d).on hb, fun d => (h.c7 d).on hb, fun d => (h.c8 d).on hb, fun d => (h.c9 d).on hb, h.p10, fun d => (h.a11 d).on hb, h.e12, h.p13⟩
theorem AddR3.set0 {L : Array Bool} {W : World} {f g : FV} {A : IV} {zn zd z1 : Int} {b : Nat} {s32 s33 s34 s35 s36 s37 s38 s39 s31 s40 s41 s9 s10 : Value} {w : World} (h : AddR3 L W f g A zn zd z1 b s32 s33 s34 s35 s36 s37 s38 s39 s31 s40 s41 s9 s10 w) (_hk : ¬ done L 0) {v : Value} (hv : v = .pointer (some ⟨b, 0, none⟩)) : AddR3 (L.setIfInBounds 0 true) W f g A zn zd z1 b v s33 s34 s35 s36 s37 s38 s39 s31 s40 s41 s9 s10 w :=
  ⟨h.bel, fun _ => hv, fun d => h.p1 (done_set d (by decide)), fun d => h.p2 (done_set d (by decide)), fun d => h.c3 (done_set d (by decide)), fun d => h.p4 (done_set d (by decide)), fun d => h.c5 (done_set d (by decide)), fun d => h.c6 (done_set d (by decide)), fun d => h.c7 (done_set d (by decide)), fun d => h.c8 (done_set d (by decide)), fun d => h.c9 (done_set d (by decide)), fun d => h.p10 (done_set d (by decide)), fun d => (h.a11 (done_set d (by decide))).imp (fun x => done_set x (by decide)), fun d => ⟨done_up (h.e12 (done_set d (by decide))).1, done_up (h.e12 (done_set d (by decide))).2⟩, fun d => h.p13 (done_set d (by decide))⟩
theorem AddR3.set1 {L : Array Bool} {W : World} {f g : FV} {A : IV} {zn zd z1 : Int} {b : Nat} {s32 s33 s34 s35 s36 s37 s38 s39 s31 s40 s41 s9 s10 : Value} {w : World} (h : AddR3 L W f g A zn zd z1 b s32 s33 s34 s35 s36 s37 s38 s39 s31 s40 s41 s9 s10 w) (_hk : ¬ done L 1) {v : Value} (hv : v = .agg #[.bool g.p.neg, .slice g.p.A g.p.n g.p.c]) : AddR3 (L.setIfInBounds 1 true) W f g A zn zd z1 b s32 v s34 s35 s36 s37 s38 s39 s31 s40 s41 s9 s10 w :=
  ⟨h.bel, fun d => h.p0 (done_set d (by decide)), fun _ => hv, fun d => h.p2 (done_set d (by decide)), fun d => h.c3 (done_set d (by decide)), fun d => h.p4 (done_set d (by decide)), fun d => h.c5 (done_set d (by decide)), fun d => h.c6 (done_set d (by decide)), fun d => h.c7 (done_set d (by decide)), fun d => h.c8 (done_set d (by decide)), fun d => h.c9 (done_set d (by decide)), fun d => h.p10 (done_set d (by decide)), fun d => (h.a11 (done_set d (by decide))).imp (fun x => done_set x (by decide)), fun d => ⟨done_up (h.e12 (done_set d (by decide))).1, done_up (h.e12 (done_set d (by decide))).2⟩, fun d => h.p13 (done_set d (by decide))⟩
theorem AddR3.set2 {L : Array Bool} {W : World} {f g : FV} {A : IV} {zn zd z1 : Int} {b : Nat} {s32 s33 s34 s35 s36 s37 s38 s39 s31 s40 s41 s9 s10 : Value} {w : World} (h : AddR3 L W f g A zn zd z1 b s32 s33 s34 s35 s36 s37 s38 s39 s31 s40 s41 s9 s10 w) (_hk : ¬ done L 2) {v : Value} (hv : v = .agg #[.bool f.p.neg, .slice f.p.A f.p.n f.p.c, .bool f.l.neg, .slice f.l.A f.l.n f.l.c]) : AddR3 (L.setIfInBounds 2 true) W f g A zn zd z1 b s32 s33 v s35 s36 s37 s38 s39 s31 s40 s41 s9 s10 w :=
  ⟨h.bel, fun d => h.p0 (done_set d (by decide)), fun d => h.p1 (done_set d (by decide)), fun _ => hv, fun d => h.c3 (done_set d (by decide)), fun d => h.p4 (done_set d (by decide)), fun d => h.c5 (done_set d (by decide)), fun d => h.c6 (done_set d (by decide)), fun d => h.c7 (done_set d (by decide)), fun d => h.c8 (done_set d (by decide)), fun d => h.c9 (done_set d (by decide)), fun d => h.p10 (done_set d (by decide)), fun d => (h.a11 (done_set d (by decide))).imp (fun x => done_set x (by decide)), fun d => ⟨done_up (h.e12 (done_set d (by decide))).1, done_up (h.e12 (done_set d (by decide))).2⟩, fun d => h.p13 (done_set d (by decide))⟩
theorem AddR3.set3 {L : Array Bool} {W : World} {f g : FV} {A : IV} {zn zd z1 : Int} {b : Nat} {s32 s33 s34 s35 s36 s37 s38 s39 s31 s40 s41 s9 s10 : Value} {w : World} (h : AddR3 L W f g A zn zd z1 b s32 s33 s34 s35 s36 s37 s38 s39 s31 s40 s41 s9 s10 w) (_hk : ¬ done L 3) {v : Value} (hv : IsI w v zd) : AddR3 (L.setIfInBounds 3 true) W f g A zn zd z1 b s32 s33 s34 v s36 s37 s38 s39 s31 s40 s41 s9 s10 w :=
  ⟨h.bel, fun d => h.p0 (done_set d (by decide)), fun d => h.p1 (done_set d (by decide)), fun d => h.p2 (done_set d (by decide)), fun _ => hv, fun d => h.p4 (done_set d (by decide)), fun d => h.c5 (done_set d (by decide)), fun d => h.c6 (done_set d (by decide)), fun d => h.c7 (done_set d (by decide)), fun d => h.c8 (done_set d (by decide)), fun d => h.c9 (done_set d (by decide)), fun d => h.p10 (done_set d (by decide)), fun d => (h.a11 (done_set d (by decide))).imp (fun x => done_set x (by decide)), fun d => ⟨done_up (h.e12 (done_set d (by decide))).1, done_up (h.e12 (done_set d (by decide))).2⟩, fun d => h.p13 (done_set d (by decide))⟩
theorem AddR3.set4 {L : Array Bool} {W : World} {f g : FV} {A : IV} {zn zd z1 : Int} {b : Nat} {s32 s33 s34 s35 s36 s37 s38 s39 s31 s40 s41 s9 s10 : Value} {w : World} (h : AddR3 L W f g A zn zd z1 b s32 s33 s34 s35 s36 s37 s38 s39 s31 s40 s41 s9 s10 w) (_hk : ¬ done L 4) {v : Value} (hv : v = .agg #[.bool A.neg, .slice A.A A.n A.c]) : AddR3 (L.setIfInBounds 4 true) W f g A zn zd z1 b s32 s33 s34 s35 v s37 s38 s39 s31 s40 s41 s9 s10 w :=
  ⟨h.bel, fun d => h.p0 (done_set d (by decide)), fun d => h.p1 (done_set d (by decide)), fun d => h.p2 (done_set d (by decide)), fun d => h.c3 (done_set d (by decide)), fun _ => hv, fun d => h.c5 (done_set d (by decide)), fun d => h.c6 (done_set d (by decide)), fun d => h.c7 (done_set d (by decide)), fun d => h.c8 (done_set d (by decide)), fun d => h.c9 (done_set d (by decide)), fun d => h.p10 (done_set d (by decide)), fun d => (h.a11 (done_set d (by decide))).imp (fun x => done_set x (by decide)), fun d => ⟨done_up (h.e12 (done_set d (by decide))).1, done_up (h.e12 (done_set d (by decide))).2⟩, fun d => h.p13 (done_set d (by decide))⟩
theorem AddR3.set5 {L : Array Bool} {W : World} {f g : FV} {A : IV} {zn zd z1 : Int} {b : Nat} {s32 s33 s34 s35 s36 s37 s38 s39 s31 s40 s41 s9 s10 : Value} {w : World} (h : AddR3 L W f g A zn zd z1 b s32 s33 s34 s35 s36 s37 s38 s39 s31 s40 s41 s9 s10 w) (_hk : ¬ done L 5) {v : Value} (hv : IsI w v z1) : AddR3 (L.setIfInBounds 5 true) W f g A zn zd z1 b s32 s33 s34 s35 s36 v s38 s39 s31 s40 s41 s9 s10 w :=
  ⟨h.bel, fun d => h.p0 (done_set d (by decide)), fun d => h.p1 (done_set d (by decide)), fun d => h.p2 (done_set d (by decide)), fun d => h.c3 (done_set d (by decide)), fun d => h.p4 (done_set d (by decide)), fun _ => hv, fun d => h.c6 (done_set d (by decide)), fun d => h.c7 (done_set d (by decide)), fun d => h.c8 (done_set d (by decide)), fun d => h.c9 (done_set d (by decide)), fun d => h.p10 (done_set d (by decide)), fun d => (h.a11 (done_set d (by decide))).imp (fun x => done_set x (by decide)), fun d => ⟨done_up (h.e12 (done_set d (by decide))).1, done_up (h.e12 (done_set d (by decide))).2⟩, fun d => h.p13 (done_set d (by decide))⟩
theorem AddR3.set6 {L : Array Bool} {W : World} {f g : FV} {A : IV} {zn zd z1 : Int} {b : Nat} {s32 s33 s34 s35 s36 s37 s38 s39 s31 s40 s41 s9 s10 : Value} {w : World} (h : AddR3 L W f g A zn zd z1 b s32 s33 s34 s35 s36 s37 s38 s39 s31 s40 s41 s9 s10 w) (_hk : ¬ done L 6) {v : Value} (hv : IsSl w v zn z1) : AddR3 (L.setIfInBounds 6 true) W f g A zn zd z1 b s32 s33 s34 s35 s36 s37 v s39 s31 s40 s41 s9 s10 w :=
  ⟨h.bel, fun d => h.p0 (done_set d (by decide)), fun d => h.p1 (done_set d (by decide)), fun d => h.p2 (done_set d (by decide)), fun d => h.c3 (done_set d (by decide)), fun d => h.p4 (done_set d (by decide)), fun d => h.c5 (done_set d (by decide)), fun _ => hv, fun d => h.c7 (done_set d (by decide)), fun d => h.c8 (done_set d (by decide)), fun d => h.c9 (done_set d (by decide)), fun d => h.p10 (done_set d (by decide)), fun d => (h.a11 (done_set d (by decide))).imp (fun x => done_set x (by decide)), fun d => ⟨done_up (h.e12 (done_set d (by decide))).1, done_up (h.e12 (done_set d (by decide))).2⟩, fun d => h.p13 (done_set d (by decide))⟩
theorem AddR3.set7 {L : Array Bool} {W : World} {f g : FV} {A : IV} {zn zd z1 : Int} {b : Nat} {s32 s33 s34 s35 s36 s37 s38 s39 s31 s40 s41 s9 s10 : Value} {w : World} (h : AddR3 L W f g A zn zd z1 b s32 s33 s34 s35 s36 s37 s38 s39 s31 s40 s41 s9 s10 w) (_hk : ¬ done L 7) {v : Value} (hv : IsTE w v (clip (zn * z1)) (lim (zn * z1))) : AddR3 (L.setIfInBounds 7 true) W f g A zn zd z1 b s32 s33 s34 s35 s36 s37 s38 v s31 s40 s41 s9 s10 w :=
  ⟨h.bel, fun d => h.p0 (done_set d (by decide)), fun d => h.p1 (done_set d (by decide)), fun d => h.p2 (done_set d (by decide)), fun d => h.c3 (done_set d (by decide)), fun d => h.p4 (done_set d (by decide)), fun d => h.c5 (done_set d (by decide)), fun d => h.c6 (done_set d (by decide)), fun _ => hv, fun d => h.c8 (done_set d (by decide)), fun d => h.c9 (done_set d (by decide)), fun d => h.p10 (done_set d (by decide)), fun d => (h.a11 (done_set d (by decide))).imp (fun x => done_set x (by decide)), fun d => ⟨done_up (h.e12 (done_set d (by decide))).1, done_up (h.e12 (done_set d (by decide))).2⟩, fun d => h.p13 (done_set d (by decide))⟩
theorem AddR3.set8 {L : Array Bool} {W : World} {f g : FV} {A : IV} {zn zd z1 : Int} {b : Nat} {s32 s33 s34 s35 s36 s37 s38 s39 s31 s40 s41 s9 s10 : Value} {w : World} (h : AddR3 L W f g A zn zd z1 b s32 s33 s34 s35 s36 s37 s38 s39 s31 s40 s41 s9 s10 w) (_hk : ¬ done L 8) {v : Value} (hv : IsTE w v (clip (zn * z1)) (lim (zn * z1))) : AddR3 (L.setIfInBounds 8 true) W f g A zn zd z1 b s32 s33 s34 s35 s36 s37 s38 s39 v s40 s41 s9 s10 w :=
  ⟨h.bel, fun d => h.p0 (done_set d (by decide)), fun d => h.p1 (done_set d (by decide)), fun d => h.p2 (done_set d (by decide)), fun d => h.c3 (done_set d (by decide)), fun d => h.p4 (done_set d (by decide)), fun d => h.c5 (done_set d (by decide)), fun d => h.c6 (done_set d (by decide)), fun d => h.c7 (done_set d (by decide)), fun _ => hv, fun d => h.c9 (done_set d (by decide)), fun d => h.p10 (done_set d (by decide)), fun d => (h.a11 (done_set d (by decide))).imp (fun x => done_set x (by decide)), fun d => ⟨done_up (h.e12 (done_set d (by decide))).1, done_up (h.e12 (done_set d (by decide))).2⟩, fun d => h.p13 (done_set d (by decide))⟩
theorem AddR3.set9 {L : Array Bool} {W : World} {f g : FV} {A : IV} {zn zd z1 : Int} {b : Nat} {s32 s33 s34 s35 s36 s37 s38 s39 s31 s40 s41 s9 s10 : Value} {w : World} (h : AddR3 L W f g A zn zd z1 b s32 s33 s34 s35 s36 s37 s38 s39 s31 s40 s41 s9 s10 w) (hk : ¬ done L 9) {v : Value} (hv : IsI w v (clip (zn * z1))) : AddR3 (L.setIfInBounds 9 true) W f g A zn zd z1 b s32 s33 s34 s35 s36 s37 s38 s39 s31 v s41 s9 s10 w :=
  ⟨h.bel, fun d => h.p0 (done_set d (by decide)), fun d => h.p1 (done_set d (by decide)), fun d => h.p2 (done_set d (by decide)), fun d => h.c3 (done_set d (by decide)), fun d => h.p4 (done_set d (by decide)), fun d => h.c5 (done_set d (by decide)), fun d => h.c6 (done_set d (by decide)), fun d => h.c7 (done_set d (by decide)), fun d => h.c8 (done_set d (by decide)), fun _ => hv, fun d => h.p10 (done_set d (by decide)), fun d => (h.a11 (done_set d (by decide))).resrc (fun x => hk (h.e12 (done_set x (by decide))).2), fun d => ⟨done_up (h.e12 (done_set d (by decide))).1, done_up (h.e12 (done_set d (by decide))).2⟩, fun d => h.p13 (done_set d (by decide))⟩
theorem AddR3.set10 {L : Array Bool} {W : World} {f g : FV} {A : IV} {zn zd z1 : Int} {b : Nat} {s32 s33 s34 s35 s36 s37 s38 s39 s31 s40 s41 s9 s10 : Value} {w : World} (h : AddR3 L W f g A zn zd z1 b s32 s33 s34 s35 s36 s37 s38 s39 s31 s40 s41 s9 s10 w) (_hk : ¬ done L 10) {v : Value} (hv : v = .int .i64 (lim (zn * z1))) : AddR3 (L.setIfInBounds 10 true) W f g A zn zd z1 b s32 s33 s34 s35 s36 s37 s38 s39 s31 s40 v s9 s10 w :=
  ⟨h.bel, fun d => h.p0 (done_set d (by decide)), fun d => h.p1 (done_set d (by decide)), fun d => h.p2 (done_set d (by decide)), fun d => h.c3 (done_set d (by decide)), fun d => h.p4 (done_set d (by decide)), fun d => h.c5 (done_set d (by decide)), fun d => h.c6 (done_set d (by decide)), fun d => h.c7 (done_set d (by decide)), fun d => h.c8 (done_set d (by decide)), fun d => h.c9 (done_set d (by decide)), fun _ => hv, fun d => (h.a11 (done_set d (by decide))).imp (fun x => done_set x (by decide)), fun d => ⟨done_up (h.e12 (done_set d (by decide))).1, done_up (h.e12 (done_set d (by decide))).2⟩, fun d => h.p13 (done_set d (by decide))⟩
theorem AddR3.set11 {L : Array Bool} {W : World} {f g : FV} {A : IV} {zn zd z1 : Int} {b : Nat} {s32 s33 s34 s35 s36 s37 s38 s39 s31 s40 s41 s9 s10 : Value} {w : World} (h : AddR3 L W f g A zn zd z1 b s32 s33 s34 s35 s36 s37 s38 s39 s31 s40 s41 s9 s10 w) (hk : ¬ done L 11) : AddR3 (L.setIfInBounds 11 true) W f g A zn zd z1 b s32 s33 s34 s35 s36 s37 s38 s39 s31 s40 s41 (.pointer (some ⟨w.heap.size, 0, none⟩)) s10 (w.alloc (.cells #[.bool false, .slice none 0 0] 29)) :=
  have h' := h.up (below_new w (.cells #[.bool false, .slice none 0 0] 29))
  ⟨h'.bel, fun d => h'.p0 (done_set d (by decide)), fun d => h'.p1 (done_set d (by decide)), fun d => h'.p2 (done_set d (by decide)), fun d => h'.c3 (done_set d (by decide)), fun d => h'.p4 (done_set d (by decide)), fun d => h'.c5 (done_set d (by decide)), fun d => h'.c6 (done_set d (by decide)), fun d => h'.c7 (done_set d (by decide)), fun d => h'.c8 (done_set d (by decide)), fun d => h'.c9 (done_set d (by decide)), fun d => h'.p10 (done_set d (by decide)), fun _ => BoxAt.new h.bel.size (fun x => hk (h.e12 (done_set x (by decide))).1), fun d => ⟨done_up (h.e12 (done_set d (by decide))).1, done_up (h.e12 (done_set d (by decide))).2⟩, fun d => h'.p13 (done_set d (by decide))⟩
theorem AddR3.set12 {L : Array Bool} {W : World} {f g : FV} {A : IV} {zn zd z1 : Int} {b : Nat} {s32 s33 s34 s35 s36 s37 s38 s39 s31 s40 s41 s9 s10 : Value} {w : World} (h : AddR3 L W f g A zn zd z1 b s32 s33 s34 s35 s36 s37 s38 s39 s31 s40 s41 s9 s10 w) (da : done L 11) (ds : done L 9) {x : IV} {gb : Nat} {c0 c1 : Value} (es : s9 = .pointer (some ⟨gb, 0, none⟩)) (ex : s40 = .agg #[.bool x.neg, .slice x.A x.n x.c]) (hgb : W.heap.size ≤ gb) (hO : Own w gb 29 [c0, c1]) (h0 : ∀ n, c0 ≠ .int .u32 n) (h1 : ∀ n, c1 ≠ .int .u32 n) :
    AddR3 (L.setIfInBounds 12 true) W f g A zn zd z1 b s32 s33 s34 s35 s36 s37 s38 s39 s31 s40 s41 s9 s10 ((w.setCell ⟨gb, 0, none⟩ (.bool x.neg)).setCell ⟨gb, 1, none⟩ (.slice x.A x.n x.c)) :=
  ⟨Below.put2 h.bel hgb _ _, fun d => h.p0 (done_set d (by decide)), fun d => h.p1 (done_set d (by decide)), fun d => h.p2 (done_set d (by decide)), fun d => (h.c3 (done_set d (by decide))).put2 hO h0 h1 _ _, fun d => h.p4 (done_set d (by decide)), fun d => (h.c5 (done_set d (by decide))).put2 hO h0 h1 _ _, fun d => (h.c6 (done_set d (by decide))).put2 hO h0 h1 _ _, fun d => (h.c7 (done_set d (by decide))).put2 hO h0 h1 _ _, fun d => (h.c8 (done_set d (by decide))).put2 hO h0 h1 _ _, fun d => (h.c9 (done_set d (by decide))).put2 hO h0 h1 _ _, fun d => h.p10 (done_set d (by decide)), fun _ => ⟨gb, _, _, es, hgb, hO.put2 _ _, by simp, by simp, fun _ => ex⟩, fun _ => ⟨done_up da, done_up ds⟩, fun d => h.p13 (done_set d (by decide))⟩
theorem AddR3.set13 {L : Array Bool} {W : World} {f g : FV} {A : IV} {zn zd z1 : Int} {b : Nat} {s32 s33 s34 s35 s36 s37 s38 s39 s31 s40 s41 s9 s10 : Value} {w : World} (h : AddR3 L W f g A zn zd z1 b s32 s33 s34 s35 s36 s37 s38 s39 s31 s40 s41 s9 s10 w) (_hk : ¬ done L 13) {v : Value} (hv : v = .int .i64 (lim (zn * z1))) : AddR3 (L.setIfInBounds 13 true) W f g A zn zd z1 b s32 s33 s34 s35 s36 s37 s38 s39 s31 s40 s41 s9 v w :=
  ⟨h.bel, fun d => h.p0 (done_set d (by decide)), fun d => h.p1 (done_set d (by decide)), fun d => h.p2 (done_set d (by decide)), fun d => h.c3 (done_set d (by decide)), fun d => h.p4 (done_set d (by decide)), fun d => h.c5 (done_set d (by decide)), fun d => h.c6 (done_set d (by decide)), fun d => h.c7 (done_set d (by decide)), fun d => h.c8 (done_set d (by decide)), fun d => h.c9 (done_set d (by decide)), fun d => h.p10 (done_set d (by decide)), fun d => (h.a11 (done_set d (by decide))).imp (fun x => done_set x (by decide)), fun d => ⟨done_up (h.e12 (done_set d (by decide))).1, done_up (h.e12 (done_set d (by decide))).2⟩, fun _ => hv⟩
theorem AddR3.start {W : World} {f g : FV} {A : IV} {zn zd z1 : Int} {b : Nat} {s32 s33 s34 s35 s36 s37 s38 s39 s31 s40 s41 s9 s10 : Value} : AddR3 (Array.replicate 14 false) W f g A zn zd z1 b s32 s33 s34 s35 s36 s37 s38 s39 s31 s40 s41 s9 s10 W.drew :=
  ⟨Below.drew (Below.refl _ _), fun d => absurd d (done_none _ _), fun d => absurd d (done_none _ _), fun d => absurd d (done_none _ _), fun d => absurd d (done_none _ _), fun d => absurd d (done_none _ _), fun d => absurd d (done_none _ _), fun d => absurd d (done_none _ _), fun d => absurd d (done_none _ _), fun d => absurd d (done_none _ _), fun d => absurd d (done_none _ _), fun d => absurd d (done_none _ _), fun d => absurd d (done_none _ _), fun d => absurd d (done_none _ _), fun d => absurd d (done_none _ _)⟩
/-- The same of a frame. -/
def AddR3J (W : World) (f g : FV) (A : IV) (zn zd z1 : Int) (b : Nat) (b1 b2 b3 g6 g7 : Nat) (e8 : Int) (u15 u16 u17 u18 u19 u20 u21 u22 u23 u24 u25 u26 u27 u28 u29 u30 u42 u43 u44 u45 u46 u47 u48 u49 u50 u51 u52 u53 u54 u55 u56 u57 u58 u59 u60 u61 u62 u63 u64 u65 u66 u67 u68 u69 u70 u71 u72 u73 u74 u75 u76 u77 u78 : Value) (L : Array Bool) (ac : Act) (wx : World) : Prop := ∃ s32 s33 s34 s35 s36 s37 s38 s39 s31 s40 s41 s9 s10 : Value, ac = { tmps := #[.agg #[.bool f.p.neg, .slice f.p.A f.p.n f.p.c, .bool f.l.neg, .slice f.l.A f.l.n f.l.c], .agg #[.bool g.p.neg, .slice g.p.A g.p.n g.p.c, .bool g.l.neg, .slice g.l.A g.l.n g.l.c], .pointer (some ⟨b1, 0, none⟩), .pointer (some ⟨b2, 0, none⟩), .pointer (some ⟨b3, 0, none⟩), .int .i64 0, .pointer (some ⟨g6, 0, none⟩), .pointer (some ⟨g7, 0, none⟩), .int .i64 e8, s9, s10, undef, undef, undef, undef, u15, u16, u17, u18, u19, u20, u21, u22, u23, u24, u25, u26, u27, u28, u29, u30, s31, s32, s33, s34, s35, s36, s37, s38, s39, s40, s41, u42, u43, u44, u45, u46, u47, u48, u49, u50, u51, u52, u53, u54, u55, u56, u57, u58, u59, u60, u61, u62, u63, u64, u65, u66, u67, u68, u69, u70, u71, u72, u73, u74, u75, u76, u77, u78], defers := [] } ∧ L.size = 14 ∧ AddR3 L W f g A zn zd z1 b s32 s33 s34 s35 s36 s37 s38 s39 s31 s40 s41 s9 s10 wx
/-- What holds when the operations L of the region have come up. -/
structure AddR5 (L : Array Bool) (W : World) (f g : FV) (A : IV) (zd zs z1 : Int) (s49 s50 s51 s52 s53 s54 s55 s56 s48 s57 s58 s13 s14 : Value) (w : World) : Prop where
  bel : Below W.heap.size W w
  p0 : done L 0 → s49 = .agg #[.bool f.p.neg, .slice f.p.A f.p.n f.p.c, .bool f.l.neg, .slice f.l.A f.l.n f.l.c]
  c1 : done L 1 → IsI w s50 zd
  p2 : done L 2 → s51 = .agg #[.bool A.neg, .slice A.A A.n A.c]
  c3 : done L 3 → IsI w s52 z1
  p4 : done L 4 → s53 = .agg #[.bool g.p.neg, .slice g.p.A g.p.n g.p.c, .bool g.l.neg, .slice g.l.A g.l.n g.l.c]
  c5 : done L 5 → IsI w s54 zs
  c6 : done L 6 → IsSl w s55 (z1) (zs)
  c7 : done L 7 → IsTE w s56 (clip (z1 * zs)) (lim (z1 * zs))
  c8 : done L 8 → IsTE w s48 (clip (z1 * zs)) (lim (z1 * zs))
  c9 : done L 9 → IsI w s57 (clip (z1 * zs))
  p10 : done L 10 → s58 = .int .i64 (lim (z1 * zs))
  a11 : done L 11 → BoxAt W w 29 s13 (done L 12) s57
  e12 : done L 12 → done L 11 ∧ done L 9
  p13 : done L 13 → s14 = .int .i64 (lim (z1 * zs))
theorem AddR5.up {L : Array Bool} {W : World} {f g : FV} {A : IV} {zd zs z1 : Int} {s49 s50 s51 s52 s53 s54 s55 s56 s48 s57 s58 s13 s14 : Value} {w : World} (h : AddR5 L W f g A zd zs z1 s49 s50 s51 s52 s53 s54 s55 s56 s48 s57 s58 s13 s14 w) {w' : World} (hb : Below w.heap.size w w') : AddR5 L W f g A zd zs z1 s49 s50 s51 s52 s53 s54 s55 s56 s48 s57 s58 s13 s14 w' :=
  ⟨Below.call h.bel hb, h.p0, fun d => (h.c1 d).on hb, h.p2, fun d => (h.c3 d).on hb, h.p4, fun d => (h.c5 d).on hb, fun d => (h.c6 d).on hb, fun d => (h.c7 d).on hb, fun d => (h.c8 d).on hb, fun d => (h.c9 d).on hb, h.p10, fun d => (h.a11 d).on hb, h.e12, h.p13⟩
theorem AddR5.set0 {L : Array Bool} {W : World} {f g : FV} {A : IV} {zd zs z1 : Int} {s49 s50 s51 s52 s53 s54 s55 s56 s48 s57 s58 s13 s14 : Value} {w : World} (h : AddR5 L W f g A zd zs z1 s49 s50 s51 s52 s53 s54 s55 s56 s48 s57 s58 s13 s14 w) (_hk : ¬ done L 0) {v : Value} (hv : v = .agg #[.bool f.p.neg, .slice f.p.A f.p.n f.p.c, .bool f.l.neg, .slice f.l.A f.l.n f.l.c]) : AddR5 (L.setIfInBounds 0 true) W f g A zd zs z1 v s50 s51 s52 s53 s54 s55 s56 s48 s57 s58 s13 s14 w :=
  ⟨h.bel, fun _ => hv, fun d => h.c1 (done_set d (by decide)), fun d => h.p2 (done_set d (by decide)), fun d => h.c3 (done_set d (by decide)), fun d => h.p4 (done_set d (by decide)), fun d => h.c5 (done_set d (by decide)), fun d => h.c6 (done_set d (by decide)), fun d => h.c7 (done_set d (by decide)), fun d => h.c8 (done_set d (by decide)), fun d => h.c9 (done_set d (by decide)), fun d => h.p10 (done_set d (by decide)), fun d => (h.a11 (done_set d (by decide))).imp (fun x => done_set x (by decide)), fun d => ⟨done_up (h.e12 (done_set d (by decide))).1, done_up (h.e12 (done_set d (by decide))).2⟩, fun d => h.p13 (done_set d (by decide))⟩
theorem AddR5.set1 {L : Array Bool} {W : World} {f g : FV} {A : IV} {zd zs z1 : Int} {s49 s50 s51 s52 s53 s54 s55 s56 s48 s57 s58 s13 s14 : Value} {w : World} (h : AddR5 L W f g A zd zs z1 s49 s50 s51 s52 s53 s54 s55 s56 s48 s57 s58 s13 s14 w) (_hk : ¬ done L 1) {v : Value} (hv : IsI w v zd) : AddR5 (L.setIfInBounds 1 true) W f g A zd zs z1 s49 v s51 s52 s53 s54 s55 s56 s48 s57 s58 s13 s14 w :=
  ⟨h.bel, fun d => h.p0 (done_set d (by decide)), fun _ => hv, fun d => h.p2 (done_set d (by decide)), fun d => h.c3 (done_set d (by decide)), fun d => h.p4 (done_set d (by decide)), fun d => h.c5 (done_set d (by decide)), fun d => h.c6 (done_set d (by decide)), fun d => h.c7 (done_set d (by decide)), fun d => h.c8 (done_set d (by decide)), fun d => h.c9 (done_set d (by decide)), fun d => h.p10 (done_set d (by decide)), fun d => (h.a11 (done_set d (by decide))).imp (fun x => done_set x (by decide)), fun d => ⟨done_up (h.e12 (done_set d (by decide))).1, done_up (h.e12 (done_set d (by decide))).2⟩, fun d => h.p13 (done_set d (by decide))⟩
theorem AddR5.set2 {L : Array Bool} {W : World} {f g : FV} {A : IV} {zd zs z1 : Int} {s49 s50 s51 s52 s53 s54 s55 s56 s48 s57 s58 s13 s14 : Value} {w : World} (h : AddR5 L W f g A zd zs z1 s49 s50 s51 s52 s53 s54 s55 s56 s48 s57 s58 s13 s14 w) (_hk : ¬ done L 2) {v : Value} (hv : v = .agg #[.bool A.neg, .slice A.A A.n A.c]) : AddR5 (L.setIfInBounds 2 true) W f g A zd zs z1 s49 s50 v s52 s53 s54 s55 s56 s48 s57 s58 s13 s14 w :=
  ⟨h.bel, fun d => h.p0 (done_set d (by decide)), fun d => h.c1 (done_set d (by decide)), fun _ => hv, fun d => h.c3 (done_set d (by decide)), fun d => h.p4 (done_set d (by decide)), fun d => h.c5 (done_set d (by decide)), fun d => h.c6 (done_set d (by decide)), fun d => h.c7 (done_set d (by decide)), fun d => h.c8 (done_set d (by decide)), fun d => h.c9 (done_set d (by decide)), fun d => h.p10 (done_set d (by decide)), fun d => (h.a11 (done_set d (by decide))).imp (fun x => done_set x (by decide)), fun d => ⟨done_up (h.e12 (done_set d (by decide))).1, done_up (h.e12 (done_set d (by decide))).2⟩, fun d => h.p13 (done_set d (by decide))⟩
theorem AddR5.set3 {L : Array Bool} {W : World} {f g : FV} {A : IV} {zd zs z1 : Int} {s49 s50 s51 s52 s53 s54 s55 s56 s48 s57 s58 s13 s14 : Value} {w : World} (h : AddR5 L W f g A zd zs z1 s49 s50 s51 s52 s53 s54 s55 s56 s48 s57 s58 s13 s14 w) (_hk : ¬ done L 3) {v : Value} (hv : IsI w v z1) : AddR5 (L.setIfInBounds 3 true) W f g A zd zs z1 s49 s50 s51 v s53 s54 s55 s56 s48 s57 s58 s13 s14 w :=
  ⟨h.bel, fun d => h.p0 (done_set d (by decide)), fun d => h.c1 (done_set d (by decide)), fun d => h.p2 (done_set d (by decide)), fun _ => hv, fun d => h.p4 (done_set d (by decide)), fun d => h.c5 (done_set d (by decide)), fun d => h.c6 (done_set d (by decide)), fun d => h.c7 (done_set d (by decide)), fun d => h.c8 (done_set d (by decide)), fun d => h.c9 (done_set d (by decide)), fun d => h.p10 (done_set d (by decide)), fun d => (h.a11 (done_set d (by decide))).imp (fun x => done_set x (by decide)), fun d => ⟨done_up (h.e12 (done_set d (by decide))).1, done_up (h.e12 (done_set d (by decide))).2⟩, fun d => h.p13 (done_set d (by decide))⟩
theorem AddR5.set4 {L : Array Bool} {W : World} {f g : FV} {A : IV} {zd zs z1 : Int} {s49 s50 s51 s52 s53 s54 s55 s56 s48 s57 s58 s13 s14 : Value} {w : World} (h : AddR5 L W f g A zd zs z1 s49 s50 s51 s52 s53 s54 s55 s56 s48 s57 s58 s13 s14 w) (_hk : ¬ done L 4) {v : Value} (hv : v = .agg #[.bool g.p.neg, .slice g.p.A g.p.n g.p.c, .bool g.l.neg, .slice g.l.A g.l.n g.l.c]) : AddR5 (L.setIfInBounds 4 true) W f g A zd zs z1 s49 s50 s51 s52 v s54 s55 s56 s48 s57 s58 s13 s14 w :=
  ⟨h.bel, fun d => h.p0 (done_set d (by decide)), fun d => h.c1 (done_set d (by decide)), fun d => h.p2 (done_set d (by decide)), fun d => h.c3 (done_set d (by decide)), fun _ => hv, fun d => h.c5 (done_set d (by decide)), fun d => h.c6 (done_set d (by decide)), fun d => h.c7 (done_set d (by decide)), fun d => h.c8 (done_set d (by decide)), fun d => h.c9 (done_set d (by decide)), fun d => h.p10 (done_set d (by decide)), fun d => (h.a11 (done_set d (by decide))).imp (fun x => done_set x (by decide)), fun d => ⟨done_up (h.e12 (done_set d (by decide))).1, done_up (h.e12 (done_set d (by decide))).2⟩, fun d => h.p13 (done_set d (by decide))⟩
theorem AddR5.set5 {L : Array Bool} {W : World} {f g : FV} {A : IV} {zd zs z1 : Int} {s49 s50 s51 s52 s53 s54 s55 s56 s48 s57 s58 s13 s14 : Value} {w : World} (h : AddR5 L W f g A zd zs z1 s49 s50 s51 s52 s53 s54 s55 s56 s48 s57 s58 s13 s14 w) (_hk : ¬ done L 5) {v : Value} (hv : IsI w v zs) : AddR5 (L.setIfInBounds 5 true) W f g A zd zs z1 s49 s50 s51 s52 s53 v s55 s56 s48 s57 s58 s13 s14 w :=
  ⟨h.bel, fun d => h.p0 (done_set d (by decide)), fun d => h.c1 (done_set d (by decide)), fun d => h.p2 (done_set d (by decide)), fun d => h.c3 (done_set d (by decide)), fun d => h.p4 (done_set d (by decide)), fun _ => hv, fun d => h.c6 (done_set d (by decide)), fun d => h.c7 (done_set d (by decide)), fun d => h.c8 (done_set d (by decide)), fun d => h.c9 (done_set d (by decide)), fun d => h.p10 (done_set d (by decide)), fun d => (h.a11 (done_set d (by decide))).imp (fun x => done_set x (by decide)), fun d => ⟨done_up (h.e12 (done_set d (by decide))).1, done_up (h.e12 (done_set d (by decide))).2⟩, fun d => h.p13 (done_set d (by decide))⟩
theorem AddR5.set6 {L : Array Bool} {W : World} {f g : FV} {A : IV} {zd zs z1 : Int} {s49 s50 s51 s52 s53 s54 s55 s56 s48 s57 s58 s13 s14 : Value} {w : World} (h : AddR5 L W f g A zd zs z1 s49 s50 s51 s52 s53 s54 s55 s56 s48 s57 s58 s13 s14 w) (_hk : ¬ done L 6) {v : Value} (hv : IsSl w v (z1) (zs)) : AddR5 (L.setIfInBounds 6 true) W f g A zd zs z1 s49 s50 s51 s52 s53 s54 v s56 s48 s57 s58 s13 s14 w :=
  ⟨h.bel, fun d => h.p0 (done_set d (by decide)), fun d => h.c1 (done_set d (by decide)), fun d => h.p2 (done_set d (by decide)), fun d => h.c3 (done_set d (by decide)), fun d => h.p4 (done_set d (by decide)), fun d => h.c5 (done_set d (by decide)), fun _ => hv, fun d => h.c7 (done_set d (by decide)), fun d => h.c8 (done_set d (by decide)), fun d => h.c9 (done_set d (by decide)), fun d => h.p10 (done_set d (by decide)), fun d => (h.a11 (done_set d (by decide))).imp (fun x => done_set x (by decide)), fun d => ⟨done_up (h.e12 (done_set d (by decide))).1, done_up (h.e12 (done_set d (by decide))).2⟩, fun d => h.p13 (done_set d (by decide))⟩
theorem AddR5.set7 {L : Array Bool} {W : World} {f g : FV} {A : IV} {zd zs z1 : Int} {s49 s50 s51 s52 s53 s54 s55 s56 s48 s57 s58 s13 s14 : Value} {w : World} (h : AddR5 L W f g A zd zs z1 s49 s50 s51 s52 s53 s54 s55 s56 s48 s57 s58 s13 s14 w) (_hk : ¬ done L 7) {v : Value} (hv : IsTE w v (clip (z1 * zs)) (lim (z1 * zs))) : AddR5 (L.setIfInBounds 7 true) W f g A zd zs z1 s49 s50 s51 s52 s53 s54 s55 v s48 s57 s58 s13 s14 w :=
  ⟨h.bel, fun d => h.p0 (done_set d (by decide)), fun d => h.c1 (done_set d (by decide)), fun d => h.p2 (done_set d (by decide)), fun d => h.c3 (done_set d (by decide)), fun d => h.p4 (done_set d (by decide)), fun d => h.c5 (done_set d (by decide)), fun d => h.c6 (done_set d (by decide)), fun _ => hv, fun d => h.c8 (done_set d (by decide)), fun d => h.c9 (done_set d (by decide)), fun d => h.p10 (done_set d (by decide)), fun d => (h.a11 (done_set d (by decide))).imp (fun x => done_set x (by decide)), fun d => ⟨done_up (h.e12 (done_set d (by decide))).1, done_up (h.e12 (done_set d (by decide))).2⟩, fun d => h.p13 (done_set d (by decide))⟩
theorem AddR5.set8 {L : Array Bool} {W : World} {f g : FV} {A : IV} {zd zs z1 : Int} {s49 s50 s51 s52 s53 s54 s55 s56 s48 s57 s58 s13 s14 : Value} {w : World} (h : AddR5 L W f g A zd zs z1 s49 s50 s51 s52 s53 s54 s55 s56 s48 s57 s58 s13 s14 w) (_hk : ¬ done L 8) {v : Value} (hv : IsTE w v (clip (z1 * zs)) (lim (z1 * zs))) : AddR5 (L.setIfInBounds 8 true) W f g A zd zs z1 s49 s50 s51 s52 s53 s54 s55 s56 v s57 s58 s13 s14 w :=
  ⟨h.bel, fun d => h.p0 (done_set d (by decide)), fun d => h.c1 (done_set d (by decide)), fun d => h.p2 (done_set d (by decide)), fun d => h.c3 (done_set d (by decide)), fun d => h.p4 (done_set d (by decide)), fun d => h.c5 (done_set d (by decide)), fun d => h.c6 (done_set d (by decide)), fun d => h.c7 (done_set d (by decide)), fun _ => hv, fun d => h.c9 (done_set d (by decide)), fun d => h.p10 (done_set d (by decide)), fun d => (h.a11 (done_set d (by decide))).imp (fun x => done_set x (by decide)), fun d => ⟨done_up (h.e12 (done_set d (by decide))).1, done_up (h.e12 (done_set d (by decide))).2⟩, fun d => h.p13 (done_set d (by decide))⟩
theorem AddR5.set9 {L : Array Bool} {W : World} {f g : FV} {A : IV} {zd zs z1 : Int} {s49 s50 s51 s52 s53 s54 s55 s56 s48 s57 s58 s13 s14 : Value} {w : World} (h : AddR5 L W f g A zd zs z1 s49 s50 s51 s52 s53 s54 s55 s56 s48 s57 s58 s13 s14 w) (hk : ¬ done L 9) {v : Value} (hv : IsI w v (clip (z1 * zs))) : AddR5 (L.setIfInBounds 9 true) W f g A zd zs z1 s49 s50 s51 s52 s53 s54 s55 s56 s48 v s58 s13 s14 w :=
  ⟨h.bel, fun d => h.p0 (done_set d (by decide)), fun d => h.c1 (done_set d (by decide)), fun d => h.p2 (done_set d (by decide)), fun d => h.c3 (done_set d (by decide)), fun d => h.p4 (done_set d (by decide)), fun d => h.c5 (done_set d (by decide)), fun d => h.c6 (done_set d (by decide)), fun d => h.c7 (done_set d (by decide)), fun d => h.c8 (done_set d (by decide)), fun _ => hv, fun d => h.p10 (done_set d (by decide)), fun d => (h.a11 (done_set d (by decide))).resrc (fun x => hk (h.e12 (done_set x (by decide))).2), fun d => ⟨done_up (h.e12 (done_set d (by decide))).1, done_up (h.e12 (done_set d (by decide))).2⟩, fun d => h.p13 (done_set d (by decide))⟩
theorem AddR5.set10 {L : Array Bool} {W : World} {f g : FV} {A : IV} {zd zs z1 : Int} {s49 s50 s51 s52 s53 s54 s55 s56 s48 s57 s58 s13 s14 : Value} {w : World} (h : AddR5 L W f g A zd zs z1 s49 s50 s51 s52 s53 s54 s55 s56 s48 s57 s58 s13 s14 w) (_hk : ¬ done L 10) {v : Value} (hv : v = .int .i64 (lim (z1 * zs))) : AddR5 (L.setIfInBounds 10 true) W f g A zd zs z1 s49 s50 s51 s52 s53 s54 s55 s56 s48 s57 v s13 s14 w :=
  ⟨h.bel, fun d => h.p0 (done_set d (by decide)), fun d => h.c1 (done_set d (by decide)), fun d => h.p2 (done_set d (by decide)), fun d => h.c3 (done_set d (by decide)), fun d => h.p4 (done_set d (by decide)), fun d => h.c5 (done_set d (by decide)), fun d => h.c6 (done_set d (by decide)), fun d => h.c7 (done_set d (by decide)), fun d => h.c8 (done_set d (by decide)), fun d => h.c9 (done_set d (by decide)), fun _ => hv, fun d => (h.a11 (done_set d (by decide))).imp (fun x => done_set x (by decide)), fun d => ⟨done_up (h.e12 (done_set d (by decide))).1, done_up (h.e12 (done_set d (by decide))).2⟩, fun d => h.p13 (done_set d (by decide))⟩
theorem AddR5.set11 {L : Array Bool} {W : World} {f g : FV} {A : IV} {zd zs z1 : Int} {s49 s50 s51 s52 s53 s54 s55 s56 s48 s57 s58 s13 s14 : Value} {w : World} (h : AddR5 L W f g A zd zs z1 s49 s50 s51 s52 s53 s54 s55 s56 s48 s57 s58 s13 s14 w) (hk : ¬ done L 11) : AddR5 (L.setIfInBounds 11 true) W f g A zd zs z1 s49 s50 s51 s52 s53 s54 s55 s56 s48 s57 s58 (.pointer (some ⟨w.heap.size, 0, none⟩)) s14 (w.alloc (.cells #[.bool false, .slice none 0 0] 29)) :=
  have h' := h.up (below_new w (.cells #[.bool false, .slice none 0 0] 29))
  ⟨h'.bel, fun d => h'.p0 (done_set d (by decide)), fun d => h'.c1 (done_set d (by decide)), fun d => h'.p2 (done_set d (by decide)), fun d => h'.c3 (done_set d (by decide)), fun d => h'.p4 (done_set d (by decide)), fun d => h'.c5 (done_set d (by decide)), fun d => h'.c6 (done_set d (by decide)), fun d => h'.c7 (done_set d (by decide)), fun d => h'.c8 (done_set d (by decide)), fun d => h'.c9 (done_set d (by decide)), fun d => h'.p10 (done_set d (by decide)), fun _ => BoxAt.new h.bel.size (fun x => hk (h.e12 (done_set x (by decide))).1), fun d => ⟨done_up (h.e12 (done_set d (by decide))).1, done_up (h.e12 (done_set d (by decide))).2⟩, fun d => h'.p13 (done_set d (by decide))⟩
theorem AddR5.set12 {L : Array Bool} {W : World} {f g : FV} {A : IV} {zd zs z1 : Int} {s49 s50 s51 s52 s53 s54 s55 s56 s48 s57 s58 s13 s14 : Value} {w : World} (h : AddR5 L W f g A zd zs z1 s49 s50 s51 s52 s53 s54 s55 s56 s48 s57 s58 s13 s14 w) (da : done L 11) (ds : done L 9) {x : IV} {gb : Nat} {c0 c1 : Value} (es : s13 = .pointer (some ⟨gb, 0, none⟩)) (ex : s57 = .agg #[.bool x.neg, .slice x.A x.n x.c]) (hgb : W.heap.size ≤ gb) (hO : Own w gb 29 [c0, c1]) (h0 : ∀ n, c0 ≠ .int .u32 n) (h1 : ∀ n, c1 ≠ .int .u32 n) :
    AddR5 (L.setIfInBounds 12 true) W f g A zd zs z1 s49 s50 s51 s52 s53 s54 s55 s56 s48 s57 s58 s13 s14 ((w.setCell ⟨gb, 0, none⟩ (.bool x.neg)).setCell ⟨gb, 1, none⟩ (.slice x.A x.n x.c)) :=
  ⟨Below.put2 h.bel hgb _ _, fun d => h.p0 (done_set d (by decide)), fun d => (h.c1 (done_set d (by decide))).put2 hO h0 h1 _ _, fun d => h.p2 (done_set d (by decide)), fun d => (h.c3 (done_set d (by decide))).put2 hO h0 h1 _ _, fun d => h.p4 (done_set d (by decide)), fun d => (h.c5 (done_set d (by decide))).put2 hO h0 h1 _ _, fun d => (h.c6 (done_set d (by decide))).put2 hO h0 h1 _ _, fun d => (h.c7 (done_set d (by decide))).put2 hO h0 h1 _ _, fun d => (h.c8 (done_set d (by decide))).put2 hO h0 h1 _ _, fun d => (h.c9 (done_set d (by decide))).put2 hO h0 h1 _ _, fun d => h.p10 (done_set d (by decide)), fun _ => ⟨gb, _, _, es, hgb, hO.put2 _ _, by simp, by simp, fun _ => ex⟩, fun _ => ⟨done_up da, done_up ds⟩, fun d => h.p13 (done_set d (by decide))⟩
theorem AddR5.set13 {L : Array Bool} {W : World} {f g : FV} {A : IV} {zd zs z1 : Int} {s49 s50 s51 s52 s53 s54 s55 s56 s48 s57 s58 s13 s14 : Value} {w : World} (h : AddR5 L W f g A zd zs z1 s49 s50 s51 s52 s53 s54 s55 s56 s48 s57 s58 s13 s14 w) (_hk : ¬ done L 13) {v : Value} (hv : v = .int .i64 (lim (z1 * zs))) : AddR5 (L.setIfInBounds 13 true) W f g A zd zs z1 s49 s50 s51 s52 s53 s54 s55 s56 s48 s57 s58 s13 v w :=
  ⟨h.bel, fun d => h.p0 (done_set d (by decide)), fun d => h.c1 (done_set d (by decide)), fun d => h.p2 (done_set d (by decide)), fun d => h.c3 (done_set d (by decide)), fun d => h.p4 (done_set d (by decide)), fun d => h.c5 (done_set d (by decide)), fun d => h.c6 (done_set d (by decide)), fun d => h.c7 (done_set d (by decide)), fun d => h.c8 (done_set d (by decide)), fun d => h.c9 (done_set d (by decide)), fun d => h.p10 (done_set d (by decide)), fun d => (h.a11 (done_set d (by decide))).imp (fun x => done_set x (by decide)), fun d => ⟨done_up (h.e12 (done_set d (by decide))).1, done_up (h.e12 (done_set d (by decide))).2⟩, fun _ => hv⟩
theorem AddR5.start {W : World} {f g : FV} {A : IV} {zd zs z1 : Int} {s49 s50 s51 s52 s53 s54 s55 s56 s48 s57 s58 s13 s14 : Value} : AddR5 (Array.replicate 14 false) W f g A zd zs z1 s49 s50 s51 s52 s53 s54 s55 s56 s48 s57 s58 s13 s14 W.drew :=
  ⟨Below.drew (Below.refl _ _), fun d => absurd d (done_none _ _), fun d => absurd d (done_none _ _), fun d => absurd d (done_none _ _), fun d => absurd d (done_none _ _), fun d => absurd d (done_none _ _), fun d => absurd d (done_none _ _), fun d => absurd d (done_none _ _), fun d => absurd d (done_none _ _), fun d => absurd d (done_none _ _), fun d => absurd d (done_none _ _), fun d => absurd d (done_none _ _), fun d => absurd d (done_none _ _), fun d => absurd d (done_none _ _), fun d => absurd d (done_none _ _)⟩
/-- The same of a frame. -/
def AddR5J (W : World) (f g : FV) (A : IV) (zd zs z1 : Int) (b1 b2 b3 g6 g7 g9 g11 : Nat) (e8 e10 e12 : Int) (u15 u16 u17 u18 u19 u20 u21 u22 u23 u24 u25 u26 u27 u28 u29 u30 u31 u32 u33 u34 u35 u36 u37 u38 u39 u40 u41 u42 u43 u44 u45 u46 u47 u59 u60 u61 u62 u63 u64 u65 u66 u67 u68 u69 u70 u71 u72 u73 u74 u75 u76 u77 u78 : Value) (L : Array Bool) (ac : Act) (wx : World) : Prop := ∃ s49 s50 s51 s52 s53 s54 s55 s56 s48 s57 s58 s13 s14 : Value, ac = { tmps := #[.agg #[.bool f.p.neg, .slice f.p.A f.p.n f.p.c, .bool f.l.neg, .slice f.l.A f.l.n f.l.c], .agg #[.bool g.p.neg, .slice g.p.A g.p.n g.p.c, .bool g.l.neg, .slice g.l.A g.l.n g.l.c], .pointer (some ⟨b1, 0, none⟩), .pointer (some ⟨b2, 0, none⟩), .pointer (some ⟨b3, 0, none⟩), .int .i64 0, .pointer (some ⟨g6, 0, none⟩), .pointer (some ⟨g7, 0, none⟩), .int .i64 e8, .pointer (some ⟨g9, 0, none⟩), .int .i64 e10, .pointer (some ⟨g11, 0, none⟩), .int .i64 e12, s13, s14, u15, u16, u17, u18, u19, u20, u21, u22, u23, u24, u25, u26, u27, u28, u29, u30, u31, u32, u33, u34, u35, u36, u37, u38, u39, u40, u41, u42, u43, u44, u45, u46, u47, s48, s49, s50, s51, s52, s53, s54, s55, s56, s57, s58, u59, u60, u61, u62, u63, u64, u65, u66, u67, u68, u69, u70, u71, u72, u73, u74, u75, u76, u77, u78], defers := [] } ∧ L.size = 14 ∧ AddR5 L W f g A zd zs z1 s49 s50 s51 s52 s53 s54 s55 s56 s48 s57 s58 s13 s14 wx

/-- All that Add makes is in range. -/
def addOK (p q r s : Int) : Prop := (p * (s / (Int.gcd q s : Nat))).natAbs < top ∧ (r * (q / (Int.gcd q s : Nat))).natAbs < top ∧ (p * (s / (Int.gcd q s : Nat)) + r * (q / (Int.gcd q s : Nat))).natAbs < top ∧ (q / (Int.gcd q s : Nat) * s).natAbs < top
def AddL (w : World) (p q r s : Int) (e : Ending) (w' : World) : Prop := (addOK p q r s ∧ FracE w (mkP (p * s + r * q) (q * s)) (mkQ (p * s + r * q) (q * s)) 0 e w') ∨ (¬ addOK p q r s ∧ FracE w 0 1 4 e w')
theorem lim_ne {z : Int} (h : ¬ z.natAbs < top) : (lim z != 0) = true := by rw [lim_out h]; rfl
theorem lim_eq {z : Int} (h : z.natAbs < top) : (lim z != 0) = false := by rw [lim_in h]; rfl

set_option maxRecDepth 100000 in
set_option maxHeartbeats 6400000 in
theorem AddF_any {f g : FV} {p q r s : Int} {w : World} (hf : f.is w p q) (hg : g.is w r s) : Calls Tryz.prog 44 #[.agg #[.bool f.p.neg, .slice f.p.A f.p.n f.p.c, .bool f.l.neg, .slice f.l.A f.l.n f.l.c], .agg #[.bool g.p.neg, .slice g.p.A g.p.n g.p.c, .bool g.l.neg, .slice g.l.A g.l.n g.l.c]] w (AddL w p q r s) := by
  go_enter Tryz.func44, Tryz.ntmps44
  have hS := TwoSt.start hf hg
  go_upto_region 1 with fail
  generalize ((w.alloc (.cells #[.bool f.p.neg, .slice f.p.A f.p.n f.p.c, .bool f.l.neg, .slice f.l.A f.l.n f.l.c] 31)).alloc (.cells #[.bool g.p.neg, .slice g.p.A g.p.n g.p.c, .bool g.l.neg, .slice g.l.A g.l.n g.l.c] 31)).alloc (.cells #[.bool false, .slice none 0 0, .bool false, .slice none 0 0] 31) = W at hS ⊢
  obtain ⟨b1, hb1⟩ : ∃ b1, b1 = w.heap.size := ⟨_, rfl⟩
  obtain ⟨b2, hb2⟩ : ∃ b2, b2 = w.heap.size + 1 := ⟨_, rfl⟩
  obtain ⟨b3, hb3⟩ : ∃ b3, b3 = w.heap.size + 1 + 1 := ⟨_, rfl⟩
  have hS1 := hS.of_
  have hS2 := hS.og
  have hS3 := hS.oz
  rw [← hb1] at hS1
  rw [← hb2] at hS2
  rw [← hb3] at hS3
  rw [← hb3, ← hb2, ← hb1]
  have hfW := hS.if_
  have hgW := hS.ig
  have hBW := hS.bel
  have hw3 : w.heap.size ≤ b3 := by omega
  clear hS hb1 hb2 hb3
  go_cut [6] (fun s6 wx => IsBox W wx s6 (Int.gcd q s : Nat) ∧ Below W.heap.size W wx)
  case first =>
    refine region_inv (by kernel_rfl) (AddR1J W f g q s b1 b2 b3) ?_ ?_ ?_
    · exact ⟨_, _, _, _, _, _, rfl, by simp, AddR1.start⟩
    · intro L a wx i hJ hi
      obtain ⟨hlt, hnd, hdep⟩ := ready_spec hi
      obtain ⟨s15, s16, s17, s18, s19, s6, rfl, hsz, h⟩ := hJ
      have hlt2 : i < 7 := hlt
      clear hi hlt
      rcases (by omega : i = 0 ∨ i = 1 ∨ i = 2 ∨ i = 3 ∨ i = 4 ∨ i = 5 ∨ i = 6) with rfl | rfl | rfl | rfl | rfl | rfl | rfl
      · have l0 := (hS1.on h.bel).c0
        have l1 := (hS1.on h.bel).c1
        have l2 := (hS1.on h.bel).c2
        have l3 := (hS1.on h.bel).c3
        clear hdep
        refine wpOp_step rfl (fun K hK => ?_)
        go_wp2_with fail
        exact ⟨_, _, _, _, _, _, rfl, by simp [hsz], h.set0 hnd rfl⟩
      · have d0 : done L 0 := hdep _ rfl { on := 0, ground := Ground.data } (by simp) rfl
        have e0 := h.p0 d0
        subst e0
        clear hdep
        refine wpOp_step rfl (fun K hK => ?_)
        go_wp2_with fail
        refine (Den_b (f := f) hfW h.bel).mono ?_
        rintro e v ⟨r1, rfl, j, k, hr⟩
        go_wp2_with fail
        exact ⟨_, _, _, _, _, _, rfl, by simp [hsz], (h.up k).set1 hnd ⟨r1, rfl, hr⟩⟩
      · have l0 := (hS2.on h.bel).c0
        have l1 := (hS2.on h.bel).c1
        have l2 := (hS2.on h.bel).c2
        have l3 := (hS2.on h.bel).c3
        clear hdep
        refine wpOp_step rfl (fun K hK => ?_)
        go_wp2_with fail
        exact ⟨_, _, _, _, _, _, rfl, by simp [hsz], h.set2 hnd rfl⟩
      · have d2 : done L 2 := hdep _ rfl { on := 2, ground := Ground.data } (by simp) rfl
        have e2 := h.p2 d2
        subst e2
        clear hdep
        refine wpOp_step rfl (fun K hK => ?_)
        go_wp2_with fail
        refine (Den_b (f := g) hgW h.bel).mono ?_
        rintro e v ⟨r1, rfl, j, k, hr⟩
        go_wp2_with fail
        exact ⟨_, _, _, _, _, _, rfl, by simp [hsz], (h.up k).set3 hnd ⟨r1, rfl, hr⟩⟩
      · have d1 : done L 1 := hdep _ rfl { on := 1, ground := Ground.data } (by simp) rfl
        have d3 : done L 3 := hdep _ rfl { on := 3, ground := Ground.data } (by simp) rfl
        obtain ⟨x1, e1, hx1⟩ := h.c1 d1
        obtain ⟨x3, e3, hx3⟩ := h.c3 d3
        subst e1
        subst e3
        clear hdep
        refine wpOp_step rfl (fun K hK => ?_)
        go_wp2_with fail
        refine (gcd_b (x := x1) (y := x3) hx1 (Below.refl _ _) hx3 (Below.refl _ _)).mono ?_
        rintro e v ⟨r1, rfl, j, k, hr⟩
        go_wp2_with fail
        exact ⟨_, _, _, _, _, _, rfl, by simp [hsz], (h.up k).set4 hnd ⟨r1, rfl, hr⟩⟩
      · clear hdep
        refine wpOp_step rfl (fun K hK => ?_)
        go_wp2_with fail
        exact ⟨_, _, _, _, _, _, rfl, by simp [hsz], h.set5 hnd⟩
      · have d5 : done L 5 := hdep _ rfl { on := 5, ground := Ground.data } (by simp) rfl
        have d4 : done L 4 := hdep _ rfl { on := 4, ground := Ground.data } (by simp) rfl
        obtain ⟨gb, c0, c1, es, hgb, hO, h0, h1, _⟩ := h.a5 d5
        obtain ⟨x, ex, _⟩ := h.c4 d4
        have hn := h.set6 d5 d4 es ex hgb hO h0 h1
        have z0 := hO.c0
        have z1 := hO.c1
        have f0 := hO.frozen 0
        have f1 := hO.frozen 1
        have HN := Lib.hid hn
        clear hn hdep
        subst es ex
        refine wpOp_step rfl (fun K hK => ?_)
        go_wp2_with fail
        exact ⟨_, _, _, _, _, _, rfl, by simp [hsz], HN.out⟩
    · intro L a wx hJ hr
      obtain ⟨s15, s16, s17, s18, s19, s6, rfl, hsz, h⟩ := hJ
      have D := all_done hr hsz (by kernel_rfl)
      have D2 : ∀ k, k < 7 → done L k := D
      clear D
      have B6 := IsBox.of (h.a5 (D2 5 (by omega))) (D2 6 (by omega)) (h.c4 (D2 4 (by omega)))
      have hbw := h.bel
      clear h D2
      go_wp2_with fail
      go_meet
      exact ⟨B6, hbw⟩
  case rest =>
    obtain ⟨⟨g6, A, rfl, l6, hO6, hA⟩, hbw⟩ := hcut
    obtain ⟨wd, rfl⟩ : ∃ wd : World, wd = wc := ⟨_, rfl⟩
    obtain ⟨k1, k2, k3⟩ := add_frac (p := p) (r := r) hf.pos hg.pos
    have hA0 : ((Int.gcd q s : Nat) : Int) ≠ 0 := by have := Int.gcd_pos_of_ne_zero_right q (show s ≠ 0 by have := hg.pos; omega); omega
    have hok : addOK p q r s ↔ (p * (s / (Int.gcd q s : Nat))).natAbs < top ∧ (r * (q / (Int.gcd q s : Nat))).natAbs < top ∧ (p * (s / (Int.gcd q s : Nat)) + r * (q / (Int.gcd q s : Nat))).natAbs < top ∧ (q / (Int.gcd q s : Nat) * s).natAbs < top := Iff.rfl
    obtain ⟨z1, hz1⟩ : ∃ z1, z1 = s / (Int.gcd q s : Nat) := ⟨_, rfl⟩
    obtain ⟨z2, hz2⟩ : ∃ z2, z2 = q / (Int.gcd q s : Nat) := ⟨_, rfl⟩
    rw [← hz1, ← hz2] at k2 k3 hok
    rw [← hz2] at k1
    obtain ⟨G, hG⟩ : ∃ G : Nat, G = Int.gcd q s := ⟨_, rfl⟩
    rw [← hG] at hA hA0 hz1 hz2
    have HK2 := Lib.hid k2
    have HK3 := Lib.hid k3
    have HZ1 := Lib.hid hz1
    have HZ2 := Lib.hid hz2
    have HOK := Lib.hid hok
    have hS1 := hS1.on hbw
    have hS2 := hS2.on hbw
    have hS3 := hS3.on hbw
    have hfW := hfW.on hbw
    have hgW := hgW.on hbw
    have hB2 := Below.call hBW hbw
    clear hG k2 k3 hz1 hz2 hok hbw hBW l6
    go_upto_region 2 with fail
    go_cut [7, 8] (fun s7 s8 wx => IsBox wd wx s7 (clip (p * z1)) ∧ s8 = .int .i64 (lim (p * z1)) ∧ Below wd.heap.size wd wx)
    case first =>
      refine region_inv (by kernel_rfl) (AddR2J wd f g A p s z1 b1 b1 b2 b3 g6 u15 u16 u17 u18 u19 u31 u32 u33 u34 u35 u36 u37 u38 u39 u40 u41 u42 u43 u44 u45 u46 u47 u48 u49 u50 u51 u52 u53 u54 u55 u56 u57 u58 u59 u60 u61 u62 u63 u64 u65 u66 u67 u68 u69 u70 u71 u72 u73 u74 u75 u76 u77 u78) ?_ ?_ ?_
      · exact ⟨_, _, _, _, _, _, _, _, _, _, _, _, _, rfl, by simp, AddR2.start⟩
      · intro L a wx i hJ hi
        obtain ⟨hlt, hnd, hdep⟩ := ready_spec hi
        obtain ⟨s21, s22, s23, s24, s25, s26, s27, s28, s20, s29, s30, s7, s8, rfl, hsz, h⟩ := hJ
        have hlt2 : i < 14 := hlt
        clear hi hlt
        rcases (by omega : i = 0 ∨ i = 1 ∨ i = 2 ∨ i = 3 ∨ i = 4 ∨ i = 5 ∨ i = 6 ∨ i = 7 ∨ i = 8 ∨ i = 9 ∨ i = 10 ∨ i = 11 ∨ i = 12 ∨ i = 13) with rfl | rfl | rfl | rfl | rfl | rfl | rfl | rfl | rfl | rfl | rfl | rfl | rfl | rfl
        · clear hdep
          refine wpOp_step rfl (fun K hK => ?_)
          go_wp2_with fail
          exact ⟨_, _, _, _, _, _, _, _, _, _, _, _, _, rfl, by simp [hsz], h.set0 hnd rfl⟩
        · have d0 : done L 0 := hdep _ rfl { on := 0, ground := Ground.data } (by simp) rfl
          have e0 := h.p0 d0
          subst e0
          have l0 := (hS1.on h.bel).c0
          have l1 := (hS1.on h.bel).c1
          clear hdep
          refine wpOp_step rfl (fun K hK => ?_)
          go_wp2_with fail
          exact ⟨_, _, _, _, _, _, _, _, _, _, _, _, _, rfl, by simp [hsz], h.set1 hnd rfl⟩
        · have l0 := (hS2.on h.bel).c0
          have l1 := (hS2.on h.bel).c1
          have l2 := (hS2.on h.bel).c2
          have l3 := (hS2.on h.bel).c3
          clear hdep
          refine wpOp_step rfl (fun K hK => ?_)
          go_wp2_with fail
          exact ⟨_, _, _, _, _, _, _, _, _, _, _, _, _, rfl, by simp [hsz], h.set2 hnd rfl⟩
        · have d2 : done L 2 := hdep _ rfl { on := 2, ground := Ground.data } (by simp) rfl
          have e2 := h.p2 d2
          subst e2
          clear hdep
          refine wpOp_step rfl (fun K hK => ?_)
          go_wp2_with fail
          refine (Den_b (f := g) hgW h.bel).mono ?_
          rintro e v ⟨r1, rfl, j, k, hr⟩
          go_wp2_with fail
          exact ⟨_, _, _, _, _, _, _, _, _, _, _, _, _, rfl, by simp [hsz], (h.up k).set3 hnd ⟨r1, rfl, hr⟩⟩
        · have l0 := (hO6.on h.bel).c0
          have l1 := (hO6.on h.bel).c1
          clear hdep
          refine wpOp_step rfl (fun K hK => ?_)
          go_wp2_with fail
          exact ⟨_, _, _, _, _, _, _, _, _, _, _, _, _, rfl, by simp [hsz], h.set4 hnd rfl⟩
        · have d3 : done L 3 := hdep _ rfl { on := 3, ground := Ground.data } (by simp) rfl
          have d4 : done L 4 := hdep _ rfl { on := 4, ground := Ground.data } (by simp) rfl
          obtain ⟨x3, e3, hx3⟩ := h.c3 d3
          have e4 := h.p4 d4
          subst e3
          subst e4
          clear hdep
          refine wpOp_step rfl (fun K hK => ?_)
          go_wp2_with fail
          refine (over_b (x := x3) (y := A) hx3 (Below.refl _ _) hA h.bel hA0).mono ?_
          rintro e v ⟨r1, rfl, j, k, hr⟩
          go_wp2_with fail
          exact ⟨_, _, _, _, _, _, _, _, _, _, _, _, _, rfl, by simp [hsz], (h.up k).set5 hnd ⟨r1, rfl, by rw [HZ1.out]; exact hr⟩⟩
        · have d1 : done L 1 := hdep _ rfl { on := 1, ground := Ground.data } (by simp) rfl
          have d5 : done L 5 := hdep _ rfl { on := 5, ground := Ground.data } (by simp) rfl
          have e1 := h.p1 d1
          obtain ⟨x5, e5, hx5⟩ := h.c5 d5
          subst e1
          subst e5
          clear hdep
          refine wpOp_step rfl (fun K hK => ?_)
          go_wp2_with fail
          exact ⟨_, _, _, _, _, _, _, _, _, _, _, _, _, rfl, by simp [hsz], (h.up (below_new _ _)).set6 hnd ⟨_, f.p, x5, rfl, Own.newP _ _ _ _, (hfW.num.on h.bel).on (below_new _ _), hx5.on (below_new _ _)⟩⟩
        · have d6 : done L 6 := hdep _ rfl { on := 6, ground := Ground.data } (by simp) rfl
          obtain ⟨g6, x6, y6, e6, ho6, hx6, hy6⟩ := h.c6 d6
          subst e6
          clear hdep
          refine wpOp_step rfl (fun K hK => ?_)
          go_wp2_with fail
          refine (times_iv ho6 hx6 hy6).mono ?_
          rintro e v ⟨r1, rfl, k, hr⟩
          go_wp2_with fail
          exact ⟨_, _, _, _, _, _, _, _, _, _, _, _, _, rfl, by simp [hsz], (h.up k).set7 hnd ⟨r1, rfl, hr⟩⟩
        · have d7 : done L 7 := hdep _ rfl { on := 7, ground := Ground.data } (by simp) rfl
          obtain ⟨x7, e7, hx7⟩ := h.c7 d7
          subst e7
          clear hdep
          refine wpOp_step rfl (fun K hK => ?_)
          go_wp2_with fail
          exact ⟨_, _, _, _, _, _, _, _, _, _, _, _, _, rfl, by simp [hsz], h.set8 hnd ⟨x7, rfl, hx7⟩⟩
        · have d8 : done L 8 := hdep _ rfl { on := 8, ground := Ground.data } (by simp) rfl
          obtain ⟨x8, e8, hx8⟩ := h.c8 d8
          subst e8
          clear hdep
          refine wpOp_step rfl (fun K hK => ?_)
          go_wp2_with fail
          exact ⟨_, _, _, _, _, _, _, _, _, _, _, _, _, rfl, by simp [hsz], h.set9 hnd ⟨x8, rfl, hx8⟩⟩
        · have d8 : done L 8 := hdep _ rfl { on := 8, ground := Ground.data } (by simp) rfl
          obtain ⟨x8, e8, hx8⟩ := h.c8 d8
          subst e8
          clear hdep
          refine wpOp_step rfl (fun K hK => ?_)
          go_wp2_with fail
          exact ⟨_, _, _, _, _, _, _, _, _, _, _, _, _, rfl, by simp [hsz], h.set10 hnd rfl⟩
        · clear hdep
          refine wpOp_step rfl (fun K hK => ?_)
          go_wp2_with fail
          exact ⟨_, _, _, _, _, _, _, _, _, _, _, _, _, rfl, by simp [hsz], h.set11 hnd⟩
        · have d11 : done L 11 := hdep _ rfl { on := 11, ground := Ground.data } (by simp) rfl
          have d9 : done L 9 := hdep _ rfl { on := 9, ground := Ground.data } (by simp) rfl
          obtain ⟨gb, c0, c1, es, hgb, hO, h0, h1, _⟩ := h.a11 d11
          obtain ⟨x, ex, _⟩ := h.c9 d9
          have hn := h.set12 d11 d9 es ex hgb hO h0 h1
          have z0 := hO.c0
          have z1 := hO.c1
          have f0 := hO.frozen 0
          have f1 := hO.frozen 1
          have HN := Lib.hid hn
          clear hn hdep
          subst es ex
          refine wpOp_step rfl (fun K hK => ?_)
          go_wp2_with fail
          exact ⟨_, _, _, _, _, _, _, _, _, _, _, _, _, rfl, by simp [hsz], HN.out⟩
        · have d10 : done L 10 := hdep _ rfl { on := 10, ground := Ground.data } (by simp) rfl
          have e10 := h.p10 d10
          subst e10
          clear hdep
          refine wpOp_step rfl (fun K hK => ?_)
          go_wp2_with fail
          exact ⟨_, _, _, _, _, _, _, _, _, _, _, _, _, rfl, by simp [hsz], h.set13 hnd rfl⟩
      · intro L a wx hJ hr
        obtain ⟨s21, s22, s23, s24, s25, s26, s27, s28, s20, s29, s30, s7, s8, rfl, hsz, h⟩ := hJ
        have D := all_done hr hsz (by kernel_rfl)
        have D2 : ∀ k, k < 14 → done L k := D
        clear D
        have B8 := IsBox.of (h.a11 (D2 11 (by omega))) (D2 12 (by omega)) (h.c9 (D2 9 (by omega)))
        have E9 := h.p13 (D2 13 (by omega))
        have hbw := h.bel
        clear h D2
        go_wp2_with fail
        go_meet
        exact ⟨B8, E9, hbw⟩
    case rest =>
      obtain ⟨⟨g7, X7, rfl, l7, hO7, hX7⟩, rfl, hbw2⟩ := hcut
      obtain ⟨we, rfl⟩ : ∃ we : World, we = wc := ⟨_, rfl⟩
      have hS1 := hS1.on hbw2
      have hS2 := hS2.on hbw2
      have hS3 := hS3.on hbw2
      have hfW := hfW.on hbw2
      have hgW := hgW.on hbw2
      have hA := hA.on hbw2
      have hO6 := hO6.on hbw2
      have hB2 := Below.call hB2 hbw2
      clear hbw2 l7
      go_upto_region 3 with fail
      go_cut [9, 10] (fun s9 s10 wx => IsBox we wx s9 (clip (r * z2)) ∧ s10 = .int .i64 (lim (r * z2)) ∧ Below we.heap.size we wx)
      case first =>
        refine region_inv (by kernel_rfl) (AddR3J we f g A r q z2 b2 b1 b2 b3 g6 g7 (lim (p * z1)) u15 u16 u17 u18 u19 u20 u21 u22 u23 u24 u25 u26 u27 u28 u29 u30 u42 u43 u44 u45 u46 u47 u48 u49 u50 u51 u52 u53 u54 u55 u56 u57 u58 u59 u60 u61 u62 u63 u64 u65 u66 u67 u68 u69 u70 u71 u72 u73 u74 u75 u76 u77 u78) ?_ ?_ ?_
        · exact ⟨_, _, _, _, _, _, _, _, _, _, _, _, _, rfl, by simp, AddR3.start⟩
        · intro L a wx i hJ hi
          obtain ⟨hlt, hnd, hdep⟩ := ready_spec hi
          obtain ⟨s32, s33, s34, s35, s36, s37, s38, s39, s31, s40, s41, s9, s10, rfl, hsz, h⟩ := hJ
          have hlt2 : i < 14 := hlt
          clear hi hlt
          rcases (by omega : i = 0 ∨ i = 1 ∨ i = 2 ∨ i = 3 ∨ i = 4 ∨ i = 5 ∨ i = 6 ∨ i = 7 ∨ i = 8 ∨ i = 9 ∨ i = 10 ∨ i = 11 ∨ i = 12 ∨ i = 13) with rfl | rfl | rfl | rfl | rfl | rfl | rfl | rfl | rfl | rfl | rfl | rfl | rfl | rfl
          · clear hdep
            refine wpOp_step rfl (fun K hK => ?_)
            go_wp2_with fail
            exact ⟨_, _, _, _, _, _, _, _, _, _, _, _, _, rfl, by simp [hsz], h.set0 hnd rfl⟩
          · have d0 : done L 0 := hdep _ rfl { on := 0, ground := Ground.data } (by simp) rfl
            have e0 := h.p0 d0
            subst e0
            have l0 := (hS2.on h.bel).c0
            have l1 := (hS2.on h.bel).c1
            clear hdep
            refine wpOp_step rfl (fun K hK => ?_)
            go_wp2_with fail
            exact ⟨_, _, _, _, _, _, _, _, _, _, _, _, _, rfl, by simp [hsz], h.set1 hnd rfl⟩
          · have l0 := (hS1.on h.bel).c0
            have l1 := (hS1.on h.bel).c1
            have l2 := (hS1.on h.bel).c2
            have l3 := (hS1.on h.bel).c3
            clear hdep
            refine wpOp_step rfl (fun K hK => ?_)
            go_wp2_with fail
            exact ⟨_, _, _, _, _, _, _, _, _, _, _, _, _, rfl, by simp [hsz], h.set2 hnd rfl⟩
          · have d2 : done L 2 := hdep _ rfl { on := 2, ground := Ground.data } (by simp) rfl
            have e2 := h.p2 d2
            subst e2
            clear hdep
            refine wpOp_step rfl (fun K hK => ?_)
            go_wp2_with fail
            refine (Den_b (f := f) hfW h.bel).mono ?_
            rintro e v ⟨r1, rfl, j, k, hr⟩
            go_wp2_with fail
            exact ⟨_, _, _, _, _, _, _, _, _, _, _, _, _, rfl, by simp [hsz], (h.up k).set3 hnd ⟨r1, rfl, hr⟩⟩
          · have l0 := (hO6.on h.bel).c0
            have l1 := (hO6.on h.bel).c1
            clear hdep
            refine wpOp_step rfl (fun K hK => ?_)
            go_wp2_with fail
            exact ⟨_, _, _, _, _, _, _, _, _, _, _, _, _, rfl, by simp [hsz], h.set4 hnd rfl⟩
          · have d3 : done L 3 := hdep _ rfl { on := 3, ground := Ground.data } (by simp) rfl
            have d4 : done L 4 := hdep _ rfl { on := 4, ground := Ground.data } (by simp) rfl
            obtain ⟨x3, e3, hx3⟩ := h.c3 d3
            have e4 := h.p4 d4
            subst e3
            subst e4
            clear hdep
            refine wpOp_step rfl (fun K hK => ?_)
            go_wp2_with fail
            refine (over_b (x := x3) (y := A) hx3 (Below.refl _ _) hA h.bel hA0).mono ?_
            rintro e v ⟨r1, rfl, j, k, hr⟩
            go_wp2_with fail
            exact ⟨_, _, _, _, _, _, _, _, _, _, _, _, _, rfl, by simp [hsz], (h.up k).set5 hnd ⟨r1, rfl, by rw [HZ2.out]; exact hr⟩⟩
          · have d1 : done L 1 := hdep _ rfl { on := 1, ground := Ground.data } (by simp) rfl
            have d5 : done L 5 := hdep _ rfl { on := 5, ground := Ground.data } (by simp) rfl
            have e1 := h.p1 d1
            obtain ⟨x5, e5, hx5⟩ := h.c5 d5
            subst e1
            subst e5
            clear hdep
            refine wpOp_step rfl (fun K hK => ?_)
            go_wp2_with fail
            exact ⟨_, _, _, _, _, _, _, _, _, _, _, _, _, rfl, by simp [hsz], (h.up (below_new _ _)).set6 hnd ⟨_, g.p, x5, rfl, Own.newP _ _ _ _, (hgW.num.on h.bel).on (below_new _ _), hx5.on (below_new _ _)⟩⟩
          · have d6 : done L 6 := hdep _ rfl { on := 6, ground := Ground.data } (by simp) rfl
            obtain ⟨g6, x6, y6, e6, ho6, hx6, hy6⟩ := h.c6 d6
            subst e6
            clear hdep
            refine wpOp_step rfl (fun K hK => ?_)
            go_wp2_with fail
            refine (times_iv ho6 hx6 hy6).mono ?_
            rintro e v ⟨r1, rfl, k, hr⟩
            go_wp2_with fail
            exact ⟨_, _, _, _, _, _, _, _, _, _, _, _, _, rfl, by simp [hsz], (h.up k).set7 hnd ⟨r1, rfl, hr⟩⟩
          · have d7 : done L 7 := hdep _ rfl { on := 7, ground := Ground.data } (by simp) rfl
            obtain ⟨x7, e7, hx7⟩ := h.c7 d7
            subst e7
            clear hdep
            refine wpOp_step rfl (fun K hK => ?_)
            go_wp2_with fail
            exact ⟨_, _, _, _, _, _, _, _, _, _, _, _, _, rfl, by simp [hsz], h.set8 hnd ⟨x7, rfl, hx7⟩⟩
          · have d8 : done L 8 := hdep _ rfl { on := 8, ground := Ground.data } (by simp) rfl
            obtain ⟨x8, e8, hx8⟩ := h.c8 d8
            subst e8
            clear hdep
            refine wpOp_step rfl (fun K hK => ?_)
            go_wp2_with fail
            exact ⟨_, _, _, _, _, _, _, _, _, _, _, _, _, rfl, by simp [hsz], h.set9 hnd ⟨x8, rfl, hx8⟩⟩
          · have d8 : done L 8 := hdep _ rfl { on := 8, ground := Ground.data } (by simp) rfl
            obtain ⟨x8, e8, hx8⟩ := h.c8 d8
            subst e8
            clear hdep
            refine wpOp_step rfl (fun K hK => ?_)
            go_wp2_with fail
            exact ⟨_, _, _, _, _, _, _, _, _, _, _, _, _, rfl, by simp [hsz], h.set10 hnd rfl⟩
          · clear hdep
            refine wpOp_step rfl (fun K hK => ?_)
            go_wp2_with fail
            exact ⟨_, _, _, _, _, _, _, _, _, _, _, _, _, rfl, by simp [hsz], h.set11 hnd⟩
          · have d11 : done L 11 := hdep _ rfl { on := 11, ground := Ground.data } (by simp) rfl
            have d9 : done L 9 := hdep _ rfl { on := 9, ground := Ground.data } (by simp) rfl
            obtain ⟨gb, c0, c1, es, hgb, hO, h0, h1, _⟩ := h.a11 d11
            obtain ⟨x, ex, _⟩ := h.c9 d9
            have hn := h.set12 d11 d9 es ex hgb hO h0 h1
            have z0 := hO.c0
            have z1 := hO.c1
            have f0 := hO.frozen 0
            have f1 := hO.frozen 1
            have HN := Lib.hid hn
            clear hn hdep
            subst es ex
            refine wpOp_step rfl (fun K hK => ?_)
            go_wp2_with fail
            exact ⟨_, _, _, _, _, _, _, _, _, _, _, _, _, rfl, by simp [hsz], HN.out⟩
          · have d10 : done L 10 := hdep _ rfl { on := 10, ground := Ground.data } (by simp) rfl
            have e10 := h.p10 d10
            subst e10
            clear hdep
            refine wpOp_step rfl (fun K hK => ?_)
            go_wp2_with fail
            exact ⟨_, _, _, _, _, _, _, _, _, _, _, _, _, rfl, by simp [hsz], h.set13 hnd rfl⟩
        · intro L a wx hJ hr
          obtain ⟨s32, s33, s34, s35, s36, s37, s38, s39, s31, s40, s41, s9, s10, rfl, hsz, h⟩ := hJ
          have D := all_done hr hsz (by kernel_rfl)
          have D2 : ∀ k, k < 14 → done L k := D
          clear D
          have B8 := IsBox.of (h.a11 (D2 11 (by omega))) (D2 12 (by omega)) (h.c9 (D2 9 (by omega)))
          have E9 := h.p13 (D2 13 (by omega))
          have hbw := h.bel
          clear h D2
          go_wp2_with fail
          go_meet
          exact ⟨B8, E9, hbw⟩
      case rest =>
        obtain ⟨⟨g9, X9, rfl, l9, hO9, hX9⟩, rfl, hbw3⟩ := hcut
        have hS1 := hS1.on hbw3
        have hS2 := hS2.on hbw3
        have hS3 := hS3.on hbw3
        have hfW := hfW.on hbw3
        have hgW := hgW.on hbw3
        have hA := hA.on hbw3
        have hO6 := hO6.on hbw3
        have hX7 := hX7.on hbw3
        have hO7 := hO7.on hbw3
        have hB2 := Below.call hB2 hbw3
        clear hbw3 l9
        have x0 := hO7.c0
        have x1 := hO7.c1
        have y0 := hO9.c0
        have y1 := hO9.c1
        go_upto_region 4 with fail
        go_wp2_with fail
        refine (add_iv hX7 hX9).mono ?_
        rintro e w1 ⟨X11, rfl, hb1, hX11⟩
        go_upto_region 5 with fail
        have hb2 := below_new w1 (.cells #[.bool X11.neg, .slice X11.A X11.n X11.c] 29)
        have hO11 := Own.newI w1 29 X11
        generalize w1.alloc (.cells #[.bool X11.neg, .slice X11.A X11.n X11.c] 29) = w2 at hb2 hO11 ⊢
        obtain ⟨g11, hg11⟩ : ∃ g11, g11 = w1.heap.size := ⟨_, rfl⟩
        rw [← hg11] at hO11 ⊢
        have hX11 := hX11.on hb2
        have hS1 := (hS1.on hb1).on hb2
        have hS2 := (hS2.on hb1).on hb2
        have hS3 := (hS3.on hb1).on hb2
        have hfW := (hfW.on hb1).on hb2
        have hgW := (hgW.on hb1).on hb2
        have hA := (hA.on hb1).on hb2
        have hO6 := (hO6.on hb1).on hb2
        have hB2 := Below.call (Below.call hB2 hb1) hb2
        clear x0 x1 y0 y1 hb1 hb2 hg11 hX7 hX9 hO7 hO9
        obtain ⟨cs, hcs⟩ : ∃ cs, cs = clip (p * z1) + clip (r * z2) := ⟨_, rfl⟩
        rw [← hcs] at hX11 ⊢
        have HCS := Lib.hid hcs
        clear hcs
        go_cut [13, 14] (fun s13 s14 wx => IsBox w2 wx s13 (clip (z2 * s)) ∧ s14 = .int .i64 (lim (z2 * s)) ∧ Below w2.heap.size w2 wx)
        case first =>
          refine region_inv (by kernel_rfl) (AddR5J w2 f g A q s z2 b1 b2 b3 g6 g7 g9 g11 (lim (p * z1)) (lim (r * z2)) (lim cs) u15 u16 u17 u18 u19 u20 u21 u22 u23 u24 u25 u26 u27 u28 u29 u30 u31 u32 u33 u34 u35 u36 u37 u38 u39 u40 u41 (.tuple #[.agg #[.bool X11.neg, .slice X11.A X11.n X11.c], .int .i64 (lim cs)]) (.agg #[.bool X7.neg, .slice X7.A X7.n X7.c]) (.agg #[.bool X9.neg, .slice X9.A X9.n X9.c]) (.tuple #[.agg #[.bool X11.neg, .slice X11.A X11.n X11.c], .int .i64 (lim cs)]) (.agg #[.bool X11.neg, .slice X11.A X11.n X11.c]) (.int .i64 (lim cs)) u59 u60 u61 u62 u63 u64 u65 u66 u67 u68 u69 u70 u71 u72 u73 u74 u75 u76 u77 u78) ?_ ?_ ?_
          · exact ⟨_, _, _, _, _, _, _, _, _, _, _, _, _, rfl, by simp, AddR5.start⟩
          · intro L a wx i hJ hi
            obtain ⟨hlt, hnd, hdep⟩ := ready_spec hi
            obtain ⟨s49, s50, s51, s52, s53, s54, s55, s56, s48, s57, s58, s13, s14, rfl, hsz, h⟩ := hJ
            have hlt2 : i < 14 := hlt
            clear hi hlt
            rcases (by omega : i = 0 ∨ i = 1 ∨ i = 2 ∨ i = 3 ∨ i = 4 ∨ i = 5 ∨ i = 6 ∨ i = 7 ∨ i = 8 ∨ i = 9 ∨ i = 10 ∨ i = 11 ∨ i = 12 ∨ i = 13) with rfl | rfl | rfl | rfl | rfl | rfl | rfl | rfl | rfl | rfl | rfl | rfl | rfl | rfl
            · have l0 := (hS1.on h.bel).c0
              have l1 := (hS1.on h.bel).c1
              have l2 := (hS1.on h.bel).c2
              have l3 := (hS1.on h.bel).c3
              clear hdep
              refine wpOp_step rfl (fun K hK => ?_)
              go_wp2_with fail
              exact ⟨_, _, _, _, _, _, _, _, _, _, _, _, _, rfl, by simp [hsz], h.set0 hnd rfl⟩
            · have d0 : done L 0 := hdep _ rfl { on := 0, ground := Ground.data } (by simp) rfl
              have e0 := h.p0 d0
              subst e0
              clear hdep
              refine wpOp_step rfl (fun K hK => ?_)
              go_wp2_with fail
              refine (Den_b (f := f) hfW h.bel).mono ?_
              rintro e v ⟨r1, rfl, j, k, hr⟩
              go_wp2_with fail
              exact ⟨_, _, _, _, _, _, _, _, _, _, _, _, _, rfl, by simp [hsz], (h.up k).set1 hnd ⟨r1, rfl, hr⟩⟩
            · have l0 := (hO6.on h.bel).c0
              have l1 := (hO6.on h.bel).c1
              clear hdep
              refine wpOp_step rfl (fun K hK => ?_)
              go_wp2_with fail
              exact ⟨_, _, _, _, _, _, _, _, _, _, _, _, _, rfl, by simp [hsz], h.set2 hnd rfl⟩
            · have d1 : done L 1 := hdep _ rfl { on := 1, ground := Ground.data } (by simp) rfl
              have d2 : done L 2 := hdep _ rfl { on := 2, ground := Ground.data } (by simp) rfl
              obtain ⟨x1, e1, hx1⟩ := h.c1 d1
              have e2 := h.p2 d2
              subst e1
              subst e2
              clear hdep
              refine wpOp_step rfl (fun K hK => ?_)
              go_wp2_with fail
              refine (over_b (x := x1) (y := A) hx1 (Below.refl _ _) hA h.bel hA0).mono ?_
              rintro e v ⟨r1, rfl, j, k, hr⟩
              go_wp2_with fail
              exact ⟨_, _, _, _, _, _, _, _, _, _, _, _, _, rfl, by simp [hsz], (h.up k).set3 hnd ⟨r1, rfl, by rw [HZ2.out]; exact hr⟩⟩
            · have l0 := (hS2.on h.bel).c0
              have l1 := (hS2.on h.bel).c1
              have l2 := (hS2.on h.bel).c2
              have l3 := (hS2.on h.bel).c3
              clear hdep
              refine wpOp_step rfl (fun K hK => ?_)
              go_wp2_with fail
              exact ⟨_, _, _, _, _, _, _, _, _, _, _, _, _, rfl, by simp [hsz], h.set4 hnd rfl⟩
            · have d4 : done L 4 := hdep _ rfl { on := 4, ground := Ground.data } (by simp) rfl
              have e4 := h.p4 d4
              subst e4
              clear hdep
              refine wpOp_step rfl (fun K hK => ?_)
              go_wp2_with fail
              refine (Den_b (f := g) hgW h.bel).mono ?_
              rintro e v ⟨r1, rfl, j, k, hr⟩
              go_wp2_with fail
              exact ⟨_, _, _, _, _, _, _, _, _, _, _, _, _, rfl, by simp [hsz], (h.up k).set5 hnd ⟨r1, rfl, hr⟩⟩
            · have d3 : done L 3 := hdep _ rfl { on := 3, ground := Ground.data } (by simp) rfl
              have d5 : done L 5 := hdep _ rfl { on := 5, ground := Ground.data } (by simp) rfl
              obtain ⟨x3, e3, hx3⟩ := h.c3 d3
              obtain ⟨x5, e5, hx5⟩ := h.c5 d5
              subst e3
              subst e5
              clear hdep
              refine wpOp_step rfl (fun K hK => ?_)
              go_wp2_with fail
              exact ⟨_, _, _, _, _, _, _, _, _, _, _, _, _, rfl, by simp [hsz], (h.up (below_new _ _)).set6 hnd ⟨_, x3, x5, rfl, Own.newP _ _ _ _, hx3.on (below_new _ _), hx5.on (below_new _ _)⟩⟩
            · have d6 : done L 6 := hdep _ rfl { on := 6, ground := Ground.data } (by simp) rfl
              obtain ⟨g6, x6, y6, e6, ho6, hx6, hy6⟩ := h.c6 d6
              subst e6
              clear hdep
              refine wpOp_step rfl (fun K hK => ?_)
              go_wp2_with fail
              refine (times_iv ho6 hx6 hy6).mono ?_
              rintro e v ⟨r1, rfl, k, hr⟩
              go_wp2_with fail
              exact ⟨_, _, _, _, _, _, _, _, _, _, _, _, _, rfl, by simp [hsz], (h.up k).set7 hnd ⟨r1, rfl, hr⟩⟩
            · have d7 : done L 7 := hdep _ rfl { on := 7, ground := Ground.data } (by simp) rfl
              obtain ⟨x7, e7, hx7⟩ := h.c7 d7
              subst e7
              clear hdep
              refine wpOp_step rfl (fun K hK => ?_)
              go_wp2_with fail
              exact ⟨_, _, _, _, _, _, _, _, _, _, _, _, _, rfl, by simp [hsz], h.set8 hnd ⟨x7, rfl, hx7⟩⟩
            · have d8 : done L 8 := hdep _ rfl { on := 8, ground := Ground.data } (by simp) rfl
              obtain ⟨x8, e8, hx8⟩ := h.c8 d8
              subst e8
              clear hdep
              refine wpOp_step rfl (fun K hK => ?_)
              go_wp2_with fail
              exact ⟨_, _, _, _, _, _, _, _, _, _, _, _, _, rfl, by simp [hsz], h.set9 hnd ⟨x8, rfl, hx8⟩⟩
            · have d8 : done L 8 := hdep _ rfl { on := 8, ground := Ground.data } (by simp) rfl
              obtain ⟨x8, e8, hx8⟩ := h.c8 d8
              subst e8
              clear hdep
              refine wpOp_step rfl (fun K hK => ?_)
              go_wp2_with fail
              exact ⟨_, _, _, _, _, _, _, _, _, _, _, _, _, rfl, by simp [hsz], h.set10 hnd rfl⟩
            · clear hdep
              refine wpOp_step rfl (fun K hK => ?_)
              go_wp2_with fail
              exact ⟨_, _, _, _, _, _, _, _, _, _, _, _, _, rfl, by simp [hsz], h.set11 hnd⟩
            · have d11 : done L 11 := hdep _ rfl { on := 11, ground := Ground.data } (by simp) rfl
              have d9 : done L 9 := hdep _ rfl { on := 9, ground := Ground.data } (by simp) rfl
              obtain ⟨gb, c0, c1, es, hgb, hO, h0, h1, _⟩ := h.a11 d11
              obtain ⟨x, ex, _⟩ := h.c9 d9
              have hn := h.set12 d11 d9 es ex hgb hO h0 h1
              have z0 := hO.c0
              have z1 := hO.c1
              have f0 := hO.frozen 0
              have f1 := hO.frozen 1
              have HN := Lib.hid hn
              clear hn hdep
              subst es ex
              refine wpOp_step rfl (fun K hK => ?_)
              go_wp2_with fail
              exact ⟨_, _, _, _, _, _, _, _, _, _, _, _, _, rfl, by simp [hsz], HN.out⟩
            · have d10 : done L 10 := hdep _ rfl { on := 10, ground := Ground.data } (by simp) rfl
              have e10 := h.p10 d10
              subst e10
              clear hdep
              refine wpOp_step rfl (fun K hK => ?_)
              go_wp2_with fail
              exact ⟨_, _, _, _, _, _, _, _, _, _, _, _, _, rfl, by simp [hsz], h.set13 hnd rfl⟩
          · intro L a wx hJ hr
            obtain ⟨s49, s50, s51, s52, s53, s54, s55, s56, s48, s57, s58, s13, s14, rfl, hsz, h⟩ := hJ
            have D := all_done hr hsz (by kernel_rfl)
            have D2 : ∀ k, k < 14 → done L k := D
            clear D
            have B8 := IsBox.of (h.a11 (D2 11 (by omega))) (D2 12 (by omega)) (h.c9 (D2 9 (by omega)))
            have E9 := h.p13 (D2 13 (by omega))
            have hbw := h.bel
            clear h D2
            go_wp2_with fail
            go_meet
            exact ⟨B8, E9, hbw⟩
        case rest =>
          obtain ⟨⟨g13, X13, rfl, l13, hO13, hX13⟩, rfl, hbw4⟩ := hcut
          have hS3 := hS3.on hbw4
          have hX11 := hX11.on hbw4
          have hO11 := hO11.on hbw4
          have hB2 := Below.call hB2 hbw4
          have z0 := hS3.c0
          have z10 := hS3.c1
          have z20 := hS3.c2
          have z30 := hS3.c3
          have f0 := hS3.frozen 0
          have f1 := hS3.frozen 1
          have f2 := hS3.frozen 2
          have f3 := hS3.frozen 3
          by_cases hin : addOK p q r s
          · have hin2 := HOK.out.1 hin
            obtain ⟨i1, i2, i3, i4⟩ := hin2
            have c1 := lim_eq i1
            have c2 := lim_eq i2
            have hcs2 : cs = p * z1 + r * z2 := by rw [HCS.out, clip_in i1, clip_in i2]
            have c3 : (lim cs != 0) = false := by rw [hcs2]; exact lim_eq i3
            have c4 := lim_eq i4
            rw [hcs2, clip_in i3] at hX11
            rw [clip_in i4] at hX13
            have y0 := hO11.c0
            have y1 := hO11.c1
            have y2 := hO13.c0
            have y3 := hO13.c1
            have HIN := Lib.hid hin
            clear z0 z10 z20 z30 f0 f1 f2 f3 hin i1 i2 i3 i4 hcs2
            go_wp2_with fail
            refine (Make_any hX11 hX13 (by omega)).mono ?_
            rintro e w3 ⟨f', rfl, hb5, hf'⟩
            have oz := hS3.on hb5
            have hB5 := Below.call hB2 hb5
            have z0 := oz.c0
            have z10 := oz.c1
            have z20 := oz.c2
            have z30 := oz.c3
            have f0 := oz.frozen 0
            have f1 := oz.frozen 1
            have f2 := oz.frozen 2
            have f3 := oz.frozen 3
            rw [HK2.out, HK3.out] at hf'
            have hp := put_frac (err := 0) hB5 hw3 oz (by simp) (by simp) (by simp) (by simp) hf'
            have hO5 := oz.put4 (.bool f'.p.neg) (.slice f'.p.A f'.p.n f'.p.c) (.bool f'.l.neg) (.slice f'.l.A f'.l.n f'.l.c)
            have q0 := hO5.c0
            have q1 := hO5.c1
            have q2 := hO5.c2
            have q3 := hO5.c3
            have HP : Hid (AddL w p q r s (.returned (.tuple #[.agg #[.bool f'.p.neg, .slice f'.p.A f'.p.n f'.p.c, .bool f'.l.neg, .slice f'.l.A f'.l.n f'.l.c], .int .i64 0])) _) := Lib.hid (.inl ⟨HIN.out, hp⟩)
            clear hp hO5
            go_wp2
            exact bodyPost_ret (v := .tuple #[.agg #[.bool f'.p.neg, .slice f'.p.A f'.p.n f'.p.c, .bool f'.l.neg, .slice f'.l.A f'.l.n f'.l.c], .int .i64 0]) (by simp [results, Tryz.results44, go_sem, q0, q1, q2, q3]) rfl HP.out
          · have hp := put_frac (err := 4) hB2 hw3 hS3 (by simp) (by simp) (by simp) (by simp) (FV.zero_is wc)
            have hO5 := hS3.put4 (.bool false) (.slice none 0 0) (.bool false) (.slice none 0 0)
            have q0 := hO5.c0
            have q1 := hO5.c1
            have q2 := hO5.c2
            have q3 := hO5.c3
            have HP : Hid (AddL w p q r s (.returned (.tuple #[.agg #[.bool false, .slice none 0 0, .bool false, .slice none 0 0], .int .i64 4])) _) := Lib.hid (.inr ⟨hin, hp⟩)
            have hcases : (lim (p * z1) != 0) = true ∨ (lim (p * z1) != 0) = false ∧ ((lim (r * z2) != 0) = true ∨ (lim (r * z2) != 0) = false ∧ ((lim cs != 0) = true ∨ (lim cs != 0) = false ∧ (lim (z2 * s) != 0) = true)) := by
              rw [HOK.out] at hin
              by_cases h1 : (p * z1).natAbs < top
              · refine .inr ⟨lim_eq h1, ?_⟩
                by_cases h2 : (r * z2).natAbs < top
                · refine .inr ⟨lim_eq h2, ?_⟩
                  rw [HCS.out, clip_in h1, clip_in h2]
                  by_cases h3 : (p * z1 + r * z2).natAbs < top
                  · refine .inr ⟨lim_eq h3, ?_⟩
                    by_cases h4 : (z2 * s).natAbs < top
                    · exact absurd ⟨h1, h2, h3, h4⟩ hin
                    · exact lim_ne h4
                  · exact .inl (lim_ne h3)
                · exact .inl (lim_ne h2)
              · exact .inl (lim_ne h1)
            clear hp hO5 hin
            rcases hcases with c1 | ⟨c1, c2 | ⟨c2, c3 | ⟨c3, c4⟩⟩⟩
            all_goals
              go_wp2
              exact bodyPost_ret (v := .tuple #[.agg #[.bool false, .slice none 0 0, .bool false, .slice none 0 0], .int .i64 4]) (by simp [results, Tryz.results44, go_sem, q0, q1, q2, q3]) rfl HP.out
end Go.Proofs.YtfbbnphpapmpcaaGreatDoor
