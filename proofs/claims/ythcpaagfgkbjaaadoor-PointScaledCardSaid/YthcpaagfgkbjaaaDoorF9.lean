/-
  Contracts of package frac: Sub, Div.
-/
import Derived.Test.YthcpaagfgkbjaaaDoorF8
import Derived.Test.YthcpaagfgkbjaaaDoorF7
namespace Go.Proofs.YthcpaagfgkbjaaaDoor
open Go.RowKit Mag

theorem IV.is.fits_neg {x : IV} {w : World} {z : Int} (h : x.is w z) : (-z).natAbs < top := by rw [Int.natAbs_neg]; exact h.fits
theorem FV.is.neg {f : FV} {w : World} {p q : Int} (h : f.is w p q) {x : IV} (hx : x.is w (-p)) : FV.is ⟨x, f.l⟩ w (-p) q := ⟨hx, h.less, h.pos, h.fits, by rw [Int.neg_gcd]; exact h.cop⟩

/-- What Add's result is, without its ending. -/
def AddS (p q r s P Q err : Int) : Prop := (addOK p q r s ∧ P = mkP (p * s + r * q) (q * s) ∧ Q = mkQ (p * s + r * q) (q * s) ∧ err = 0) ∨ (¬ addOK p q r s ∧ P = 0 ∧ Q = 1 ∧ err = 4)
theorem AddL.open_ {w w' : World} {p q r s : Int} {e : Ending} (h : AddL w p q r s e w') : ∃ err f P Q, e = .returned (.tuple #[.agg #[.bool f.p.neg, .slice f.p.A f.p.n f.p.c, .bool f.l.neg, .slice f.l.A f.l.n f.l.c], .int .i64 err]) ∧ Below w.heap.size w w' ∧ FV.is f w' P Q ∧ AddS p q r s P Q err := by
  rcases h with ⟨h1, f, h2, h3, h4⟩ | ⟨h1, f, h2, h3, h4⟩
  · exact ⟨0, f, _, _, h2, h3, h4, .inl ⟨h1, rfl, rfl, rfl⟩⟩
  · exact ⟨4, f, _, _, h2, h3, h4, .inr ⟨h1, rfl, rfl, rfl⟩⟩
theorem AddL.of {w w' : World} {p q r s P Q err : Int} {e : Ending} (h : AddS p q r s P Q err) (hp : FracE w P Q err e w') : AddL w p q r s e w' := by
  rcases h with ⟨h1, rfl, rfl, rfl⟩ | ⟨h1, rfl, rfl, rfl⟩
  · exact .inl ⟨h1, hp⟩
  · exact .inr ⟨h1, hp⟩

set_option maxRecDepth 100000 in
set_option maxHeartbeats 1600000 in
theorem SubF_any {f g : FV} {p q r s : Int} {w : World} (hf : f.is w p q) (hg : g.is w r s) : Calls Tryd.prog 16 #[.agg #[.bool f.p.neg, .slice f.p.A f.p.n f.p.c, .bool f.l.neg, .slice f.l.A f.l.n f.l.c], .agg #[.bool g.p.neg, .slice g.p.A g.p.n g.p.c, .bool g.l.neg, .slice g.l.A g.l.n g.l.c]] w (AddL w p q (-r) s) := by
  go_enter Tryd.func16, Tryd.ntmps16
  have hS := TwoSt.start hf hg
  go_upto_region 1 with fail
  generalize ((w.alloc (.cells #[.bool f.p.neg, .slice f.p.A f.p.n f.p.c, .bool f.l.neg, .slice f.l.A f.l.n f.l.c] 29)).alloc (.cells #[.bool g.p.neg, .slice g.p.A g.p.n g.p.c, .bool g.l.neg, .slice g.l.A g.l.n g.l.c] 29)).alloc (.cells #[.bool false, .slice none 0 0, .bool false, .slice none 0 0] 29) = W at hS ⊢
  obtain ⟨b1, hb1⟩ : ∃ b1, b1 = w.heap.size := ⟨_, rfl⟩
  obtain ⟨b2, hb2⟩ : ∃ b2, b2 = w.heap.size + 1 := ⟨_, rfl⟩
  obtain ⟨b3, hb3⟩ : ∃ b3, b3 = w.heap.size + 1 + 1 := ⟨_, rfl⟩
  have hS1 := hS.of_
  have hS2 := hS.og
  have hS3 := hS.oz
  rw [← hb1] at hS1
  rw [← hb2] at hS2
  rw [← hb3] at hS3
  rw [← hb3, ← hb2, ← hb1]
  have hfW := hS.if_
  have hgW := hS.ig
  have hBW := hS.bel
  have hw3 : w.heap.size ≤ b3 := by omega
  have m1 : b1 ≠ b3 := by omega
  have m2 : b2 ≠ b3 := by omega
  clear hS hb1 hb2 hb3
  go_region_held3 (fun w' => w'.cell? ⟨b1, 0, none⟩ = some (.bool f.p.neg) ∧ w'.cell? ⟨b1, 1, none⟩ = some (.slice f.p.A f.p.n f.p.c) ∧ w'.cell? ⟨b1, 2, none⟩ = some (.bool f.l.neg) ∧ w'.cell? ⟨b1, 3, none⟩ = some (.slice f.l.A f.l.n f.l.c) ∧
      w'.cell? ⟨b2, 0, none⟩ = some (.bool g.p.neg) ∧ w'.cell? ⟨b2, 1, none⟩ = some (.slice g.p.A g.p.n g.p.c) ∧ w'.cell? ⟨b2, 2, none⟩ = some (.bool g.l.neg) ∧ w'.cell? ⟨b2, 3, none⟩ = some (.slice g.l.A g.l.n g.l.c))
    (first | with_reducible exact ⟨hS1.drew.c0, hS1.drew.c1, hS1.drew.c2, hS1.drew.c3, hS2.drew.c0, hS2.drew.c1, hS2.drew.c2, hS2.drew.c3⟩ | with_reducible exact ⟨hT1.c0, hT1.c1, hT1.c2, hT1.c3, hT2.c0, hT2.c1, hT2.c2, hT2.c3⟩ | with_reducible exact ⟨hU1.c0, hU1.c1, hU1.c2, hU1.c3, hU2.c0, hU2.c1, hU2.c2, hU2.c3⟩ | with_reducible exact ⟨hV1.c0, hV1.c1, hV1.c2, hV1.c3, hV2.c0, hV2.c1, hV2.c2, hV2.c3⟩)
    (first
      | (go_at_call 45; (with_reducible refine (neg_iv (x := g.p) hgW.num.of_drew).mono ?_); rintro e w1 ⟨x, rfl, k1, hx⟩; have hT1 := hS1.drew.on k1; have hT2 := hS2.drew.on k1; have hT3 := hS3.drew.on k1; have hf1 := hfW.drew.on k1; have hg1 := (hgW.drew.on k1).neg hx; have hB1 := Below.call (Below.drew hBW) k1)
      | (go_at_call 37; (with_reducible refine (AddF_any (f := f) (g := ⟨x, g.l⟩) hf1 hg1).mono ?_); rintro e w2 hadd; obtain ⟨err, f', P, Q, rfl, k2, hf', hspec⟩ := AddL.open_ hadd; have hU1 := hT1.on k2; have hU2 := hT2.on k2; have hU3 := hT3.on k2; have hB2 := Below.call hB1 k2; have z0 := hU3.c0; have z10 := hU3.c1; have z20 := hU3.c2; have z30 := hU3.c3; have f0 := hU3.frozen 0; have f1 := hU3.frozen 1; have f2 := hU3.frozen 2; have f3 := hU3.frozen 3; have hV1 := hU1.put4far m1 (.bool f'.p.neg) (.slice f'.p.A f'.p.n f'.p.c) (.bool f'.l.neg) (.slice f'.l.A f'.l.n f'.l.c); have hV2 := hU2.put4far m2 (.bool f'.p.neg) (.slice f'.p.A f'.p.n f'.p.c) (.bool f'.l.neg) (.slice f'.l.A f'.l.n f'.l.c)))
  have hp := put_frac (err := err) hB2 hw3 hU3 (by simp) (by simp) (by simp) (by simp) hf'
  have hO5 := hU3.put4 (.bool f'.p.neg) (.slice f'.p.A f'.p.n f'.p.c) (.bool f'.l.neg) (.slice f'.l.A f'.l.n f'.l.c)
  have q0 := hO5.c0
  have q1 := hO5.c1
  have q2 := hO5.c2
  have q3 := hO5.c3
  have HP := Lib.hid (AddL.of hspec hp)
  clear hp hO5 hV1 hV2 hadd
  go_wp2
  exact bodyPost_ret (v := .tuple #[.agg #[.bool f'.p.neg, .slice f'.p.A f'.p.n f'.p.c, .bool f'.l.neg, .slice f'.l.A f'.l.n f'.l.c], .int .i64 err]) (by simp [results, Tryd.results16, go_sem, q0, q1, q2, q3]) rfl HP.out
end Go.Proofs.YthcpaagfgkbjaaaDoor
