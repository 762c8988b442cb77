/-
  Contracts of package frac: Den, Num, lowest.
-/
import Derived.Test.YthafhbogpfggjaaGreatDoorF1
namespace Go.Proofs.YthafhbogpfggjaaGreatDoor
open Go.RowKit Mag

/-- The parts of a Frac; what it stands for: p over q in lowest terms. -/
structure FV where
  p : IV
  l : IV
structure FV.is (f : FV) (w : World) (p q : Int) : Prop where
  num : f.p.is w p
  less : f.l.is w (q - 1)
  pos : 0 < q
  fits : q.natAbs < top
  cop : Int.gcd p q = 1
theorem FV.is.on {f : FV} {w w' : World} {p q : Int} (h : f.is w p q) (hb : Below w.heap.size w w') : f.is w' p q := ⟨h.num.on hb, h.less.on hb, h.pos, h.fits, h.cop⟩
def FV.zero : FV := ⟨IV.zero, IV.zero⟩
theorem one_fits : (1 : Int).natAbs < top := by
  rw [top_eq]
  exact Nat.lt_of_lt_of_le (by decide : 1 < 4294967296 ^ 1) (Nat.pow_le_pow_right (by decide) (by rw [topW_eq]; decide))
theorem FV.zero_is (w : World) : FV.zero.is w 0 1 := ⟨IV.zero_is w, IV.zero_is w, by decide, one_fits, by decide⟩
theorem IV.is.of_drew {x : IV} {w : World} {z : Int} (h : x.is w z) : x.is w.drew z := WI.of_drew h

theorem Own.drew {w : World} {g : Nat} {t : TypeId} {xs : List Value} (h : Own w g t xs) : Own w.drew g t xs := h
theorem Own.new4 (w : World) (t : TypeId) (a b c d : Value) : Own (w.alloc (.cells #[a, b, c, d] t)) w.heap.size t [a, b, c, d] := Own.new w t [a, b, c, d]
theorem Own.newF (w : World) (t : TypeId) (f : FV) : Own (w.alloc (.cells #[.bool f.p.neg, .slice f.p.A f.p.n f.p.c, .bool f.l.neg, .slice f.l.A f.l.n f.l.c] t)) w.heap.size t [.bool f.p.neg, .slice f.p.A f.p.n f.p.c, .bool f.l.neg, .slice f.l.A f.l.n f.l.c] := Own.new w t [.bool f.p.neg, .slice f.p.A f.p.n f.p.c, .bool f.l.neg, .slice f.l.A f.l.n f.l.c]
theorem Own.newI (w : World) (t : TypeId) (x : IV) : Own (w.alloc (.cells #[.bool x.neg, .slice x.A x.n x.c] t)) w.heap.size t [.bool x.neg, .slice x.A x.n x.c] := Own.new w t [.bool x.neg, .slice x.A x.n x.c]

set_option maxRecDepth 100000 in
set_option maxHeartbeats 800000 in
theorem Den_any {f : FV} {p q : Int} {w : World} (hf : f.is w p q) : Calls Tryz.prog 93 #[.agg #[.bool f.p.neg, .slice f.p.A f.p.n f.p.c, .bool f.l.neg, .slice f.l.A f.l.n f.l.c]] w (IntP w q) := by
  go_enter Tryz.func93, Tryz.ntmps93
  go_wp2_with fail
  have hF := (Own.newF w 31 f).alloc (.cells #[.bool false, .slice none 0 0] 29)
  have hO := Own.new2 (w.alloc (.cells #[.bool f.p.neg, .slice f.p.A f.p.n f.p.c, .bool f.l.neg, .slice f.l.A f.l.n f.l.c] 31)) 29 (.bool false) (.slice none 0 0)
  have hB : Below w.heap.size w ((w.alloc (.cells #[.bool f.p.neg, .slice f.p.A f.p.n f.p.c, .bool f.l.neg, .slice f.l.A f.l.n f.l.c] 31)).alloc (.cells #[.bool false, .slice none 0 0] 29)) := by go_grown
  have hg : (w.alloc (.cells #[.bool f.p.neg, .slice f.p.A f.p.n f.p.c, .bool f.l.neg, .slice f.l.A f.l.n f.l.c] 31)).heap.size = w.heap.size + 1 := by simp
  rw [hg] at hO
  clear hg
  generalize (w.alloc (.cells #[.bool f.p.neg, .slice f.p.A f.p.n f.p.c, .bool f.l.neg, .slice f.l.A f.l.n f.l.c] 31)).alloc (.cells #[.bool false, .slice none 0 0] 29) = W at hF hO hB ⊢
  have hl := hf.less.on hB
  go_region_held3 (fun w' => w'.cell? ⟨w.heap.size, 2, none⟩ = some (.bool f.l.neg) ∧ w'.cell? ⟨w.heap.size, 3, none⟩ = some (.slice f.l.A f.l.n f.l.c)) (first | exact ⟨hF.c2, hF.c3⟩ | exact ⟨hF1.c2, hF1.c3⟩ | exact ⟨hF2.c2, hF2.c3⟩ | exact ⟨hF3.c2, hF3.c3⟩ | exact ⟨hF4.c2, hF4.c3⟩)
    (first
      | (go_at_call 37; refine (from_iv 1 _ (by omega) (by omega)).mono ?_; rintro e w1 ⟨r1, rfl, hb1', hr1⟩; have hb1 := Below.of_drew hb1'; have hF1 := hF.on hb1; have hO1 := hO.on hb1; have hl1 := hl.on hb1; have hB1 := Below.call hB hb1)
      | (go_at_call 48; refine (add_iv hl1 hr1).mono ?_; rintro e w2 ⟨r2, rfl, hb2, hr2⟩; have hF2 := hF1.on hb2; have hO2 := hO1.on hb2; have hB2 := Below.call hB1 hb2)
      | (go_at_call 140; refine must_iv.mono ?_; rintro e w3 ⟨rfl, hb3⟩; have hF3 := hF2.on hb3; have hO3 := hO2.on hb3; have hB3 := Below.call hB2 hb3; have hr3 := hr2.on hb3; have z0 := hO3.c0; have z1 := hO3.c1; have f0 := hO3.frozen 0; have f1 := hO3.frozen 1; have hF4 := (hF3.far (p := ⟨w.heap.size + 1, 0, none⟩) (by simp) (.bool r2.neg)).far (p := ⟨w.heap.size + 1, 1, none⟩) (by simp) (.slice r2.A r2.n r2.c)))
  rw [show q - 1 + 1 = q by omega, clip_in hf.fits] at hr3
  obtain ⟨hp, hO5⟩ := put_int hB3 (by omega) hO3 (by simp) (by simp) hr3
  have q0 := hO5.c0
  have q1 := hO5.c1
  have HP := Lib.hid hp
  clear hp hO5 hF4
  go_wp2
  exact bodyPost_ret (v := .agg #[.bool r2.neg, .slice r2.A r2.n r2.c]) (by simp [results, Tryz.results93, go_sem, q0, q1]) rfl HP.out

theorem Num_any {f : FV} {w : World} : Calls Tryz.prog 92 #[.agg #[.bool f.p.neg, .slice f.p.A f.p.n f.p.c, .bool f.l.neg, .slice f.l.A f.l.n f.l.c]] w fun e w' => e = .returned (.agg #[.bool f.p.neg, .slice f.p.A f.p.n f.p.c]) ∧ Below w.heap.size w w' := by
  go_enter Tryz.func92, Tryz.ntmps92
  go_wp2
  go_returns
  exact ⟨rfl, by go_grown⟩

/-- A Frac for p over q, and an error. -/
def FracE (w : World) (p q err : Int) (e : Ending) (w' : World) : Prop := ∃ f : FV, e = .returned (.tuple #[.agg #[.bool f.p.neg, .slice f.p.A f.p.n f.p.c, .bool f.l.neg, .slice f.l.A f.l.n f.l.c], .int .i64 err]) ∧ Below w.heap.size w w' ∧ f.is w' p q
theorem FracE.on {w w1 w2 : World} {p q err : Int} {e : Ending} (h : FracE w p q err e w1) (hb : Below w1.heap.size w1 w2) : FracE w p q err e w2 := by
  obtain ⟨r, h1, h2, h3⟩ := h
  exact ⟨r, h1, h2.trans (hb.mono h2.size), h3.on hb⟩

set_option maxRecDepth 100000 in
theorem lowest_err {x y : IV} {e1 e2 : Int} {w : World} (he : (e1 != 0 || e2 != 0) = true) : Calls Tryz.prog 134 #[.agg #[.bool x.neg, .slice x.A x.n x.c], .agg #[.bool y.neg, .slice y.A y.n y.c], .int .i64 e1, .int .i64 e2] w (FracE w 0 1 4) := by
  by_cases h1 : (e1 != 0) = true
  · go_enter Tryz.func134, Tryz.ntmps134
    go_wp2
    go_returns
    exact ⟨FV.zero, rfl, by go_grown, FV.zero_is _⟩
  · have h1' : (e1 != 0) = false := by simpa using h1
    have h2 : (e2 != 0) = true := by rw [h1'] at he; simpa using he
    clear h1 he
    go_enter Tryz.func134, Tryz.ntmps134
    go_wp2
    go_returns
    exact ⟨FV.zero, rfl, by go_grown, FV.zero_is _⟩
theorem IV.is.put4 {x : IV} {w : World} {z : Int} (h : x.is w z) {g : Nat} {t : TypeId} {a b c d : Value} (hO : Own w g t [a, b, c, d]) (ha : ∀ n, a ≠ .int .u32 n) (hb : ∀ n, b ≠ .int .u32 n) (hc : ∀ n, c ≠ .int .u32 n) (hd : ∀ n, d ≠ .int .u32 n) (u v s r : Value) :
    x.is ((((w.setCell ⟨g, 0, none⟩ u).setCell ⟨g, 1, none⟩ v).setCell ⟨g, 2, none⟩ s).setCell ⟨g, 3, none⟩ r) z := by
  refine (((WI.put h hO.c0 ha u).put (v := b) ?_ hb v).put (v := c) ?_ hc s).put (v := d) ?_ hd r
  · rw [cell_put _ _ (by intro e; injection e with _ e; omega)]; exact hO.c1
  · rw [cell_put _ _ (by intro e; injection e with _ e; omega), cell_put _ _ (by intro e; injection e with _ e; omega)]; exact hO.c2
  · rw [cell_put _ _ (by intro e; injection e with _ e; omega), cell_put _ _ (by intro e; injection e with _ e; omega), cell_put _ _ (by intro e; injection e with _ e; omega)]; exact hO.c3
theorem Own.put4 {w : World} {g : Nat} {t : TypeId} {a b c d : Value} (hO : Own w g t [a, b, c, d]) (u v s r : Value) : Own ((((w.setCell ⟨g, 0, none⟩ u).setCell ⟨g, 1, none⟩ v).setCell ⟨g, 2, none⟩ s).setCell ⟨g, 3, none⟩ r) g t [u, v, s, r] :=
  (((hO.set_ 0 u).set_ 1 v).set_ 2 s).set_ 3 r
theorem Below.put4 {B : Nat} {a w : World} {g : Nat} (h : Below B a w) (hg : B ≤ g) (u v s r : Value) : Below B a ((((w.setCell ⟨g, 0, none⟩ u).setCell ⟨g, 1, none⟩ v).setCell ⟨g, 2, none⟩ s).setCell ⟨g, 3, none⟩ r) :=
  (((h.setCell hg u).setCell hg v).setCell hg s).setCell hg r
/-- A Frac is put into its block. -/
theorem put_frac {w w1 : World} {g : Nat} {t : TypeId} {a b c d : Value} (hW : Below w.heap.size w w1) (hg : w.heap.size ≤ g) (hO : Own w1 g t [a, b, c, d]) (ha : ∀ n, a ≠ .int .u32 n) (hb : ∀ n, b ≠ .int .u32 n) (hc : ∀ n, c ≠ .int .u32 n) (hd : ∀ n, d ≠ .int .u32 n) {f : FV} {p q err : Int} (hf : f.is w1 p q) :
    FracE w p q err (.returned (.tuple #[.agg #[.bool f.p.neg, .slice f.p.A f.p.n f.p.c, .bool f.l.neg, .slice f.l.A f.l.n f.l.c], .int .i64 err])) ((((w1.setCell ⟨g, 0, none⟩ (.bool f.p.neg)).setCell ⟨g, 1, none⟩ (.slice f.p.A f.p.n f.p.c)).setCell ⟨g, 2, none⟩ (.bool f.l.neg)).setCell ⟨g, 3, none⟩ (.slice f.l.A f.l.n f.l.c)) :=
  ⟨f, rfl, Below.put4 hW hg _ _ _ _, ⟨hf.num.put4 hO ha hb hc hd _ _ _ _, hf.less.put4 hO ha hb hc hd _ _ _ _, hf.pos, hf.fits, hf.cop⟩⟩

set_option maxRecDepth 100000 in
set_option maxHeartbeats 800000 in
theorem lowest_ok {x y : IV} {p q : Int} {w : World} (hx : x.is w p) (hy : y.is w q) (hq : 0 < q) (hc : Int.gcd p q = 1) : Calls Tryz.prog 134 #[.agg #[.bool x.neg, .slice x.A x.n x.c], .agg #[.bool y.neg, .slice y.A y.n y.c], .int .i64 0, .int .i64 0] w (FracE w p q 0) := by
  have hqf := hy.fits
  go_enter Tryz.func134, Tryz.ntmps134
  go_wp2_with fail
  have hX := ((Own.newI w 29 x).alloc (.cells #[.bool y.neg, .slice y.A y.n y.c] 29)).alloc (.cells #[.bool false, .slice none 0 0, .bool false, .slice none 0 0] 31)
  have hY := (Own.newI (w.alloc (.cells #[.bool x.neg, .slice x.A x.n x.c] 29)) 29 y).alloc (.cells #[.bool false, .slice none 0 0, .bool false, .slice none 0 0] 31)
  have hO := Own.new4 ((w.alloc (.cells #[.bool x.neg, .slice x.A x.n x.c] 29)).alloc (.cells #[.bool y.neg, .slice y.A y.n y.c] 29)) 31 (.bool false) (.slice none 0 0) (.bool false) (.slice none 0 0)
  have hB : Below w.heap.size w (((w.alloc (.cells #[.bool x.neg, .slice x.A x.n x.c] 29)).alloc (.cells #[.bool y.neg, .slice y.A y.n y.c] 29)).alloc (.cells #[.bool false, .slice none 0 0, .bool false, .slice none 0 0] 31)) := by go_grown
  have hg : ((w.alloc (.cells #[.bool x.neg, .slice x.A x.n x.c] 29)).alloc (.cells #[.bool y.neg, .slice y.A y.n y.c] 29)).heap.size = w.heap.size + 1 + 1 := by simp
  have hg2 : (w.alloc (.cells #[.bool x.neg, .slice x.A x.n x.c] 29)).heap.size = w.heap.size + 1 := by simp
  rw [hg] at hO
  rw [hg2] at hY
  clear hg hg2
  generalize (((w.alloc (.cells #[.bool x.neg, .slice x.A x.n x.c] 29)).alloc (.cells #[.bool y.neg, .slice y.A y.n y.c] 29)).alloc (.cells #[.bool false, .slice none 0 0, .bool false, .slice none 0 0] 31)) = W at hX hY hO hB ⊢
  have hx1 := hx.on hB
  have hy1 := hy.on hB
  go_region_held3 (fun w' => w'.cell? ⟨w.heap.size, 0, none⟩ = some (.bool x.neg) ∧ w'.cell? ⟨w.heap.size, 1, none⟩ = some (.slice x.A x.n x.c) ∧ w'.cell? ⟨w.heap.size + 1, 0, none⟩ = some (.bool y.neg) ∧ w'.cell? ⟨w.heap.size + 1, 1, none⟩ = some (.slice y.A y.n y.c))
    (first | with_reducible exact ⟨hX.drew.c0, hX.drew.c1, hY.drew.c0, hY.drew.c1⟩ | with_reducible exact ⟨hX1.c0, hX1.c1, hY1.c0, hY1.c1⟩ | with_reducible exact ⟨hX2.c0, hX2.c1, hY2.c0, hY2.c1⟩ | with_reducible exact ⟨hX3.c0, hX3.c1, hY3.c0, hY3.c1⟩ | with_reducible exact ⟨hX4.c0, hX4.c1, hY4.c0, hY4.c1⟩)
    (first
      | (go_at_call 37; refine (from_iv 1 _ (by omega) (by omega)).mono ?_; rintro e w1 ⟨r1, rfl, hb1', hr1⟩; have hb1 := Below.of_drew hb1'; have hX1 := hX.on hb1; have hY1 := hY.on hb1; have hO1 := hO.on hb1; have hx2 := hx1.on hb1; have hy2 := hy1.on hb1; have hB1 := Below.call hB hb1)
      | (go_at_call 49; refine (sub_iv hy2 hr1).mono ?_; rintro e w2 ⟨r2, rfl, hb2, hr2⟩; have hX2 := hX1.on hb2; have hY2 := hY1.on hb2; have hO2 := hO1.on hb2; have hx3 := hx2.on hb2; have hB2 := Below.call hB1 hb2)
      | (go_at_call 140; refine must_iv.mono ?_; rintro e w3 ⟨rfl, hb3⟩; have hX3 := hX2.on hb3; have hY3 := hY2.on hb3; have hO3 := hO2.on hb3; have hx4 := hx3.on hb3; have hB3 := Below.call hB2 hb3; have hr3 := hr2.on hb3; have z0 := hO3.c0; have z1 := hO3.c1; have z2 := hO3.c2; have z3 := hO3.c3; have f0 := hO3.frozen 0; have f1 := hO3.frozen 1; have f2 := hO3.frozen 2; have f3 := hO3.frozen 3; have hX4 := (((hX3.far (p := ⟨w.heap.size + 1 + 1, 0, none⟩) (by simp; omega) (.bool x.neg)).far (p := ⟨w.heap.size + 1 + 1, 1, none⟩) (by simp; omega) (.slice x.A x.n x.c)).far (p := ⟨w.heap.size + 1 + 1, 2, none⟩) (by simp; omega) (.bool r2.neg)).far (p := ⟨w.heap.size + 1 + 1, 3, none⟩) (by simp; omega) (.slice r2.A r2.n r2.c); have hY4 := (((hY3.far (p := ⟨w.heap.size + 1 + 1, 0, none⟩) (by simp) (.bool x.neg)).far (p := ⟨w.heap.size + 1 + 1, 1, none⟩) (by simp) (.slice x.A x.n x.c)).far (p := ⟨w.heap.size + 1 + 1, 2, none⟩) (by simp) (.bool r2.neg)).far (p := ⟨w.heap.size + 1 + 1, 3, none⟩) (by simp) (.slice r2.A r2.n r2.c)))
  rw [clip_in (by omega)] at hr3
  have hfr : FV.is ⟨x, r2⟩ w3 p q := ⟨hx4, hr3, hq, hqf, hc⟩
  have hp := put_frac hB3 (err := 0) (by omega) hO3 (by simp) (by simp) (by simp) (by simp) hfr
  have hO5 := hO3.put4 (.bool x.neg) (.slice x.A x.n x.c) (.bool r2.neg) (.slice r2.A r2.n r2.c)
  have q0 := hO5.c0
  have q1 := hO5.c1
  have q2 := hO5.c2
  have q3 := hO5.c3
  have HP := Lib.hid hp
  clear hp hO5 hX4 hY4
  go_wp2
  exact bodyPost_ret (v := .tuple #[.agg #[.bool x.neg, .slice x.A x.n x.c, .bool r2.neg, .slice r2.A r2.n r2.c], .int .i64 0]) (by simp [results, Tryz.results134, go_sem, q0, q1, q2, q3]) rfl HP.out
end Go.Proofs.YthafhbogpfggjaaGreatDoor
