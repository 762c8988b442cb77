/-
  Contracts of package frac: must, over, Den, Num, lowest.
-/
import Derived.Test.YtfbbnphpapmpcaaGreatDoorW16
import Derived.Deep.DeepCutAuto
import Derived.Deep.RegionWith
import Derived.Test.YtfbbnphpapmpcaaGreatDoorReg
namespace Go.Proofs.YtfbbnphpapmpcaaGreatDoor
open Go.RowKit Mag

theorem IntP.on {w w1 w2 : World} {z : Int} {e : Ending} (h : IntP w z e w1) (hb : Below w1.heap.size w1 w2) : IntP w z e w2 := by
  obtain ⟨r, h1, h2, h3⟩ := h
  exact ⟨r, h1, h2.trans (hb.mono h2.size), h3.on hb⟩
/-- A result is put into its block. -/
theorem put_int {w w1 : World} {g : Nat} {t : TypeId} {a b : Value} (hW : Below w.heap.size w w1) (hg : w.heap.size ≤ g) (hO : Own w1 g t [a, b]) (ha : ∀ n, a ≠ .int .u32 n) (hb : ∀ n, b ≠ .int .u32 n) {r : IV} {z : Int} (hr : r.is w1 z) :
    IntP w z (.returned (.agg #[.bool r.neg, .slice r.A r.n r.c])) ((w1.setCell ⟨g, 0, none⟩ (.bool r.neg)).setCell ⟨g, 1, none⟩ (.slice r.A r.n r.c)) ∧ Own ((w1.setCell ⟨g, 0, none⟩ (.bool r.neg)).setCell ⟨g, 1, none⟩ (.slice r.A r.n r.c)) g t [.bool r.neg, .slice r.A r.n r.c] :=
  ⟨⟨r, rfl, Below.put2 hW hg _ _, hr.put2 hO ha hb _ _⟩, hO.put2 _ _⟩

theorem must_iv {x : IV} {err : Int} {w : World} : Calls Tryz.prog 57 #[.agg #[.bool x.neg, .slice x.A x.n x.c], .int .i64 err] w fun e w' => e = .returned (.agg #[.bool x.neg, .slice x.A x.n x.c]) ∧ Below w.heap.size w w' := by
  go_enter Tryz.func57, Tryz.ntmps57
  go_wp2
  go_returns
  exact ⟨rfl, by go_grown⟩

set_option maxRecDepth 100000 in
set_option maxHeartbeats 800000 in
theorem over_iv {x y : IV} {a b : Int} {w : World} (hx : x.is w a) (hy : y.is w b) (h0 : b ≠ 0) : Calls Tryz.prog 71 #[.agg #[.bool x.neg, .slice x.A x.n x.c], .agg #[.bool y.neg, .slice y.A y.n y.c]] w (IntP w (a / b)) := by
  go_enter Tryz.func71, Tryz.ntmps71
  go_wp2_with fail
  have hO := Own.new2 ((w.alloc (.cells #[.bool x.neg, .slice x.A x.n x.c] 29)).alloc (.cells #[.bool y.neg, .slice y.A y.n y.c] 29)) 29 (.bool false) (.slice none 0 0)
  have hB : Below w.heap.size w (((w.alloc (.cells #[.bool x.neg, .slice x.A x.n x.c] 29)).alloc (.cells #[.bool y.neg, .slice y.A y.n y.c] 29)).alloc (.cells #[.bool false, .slice none 0 0] 29)) := by go_grown
  have hg : ((w.alloc (.cells #[.bool x.neg, .slice x.A x.n x.c] 29)).alloc (.cells #[.bool y.neg, .slice y.A y.n y.c] 29)).heap.size = w.heap.size + 1 + 1 := by simp
  rw [hg] at hO
  clear hg
  generalize ((w.alloc (.cells #[.bool x.neg, .slice x.A x.n x.c] 29)).alloc (.cells #[.bool y.neg, .slice y.A y.n y.c] 29)).alloc (.cells #[.bool false, .slice none 0 0] 29) = W at hO hB ⊢
  refine (div_iv (hx.on hB) (hy.on hB) h0).mono ?_
  rintro e w1 ⟨q, r, rfl, hb1, hq, hr⟩
  have hb2 := (below_new w1 (.cells #[.bool q.neg, .slice q.A q.n q.c] 29)).trans ((below_new (w1.alloc (.cells #[.bool q.neg, .slice q.A q.n q.c] 29)) (.cells #[.bool r.neg, .slice r.A r.n r.c] 29)).mono (by simp))
  have hQ2 := (Own.new2 w1 29 (.bool q.neg) (.slice q.A q.n q.c)).alloc (.cells #[.bool r.neg, .slice r.A r.n r.c] 29)
  go_upto_region 2 with fail
  generalize (w1.alloc (.cells #[.bool q.neg, .slice q.A q.n q.c] 29)).alloc (.cells #[.bool r.neg, .slice r.A r.n r.c] 29) = w2 at hb2 hQ2 ⊢
  have hO1 := (hO.on hb1).on hb2
  have hB1 := Below.call (Below.call hB hb1) hb2
  have z0 := hO1.c0
  have z1 := hO1.c1
  have f0 := hO1.frozen 0
  have f1 := hO1.frozen 1
  have y0 := hQ2.c0
  have y1 := hQ2.c1
  obtain ⟨hp, hO2⟩ := put_int hB1 (by omega) hO1 (by simp) (by simp) (hq.on hb2)
  have q0 := hO2.c0
  have q1 := hO2.c1
  have HP := Lib.hid hp
  clear hp hO2 hO
  go_wp2
  exact bodyPost_ret (v := .agg #[.bool q.neg, .slice q.A q.n q.c]) (by simp [results, Tryz.results71, go_sem, q0, q1]) rfl HP.out
/-- The state of a product of two Ints at a round's head. -/
structure TimSt (w : World) (g gt : Nat) (x y : IV) (a b z : Int) (r : IV) (wr : World) : Prop where
  arg : Own wr g 29 [.bool x.neg, .slice x.A x.n x.c, .bool y.neg, .slice y.A y.n y.c]
  res : Own wr w.heap.size 29 [.bool false, .slice none 0 0]
  acc : Own wr gt 29 [.bool r.neg, .slice r.A r.n r.c]
  ix : x.is wr a
  iy : y.is wr b
  ir : r.is wr z
  bel : Below w.heap.size w wr
theorem TimSt.on {w wr w' : World} {g gt : Nat} {x y : IV} {a b z : Int} {r : IV} (h : TimSt w g gt x y a b z r wr) (hb : Below wr.heap.size wr w') : TimSt w g gt x y a b z r w' :=
  ⟨h.arg.on hb, h.res.on hb, h.acc.on hb, h.ix.on hb, h.iy.on hb, h.ir.on hb, Below.call h.bel hb⟩
theorem TimSt.put {w wr : World} {g gt : Nat} {x y : IV} {a b z : Int} {r : IV} (h : TimSt w g gt x y a b z r wr) (h1 : g ≠ gt) (h2 : w.heap.size ≠ gt) (hB : w.heap.size ≤ gt) {q : IV} {z' : Int} (hq : q.is wr z') :
    TimSt w g gt x y a b z' q ((wr.setCell ⟨gt, 0, none⟩ (.bool q.neg)).setCell ⟨gt, 1, none⟩ (.slice q.A q.n q.c)) := by
  refine ⟨?_, ?_, h.acc.put2 _ _, h.ix.put2 h.acc (by simp) (by simp) _ _, h.iy.put2 h.acc (by simp) (by simp) _ _, hq.put2 h.acc (by simp) (by simp) _ _, Below.put2 h.bel hB _ _⟩
  · exact (h.arg.far (p := ⟨gt, 0, none⟩) h1 _).far (p := ⟨gt, 1, none⟩) h1 _
  · exact (h.res.far (p := ⟨gt, 0, none⟩) h2 _).far (p := ⟨gt, 1, none⟩) h2 _
theorem put_err {w w1 : World} {t : TypeId} {a b : Value} (hW : Below w.heap.size w w1) (hO : Own w1 w.heap.size t [a, b]) {err err' : Int} {r : IV} {z z' : Int} (hr : r.is w1 z) (hz : z' = z) (he : err' = err) (ha : ∀ n, a ≠ .int .u32 n) (hb : ∀ n, b ≠ .int .u32 n) :
    IntE w z' err' (.returned (.tuple #[.agg #[.bool r.neg, .slice r.A r.n r.c], .int .i64 err])) ((w1.setCell ⟨w.heap.size, 0, none⟩ (.bool r.neg)).setCell ⟨w.heap.size, 1, none⟩ (.slice r.A r.n r.c)) := by
  subst hz he
  exact ⟨r, rfl, Below.put2 hW (Nat.le_refl _) _ _, hr.put2 hO ha hb _ _⟩
set_option maxRecDepth 100000 in
set_option maxHeartbeats 1600000 in
theorem times_iv {x y : IV} {a b : Int} {g : Nat} {w : World} (hO : Own w g 29 [.bool x.neg, .slice x.A x.n x.c, .bool y.neg, .slice y.A y.n y.c]) (hx : x.is w a) (hy : y.is w b) :
    Calls Tryz.prog 72 #[.slice (some ⟨g, 0, none⟩) 2 2] w (IntE w (clip (a * b)) (lim (a * b))) := by
  have hgl := hO.lt
  go_enter Tryz.func72, Tryz.ntmps72
  go_wp2_with fail
  refine (from_iv 1 _ (by omega) (by omega)).mono ?_
  rintro e w1 ⟨r, rfl, hb1, hr⟩
  have hR := (Own.new2 w 29 (.bool false) (.slice none 0 0)).on hb1
  have hst0 : TimSt w g w1.heap.size x y a b 1 r (w1.alloc (.cells #[.bool r.neg, .slice r.A r.n r.c] 29)) :=
    ⟨((hO.alloc _).on hb1).alloc _, hR.alloc _, Own.new2 w1 29 (.bool r.neg) (.slice r.A r.n r.c), ((hx.on (below_new _ _)).on hb1).on (below_new _ _), ((hy.on (below_new _ _)).on hb1).on (below_new _ _), hr.on (below_new _ _), Below.call (Below.call (below_new _ _) hb1) (below_new _ _)⟩
  have hs1 : w.heap.size < w1.heap.size := hR.lt
  go_upto_region 2 with fail
  generalize w1.alloc (.cells #[.bool r.neg, .slice r.A r.n r.c] 29) = w2 at hst0 ⊢
  obtain ⟨gt, hgt⟩ : ∃ gt, gt = w1.heap.size := ⟨_, rfl⟩
  rw [← hgt] at hst0 hs1 ⊢
  have n1 : g ≠ gt := by omega
  have n2 : w.heap.size ≠ gt := by omega
  have n3 : w.heap.size ≤ gt := by omega
  clear hgt hb1 hr hR
  go_wp2_with fail
  go_loopw [12] (fun i wr => ∃ (k : Nat) (r : IV) (z : Int), k ≤ 2 ∧ i = .int .i64 k ∧ Hid ((k = 0 ∧ z = 1) ∨ (k = 1 ∧ z = a) ∨ (k = 2 ∧ z = a * b ∧ z.natAbs < top)) ∧ TimSt w g gt x y a b z r wr) (fun i _ => 2 - (intOf i).toNat)
  case atStart => exact ⟨0, r, 1, by omega, rfl, Lib.hid (.inl ⟨rfl, rfl⟩), hst0⟩
  case round =>
    obtain ⟨k, r, z, hk, rfl, hz, hst⟩ := hrel
    have c0 := hst.arg.c0
    have c1 := hst.arg.c1
    have c2 := hst.arg.c2
    have c3 := hst.arg.c3
    rcases (by omega : k = 0 ∨ k = 1 ∨ k = 2) with rfl | rfl | rfl
    · go_upto_region 5 with fail
      have hb3 := below_new wr (.cells #[.bool x.neg, .slice x.A x.n x.c] 29)
      have hBX := Own.new2 wr 29 (.bool x.neg) (.slice x.A x.n x.c)
      generalize wr.alloc (.cells #[.bool x.neg, .slice x.A x.n x.c] 29) = w3 at hb3 hBX ⊢
      have hs3 := hst.on hb3
      have x0 := hBX.c0
      have x1 := hBX.c1
      have r0 := hs3.acc.c0
      have r1 := hs3.acc.c1
      clear c0 c1 c2 c3
      go_wp2_with fail
      refine (mul_iv hs3.ir hs3.ix).mono ?_
      rintro e w4 ⟨q, rfl, hb4, hq⟩
      have hs4 := hs3.on hb4
      go_upto_region 6 with fail
      have hb5 := below_new w4 (.cells #[.bool q.neg, .slice q.A q.n q.c] 29)
      have hQ := Own.new2 w4 29 (.bool q.neg) (.slice q.A q.n q.c)
      generalize w4.alloc (.cells #[.bool q.neg, .slice q.A q.n q.c] 29) = w5 at hb5 hQ ⊢
      have hs5 := hs4.on hb5
      have hq5 := hq.on hb5
      have y0 := hQ.c0
      have y1 := hQ.c1
      have hz1 : z = 1 := by rcases hz.out with h | h | h <;> omega
      have hzz : z * a = a := by rw [hz1, Int.one_mul]
      rw [hzz, clip_in hx.fits] at hq5
      have hl : lim (z * a) = 0 := by rw [hzz]; exact lim_in hx.fits
      rw [hl]
      have hs6 := hs5.put n1 n2 n3 hq5
      have a0 := hs5.acc.c0
      have a1 := hs5.acc.c1
      have f0 := hs5.acc.frozen 0
      have f1 := hs5.acc.frozen 1
      have HS6 := Lib.hid hs6
      clear hs6 hzz hl x0 x1 r0 r1 hz1
      go_wp2_with fail
      go_roundw
      case rel => exact ⟨1, q, a, by omega, rfl, Lib.hid (.inr (.inl ⟨rfl, rfl⟩)), HS6.out⟩
      case measure => simp [intOf]
    · go_upto_region 5 with fail
      have hb3 := below_new wr (.cells #[.bool y.neg, .slice y.A y.n y.c] 29)
      have hBX := Own.new2 wr 29 (.bool y.neg) (.slice y.A y.n y.c)
      generalize wr.alloc (.cells #[.bool y.neg, .slice y.A y.n y.c] 29) = w3 at hb3 hBX ⊢
      have hs3 := hst.on hb3
      have x0 := hBX.c0
      have x1 := hBX.c1
      have r0 := hs3.acc.c0
      have r1 := hs3.acc.c1
      clear c0 c1 c2 c3
      go_wp2_with fail
      refine (mul_iv hs3.ir hs3.iy).mono ?_
      rintro e w4 ⟨q, rfl, hb4, hq⟩
      have hs4 := hs3.on hb4
      go_upto_region 6 with fail
      have hb5 := below_new w4 (.cells #[.bool q.neg, .slice q.A q.n q.c] 29)
      have hQ := Own.new2 w4 29 (.bool q.neg) (.slice q.A q.n q.c)
      generalize w4.alloc (.cells #[.bool q.neg, .slice q.A q.n q.c] 29) = w5 at hb5 hQ ⊢
      have hs5 := hs4.on hb5
      have hq5 := hq.on hb5
      have y0 := hQ.c0
      have y1 := hQ.c1
      have hz1 : z = a := by rcases hz.out with h | h | h <;> omega
      rw [hz1] at hq5 ⊢
      by_cases hf : (a * b).natAbs < top
      · rw [clip_in hf] at hq5
        rw [lim_in hf]
        have hs6 := hs5.put n1 n2 n3 hq5
        have a0 := hs5.acc.c0
        have a1 := hs5.acc.c1
        have f0 := hs5.acc.frozen 0
        have f1 := hs5.acc.frozen 1
        have HS6 := Lib.hid hs6
        have HF := Lib.hid hf
        clear hs6 x0 x1 r0 r1 hz1 hf
        go_wp2_with fail
        go_roundw
        case rel => exact ⟨2, q, a * b, by omega, rfl, Lib.hid (.inr (.inr ⟨rfl, rfl, HF.out⟩)), HS6.out⟩
        case measure => simp [intOf]
      · rw [lim_out hf]
        have HP := put_err hs5.bel hs5.res (IV.zero_is w5) (clip_out hf) (lim_out hf) (by simp) (by simp)
        have hO6 := hs5.res.put2 (.bool false) (.slice none 0 0)
        have q0 := hO6.c0
        have q1 := hO6.c1
        have a0 := hs5.res.c0
        have a1 := hs5.res.c1
        have f0 := hs5.res.frozen 0
        have f1 := hs5.res.frozen 1
        have HQ := Lib.hid HP
        clear HP hO6 x0 x1 r0 r1 hz1 hf
        go_wp2
        exact bodyPost_ret (v := .tuple #[.agg #[.bool IV.zero.neg, .slice IV.zero.A IV.zero.n IV.zero.c], .int .i64 4]) (by simp [results, Tryz.results72, go_sem, q0, q1, IV.zero]) rfl HQ.out
    · have hzf : z = a * b ∧ z.natAbs < top := by rcases hz.out with h | h | h <;> omega
      obtain ⟨hz1, hf⟩ := hzf
      subst hz1
      have HP := put_err hst.bel hst.res hst.ir (clip_in hf) (lim_in hf) (by simp) (by simp)
      have hO6 := hst.res.put2 (.bool r.neg) (.slice r.A r.n r.c)
      have q0 := hO6.c0
      have q1 := hO6.c1
      have a0 := hst.res.c0
      have a1 := hst.res.c1
      have f0 := hst.res.frozen 0
      have f1 := hst.res.frozen 1
      have r0 := hst.acc.c0
      have r1 := hst.acc.c1
      have HQ := Lib.hid HP
      clear HP hO6 hf
      go_wp2
      exact bodyPost_ret (v := .tuple #[.agg #[.bool r.neg, .slice r.A r.n r.c], .int .i64 0]) (by simp [results, Tryz.results72, go_sem, q0, q1]) rfl HQ.out
end Go.Proofs.YtfbbnphpapmpcaaGreatDoor

/-
  (second part)
-/
namespace Go.Proofs.YtfbbnphpapmpcaaGreatDoor
open Go.RowKit Mag

/-- The parts of a Frac; what it stands for: p over q in lowest terms. -/
structure FV where
  p : IV
  l : IV
structure FV.is (f : FV) (w : World) (p q : Int) : Prop where
  num : f.p.is w p
  less : f.l.is w (q - 1)
  pos : 0 < q
  fits : q.natAbs < top
  cop : Int.gcd p q = 1
theorem FV.is.on {f : FV} {w w' : World} {p q : Int} (h : f.is w p q) (hb : Below w.heap.size w w') : f.is w' p q := ⟨h.num.on hb, h.less.on hb, h.pos, h.fits, h.cop⟩
def FV.zero : FV := ⟨IV.zero, IV.zero⟩
theorem one_fits : (1 : Int).natAbs < top := by
  rw [top_eq]
  exact Nat.lt_of_lt_of_le (by decide : 1 < 4294967296 ^ 1) (Nat.pow_le_pow_right (by decide) (by rw [topW_eq]; decide))
theorem FV.zero_is (w : World) : FV.zero.is w 0 1 := ⟨IV.zero_is w, IV.zero_is w, by decide, one_fits, by decide⟩
theorem IV.is.of_drew {x : IV} {w : World} {z : Int} (h : x.is w z) : x.is w.drew z := WI.of_drew h

theorem Own.drew {w : World} {g : Nat} {t : TypeId} {xs : List Value} (h : Own w g t xs) : Own w.drew g t xs := h
theorem Own.new4 (w : World) (t : TypeId) (a b c d : Value) : Own (w.alloc (.cells #[a, b, c, d] t)) w.heap.size t [a, b, c, d] := Own.new w t [a, b, c, d]
theorem Own.newF (w : World) (t : TypeId) (f : FV) : Own (w.alloc (.cells #[.bool f.p.neg, .slice f.p.A f.p.n f.p.c, .bool f.l.neg, .slice f.l.A f.l.n f.l.c] t)) w.heap.size t [.bool f.p.neg, .slice f.p.A f.p.n f.p.c, .bool f.l.neg, .slice f.l.A f.l.n f.l.c] := Own.new w t [.bool f.p.neg, .slice f.p.A f.p.n f.p.c, .bool f.l.neg, .slice f.l.A f.l.n f.l.c]
theorem Own.newI (w : World) (t : TypeId) (x : IV) : Own (w.alloc (.cells #[.bool x.neg, .slice x.A x.n x.c] t)) w.heap.size t [.bool x.neg, .slice x.A x.n x.c] := Own.new w t [.bool x.neg, .slice x.A x.n x.c]

set_option maxRecDepth 100000 in
set_option maxHeartbeats 800000 in
theorem Den_any {f : FV} {p q : Int} {w : World} (hf : f.is w p q) : Calls Tryz.prog 31 #[.agg #[.bool f.p.neg, .slice f.p.A f.p.n f.p.c, .bool f.l.neg, .slice f.l.A f.l.n f.l.c]] w (IntP w q) := by
  go_enter Tryz.func31, Tryz.ntmps31
  go_wp2_with fail
  have hF := (Own.newF w 31 f).alloc (.cells #[.bool false, .slice none 0 0] 29)
  have hO := Own.new2 (w.alloc (.cells #[.bool f.p.neg, .slice f.p.A f.p.n f.p.c, .bool f.l.neg, .slice f.l.A f.l.n f.l.c] 31)) 29 (.bool false) (.slice none 0 0)
  have hB : Below w.heap.size w ((w.alloc (.cells #[.bool f.p.neg, .slice f.p.A f.p.n f.p.c, .bool f.l.neg, .slice f.l.A f.l.n f.l.c] 31)).alloc (.cells #[.bool false, .slice none 0 0] 29)) := by go_grown
  have hg : (w.alloc (.cells #[.bool f.p.neg, .slice f.p.A f.p.n f.p.c, .bool f.l.neg, .slice f.l.A f.l.n f.l.c] 31)).heap.size = w.heap.size + 1 := by simp
  rw [hg] at hO
  clear hg
  generalize (w.alloc (.cells #[.bool f.p.neg, .slice f.p.A f.p.n f.p.c, .bool f.l.neg, .slice f.l.A f.l.n f.l.c] 31)).alloc (.cells #[.bool false, .slice none 0 0] 29) = W at hF hO hB ⊢
  have hl := hf.less.on hB
  go_region_held3 (fun w' => w'.cell? ⟨w.heap.size, 2, none⟩ = some (.bool f.l.neg) ∧ w'.cell? ⟨w.heap.size, 3, none⟩ = some (.slice f.l.A f.l.n f.l.c)) (first | exact ⟨hF.c2, hF.c3⟩ | exact ⟨hF1.c2, hF1.c3⟩ | exact ⟨hF2.c2, hF2.c3⟩ | exact ⟨hF3.c2, hF3.c3⟩ | exact ⟨hF4.c2, hF4.c3⟩)
    (first
      | (go_at_call 42; refine (from_iv 1 _ (by omega) (by omega)).mono ?_; rintro e w1 ⟨r1, rfl, hb1', hr1⟩; have hb1 := Below.of_drew hb1'; have hF1 := hF.on hb1; have hO1 := hO.on hb1; have hl1 := hl.on hb1; have hB1 := Below.call hB hb1)
      | (go_at_call 58; refine (add_iv hl1 hr1).mono ?_; rintro e w2 ⟨r2, rfl, hb2, hr2⟩; have hF2 := hF1.on hb2; have hO2 := hO1.on hb2; have hB2 := Below.call hB1 hb2)
      | (go_at_call 57; refine must_iv.mono ?_; rintro e w3 ⟨rfl, hb3⟩; have hF3 := hF2.on hb3; have hO3 := hO2.on hb3; have hB3 := Below.call hB2 hb3; have hr3 := hr2.on hb3; have z0 := hO3.c0; have z1 := hO3.c1; have f0 := hO3.frozen 0; have f1 := hO3.frozen 1; have hF4 := (hF3.far (p := ⟨w.heap.size + 1, 0, none⟩) (by simp) (.bool r2.neg)).far (p := ⟨w.heap.size + 1, 1, none⟩) (by simp) (.slice r2.A r2.n r2.c)))
  rw [show q - 1 + 1 = q by omega, clip_in hf.fits] at hr3
  obtain ⟨hp, hO5⟩ := put_int hB3 (by omega) hO3 (by simp) (by simp) hr3
  have q0 := hO5.c0
  have q1 := hO5.c1
  have HP := Lib.hid hp
  clear hp hO5 hF4
  go_wp2
  exact bodyPost_ret (v := .agg #[.bool r2.neg, .slice r2.A r2.n r2.c]) (by simp [results, Tryz.results31, go_sem, q0, q1]) rfl HP.out

/-- A Frac for p over q, and an error. -/
def FracE (w : World) (p q err : Int) (e : Ending) (w' : World) : Prop := ∃ f : FV, e = .returned (.tuple #[.agg #[.bool f.p.neg, .slice f.p.A f.p.n f.p.c, .bool f.l.neg, .slice f.l.A f.l.n f.l.c], .int .i64 err]) ∧ Below w.heap.size w w' ∧ f.is w' p q
theorem FracE.on {w w1 w2 : World} {p q err : Int} {e : Ending} (h : FracE w p q err e w1) (hb : Below w1.heap.size w1 w2) : FracE w p q err e w2 := by
  obtain ⟨r, h1, h2, h3⟩ := h
  exact ⟨r, h1, h2.trans (hb.mono h2.size), h3.on hb⟩

set_option maxRecDepth 100000 in
theorem lowest_err {x y : IV} {e1 e2 : Int} {w : World} (he : (e1 != 0 || e2 != 0) = true) : Calls Tryz.prog 70 #[.agg #[.bool x.neg, .slice x.A x.n x.c], .agg #[.bool y.neg, .slice y.A y.n y.c], .int .i64 e1, .int .i64 e2] w (FracE w 0 1 4) := by
  by_cases h1 : (e1 != 0) = true
  · go_enter Tryz.func70, Tryz.ntmps70
    go_wp2
    go_returns
    exact ⟨FV.zero, rfl, by go_grown, FV.zero_is _⟩
  · have h1' : (e1 != 0) = false := by simpa using h1
    have h2 : (e2 != 0) = true := by rw [h1'] at he; simpa using he
    clear h1 he
    go_enter Tryz.func70, Tryz.ntmps70
    go_wp2
    go_returns
    exact ⟨FV.zero, rfl, by go_grown, FV.zero_is _⟩
theorem IV.is.put4 {x : IV} {w : World} {z : Int} (h : x.is w z) {g : Nat} {t : TypeId} {a b c d : Value} (hO : Own w g t [a, b, c, d]) (ha : ∀ n, a ≠ .int .u32 n) (hb : ∀ n, b ≠ .int .u32 n) (hc : ∀ n, c ≠ .int .u32 n) (hd : ∀ n, d ≠ .int .u32 n) (u v s r : Value) :
    x.is ((((w.setCell ⟨g, 0, none⟩ u).setCell ⟨g, 1, none⟩ v).setCell ⟨g, 2, none⟩ s).setCell ⟨g, 3, none⟩ r) z := by
  refine (((WI.put h hO.c0 ha u).put (v := b) ?_ hb v).put (v := c) ?_ hc s).put (v := d) ?_ hd r
  · rw [cell_put _ _ (by intro e; injection e with _ e; omega)]; exact hO.c1
  · rw [cell_put _ _ (by intro e; injection e with _ e; omega), cell_put _ _ (by intro e; injection e with _ e; omega)]; exact hO.c2
  · rw [cell_put _ _ (by intro e; injection e with _ e; omega), cell_put _ _ (by intro e; injection e with _ e; omega), cell_put _ _ (by intro e; injection e with _ e; omega)]; exact hO.c3
theorem Own.put4 {w : World} {g : Nat} {t : TypeId} {a b c d : Value} (hO : Own w g t [a, b, c, d]) (u v s r : Value) : Own ((((w.setCell ⟨g, 0, none⟩ u).setCell ⟨g, 1, none⟩ v).setCell ⟨g, 2, none⟩ s).setCell ⟨g, 3, none⟩ r) g t [u, v, s, r] :=
  (((hO.set_ 0 u).set_ 1 v).set_ 2 s).set_ 3 r
theorem Below.put4 {B : Nat} {a w : World} {g : Nat} (h : Below B a w) (hg : B ≤ g) (u v s r : Value) : Below B a ((((w.setCell ⟨g, 0, none⟩ u).setCell ⟨g, 1, none⟩ v).setCell ⟨g, 2, none⟩ s).setCell ⟨g, 3, none⟩ r) :=
  (((h.setCell hg u).setCell hg v).setCell hg s).setCell hg r
/-- A Frac is put into its block. -/
theorem put_frac {w w1 : World} {g : Nat} {t : TypeId} {a b c d : Value} (hW : Below w.heap.size w w1) (hg : w.heap.size ≤ g) (hO : Own w1 g t [a, b, c, d]) (ha : ∀ n, a ≠ .int .u32 n) (hb : ∀ n, b ≠ .int .u32 n) (hc : ∀ n, c ≠ .int .u32 n) (hd : ∀ n, d ≠ .int .u32 n) {f : FV} {p q err : Int} (hf : f.is w1 p q) :
    FracE w p q err (.returned (.tuple #[.agg #[.bool f.p.neg, .slice f.p.A f.p.n f.p.c, .bool f.l.neg, .slice f.l.A f.l.n f.l.c], .int .i64 err])) ((((w1.setCell ⟨g, 0, none⟩ (.bool f.p.neg)).setCell ⟨g, 1, none⟩ (.slice f.p.A f.p.n f.p.c)).setCell ⟨g, 2, none⟩ (.bool f.l.neg)).setCell ⟨g, 3, none⟩ (.slice f.l.A f.l.n f.l.c)) :=
  ⟨f, rfl, Below.put4 hW hg _ _ _ _, ⟨hf.num.put4 hO ha hb hc hd _ _ _ _, hf.less.put4 hO ha hb hc hd _ _ _ _, hf.pos, hf.fits, hf.cop⟩⟩

set_option maxRecDepth 100000 in
set_option maxHeartbeats 800000 in
theorem lowest_ok {x y : IV} {p q : Int} {w : World} (hx : x.is w p) (hy : y.is w q) (hq : 0 < q) (hc : Int.gcd p q = 1) : Calls Tryz.prog 70 #[.agg #[.bool x.neg, .slice x.A x.n x.c], .agg #[.bool y.neg, .slice y.A y.n y.c], .int .i64 0, .int .i64 0] w (FracE w p q 0) := by
  have hqf := hy.fits
  go_enter Tryz.func70, Tryz.ntmps70
  go_wp2_with fail
  have hX := ((Own.newI w 29 x).alloc (.cells #[.bool y.neg, .slice y.A y.n y.c] 29)).alloc (.cells #[.bool false, .slice none 0 0, .bool false, .slice none 0 0] 31)
  have hY := (Own.newI (w.alloc (.cells #[.bool x.neg, .slice x.A x.n x.c] 29)) 29 y).alloc (.cells #[.bool false, .slice none 0 0, .bool false, .slice none 0 0] 31)
  have hO := Own.new4 ((w.alloc (.cells #[.bool x.neg, .slice x.A x.n x.c] 29)).alloc (.cells #[.bool y.neg, .slice y.A y.n y.c] 29)) 31 (.bool false) (.slice none 0 0) (.bool false) (.slice none 0 0)
  have hB : Below w.heap.size w (((w.alloc (.cells #[.bool x.neg, .slice x.A x.n x.c] 29)).alloc (.cells #[.bool y.neg, .slice y.A y.n y.c] 29)).alloc (.cells #[.bool false, .slice none 0 0, .bool false, .slice none 0 0] 31)) := by go_grown
  have hg : ((w.alloc (.cells #[.bool x.neg, .slice x.A x.n x.c] 29)).alloc (.cells #[.bool y.neg, .slice y.A y.n y.c] 29)).heap.size = w.heap.size + 1 + 1 := by simp
  have hg2 : (w.alloc (.cells #[.bool x.neg, .slice x.A x.n x.c] 29)).heap.size = w.heap.size + 1 := by simp
  rw [hg] at hO
  rw [hg2] at hY
  clear hg hg2
  generalize (((w.alloc (.cells #[.bool x.neg, .slice x.A x.n x.c] 29)).alloc (.cells #[.bool y.neg, .slice y.A y.n y.c] 29)).alloc (.cells #[.bool false, .slice none 0 0, .bool false, .slice none 0 0] 31)) = W at hX hY hO hB ⊢
  have hx1 := hx.on hB
  have hy1 := hy.on hB
  go_region_held3 (fun w' => w'.cell? ⟨w.heap.size, 0, none⟩ = some (.bool x.neg) ∧ w'.cell? ⟨w.heap.size, 1, none⟩ = some (.slice x.A x.n x.c) ∧ w'.cell? ⟨w.heap.size + 1, 0, none⟩ = some (.bool y.neg) ∧ w'.cell? ⟨w.heap.size + 1, 1, none⟩ = some (.slice y.A y.n y.c))
    (first | with_reducible exact ⟨hX.drew.c0, hX.drew.c1, hY.drew.c0, hY.drew.c1⟩ | with_reducible exact ⟨hX1.c0, hX1.c1, hY1.c0, hY1.c1⟩ | with_reducible exact ⟨hX2.c0, hX2.c1, hY2.c0, hY2.c1⟩ | with_reducible exact ⟨hX3.c0, hX3.c1, hY3.c0, hY3.c1⟩ | with_reducible exact ⟨hX4.c0, hX4.c1, hY4.c0, hY4.c1⟩)
    (first
      | (go_at_call 42; refine (from_iv 1 _ (by omega) (by omega)).mono ?_; rintro e w1 ⟨r1, rfl, hb1', hr1⟩; have hb1 := Below.of_drew hb1'; have hX1 := hX.on hb1; have hY1 := hY.on hb1; have hO1 := hO.on hb1; have hx2 := hx1.on hb1; have hy2 := hy1.on hb1; have hB1 := Below.call hB hb1)
      | (go_at_call 96; refine (sub_iv hy2 hr1).mono ?_; rintro e w2 ⟨r2, rfl, hb2, hr2⟩; have hX2 := hX1.on hb2; have hY2 := hY1.on hb2; have hO2 := hO1.on hb2; have hx3 := hx2.on hb2; have hB2 := Below.call hB1 hb2)
      | (go_at_call 57; refine must_iv.mono ?_; rintro e w3 ⟨rfl, hb3⟩; have hX3 := hX2.on hb3; have hY3 := hY2.on hb3; have hO3 := hO2.on hb3; have hx4 := hx3.on hb3; have hB3 := Below.call hB2 hb3; have hr3 := hr2.on hb3; have z0 := hO3.c0; have z1 := hO3.c1; have z2 := hO3.c2; have z3 := hO3.c3; have f0 := hO3.frozen 0; have f1 := hO3.frozen 1; have f2 := hO3.frozen 2; have f3 := hO3.frozen 3; have hX4 := (((hX3.far (p := ⟨w.heap.size + 1 + 1, 0, none⟩) (by simp; omega) (.bool x.neg)).far (p := ⟨w.heap.size + 1 + 1, 1, none⟩) (by simp; omega) (.slice x.A x.n x.c)).far (p := ⟨w.heap.size + 1 + 1, 2, none⟩) (by simp; omega) (.bool r2.neg)).far (p := ⟨w.heap.size + 1 + 1, 3, none⟩) (by simp; omega) (.slice r2.A r2.n r2.c); have hY4 := (((hY3.far (p := ⟨w.heap.size + 1 + 1, 0, none⟩) (by simp) (.bool x.neg)).far (p := ⟨w.heap.size + 1 + 1, 1, none⟩) (by simp) (.slice x.A x.n x.c)).far (p := ⟨w.heap.size + 1 + 1, 2, none⟩) (by simp) (.bool r2.neg)).far (p := ⟨w.heap.size + 1 + 1, 3, none⟩) (by simp) (.slice r2.A r2.n r2.c)))
  rw [clip_in (by omega)] at hr3
  have hfr : FV.is ⟨x, r2⟩ w3 p q := ⟨hx4, hr3, hq, hqf, hc⟩
  have hp := put_frac hB3 (err := 0) (by omega) hO3 (by simp) (by simp) (by simp) (by simp) hfr
  have hO5 := hO3.put4 (.bool x.neg) (.slice x.A x.n x.c) (.bool r2.neg) (.slice r2.A r2.n r2.c)
  have q0 := hO5.c0
  have q1 := hO5.c1
  have q2 := hO5.c2
  have q3 := hO5.c3
  have HP := Lib.hid hp
  clear hp hO5 hX4 hY4
  go_wp2
  exact bodyPost_ret (v := .tuple #[.agg #[.bool x.neg, .slice x.A x.n x.c, .bool r2.neg, .slice r2.A r2.n r2.c], .int .i64 0]) (by simp [results, Tryz.results70, go_sem, q0, q1, q2, q3]) rfl HP.out
end Go.Proofs.YtfbbnphpapmpcaaGreatDoor

/-
  (second part)
-/
namespace Go.Proofs.YtfbbnphpapmpcaaGreatDoor
open Go.RowKit Mag

/-- The state of Make: the integers and the result's block. -/
structure MkSt (w : World) (x y : IV) (p q : Int) (wx : World) : Prop where
  ox : Own wx w.heap.size 29 [.bool x.neg, .slice x.A x.n x.c]
  oy : Own wx (w.heap.size + 1) 29 [.bool y.neg, .slice y.A y.n y.c]
  oz : Own wx (w.heap.size + 1 + 1) 31 [.bool false, .slice none 0 0, .bool false, .slice none 0 0]
  ix : x.is wx p
  iy : y.is wx q
  bel : Below w.heap.size w wx
theorem MkSt.on {w wx w' : World} {x y : IV} {p q : Int} (h : MkSt w x y p q wx) (hb : Below wx.heap.size wx w') : MkSt w x y p q w' :=
  ⟨h.ox.on hb, h.oy.on hb, h.oz.on hb, h.ix.on hb, h.iy.on hb, Below.call h.bel hb⟩
theorem MkSt.drew {w wx : World} {x y : IV} {p q : Int} (h : MkSt w x y p q wx) : MkSt w x y p q wx.drew :=
  ⟨h.ox, h.oy, h.oz, h.ix.of_drew, h.iy.of_drew, below_drewN' h.bel 1⟩
theorem MkSt.start {w : World} {x y : IV} {p q : Int} (hx : x.is w p) (hy : y.is w q) : MkSt w x y p q (((w.alloc (.cells #[.bool x.neg, .slice x.A x.n x.c] 29)).alloc (.cells #[.bool y.neg, .slice y.A y.n y.c] 29)).alloc (.cells #[.bool false, .slice none 0 0, .bool false, .slice none 0 0] 31)) := by
  have hB : Below w.heap.size w (((w.alloc (.cells #[.bool x.neg, .slice x.A x.n x.c] 29)).alloc (.cells #[.bool y.neg, .slice y.A y.n y.c] 29)).alloc (.cells #[.bool false, .slice none 0 0, .bool false, .slice none 0 0] 31)) := by go_grown
  refine ⟨((Own.newI w _ x).alloc _).alloc _, ?_, ?_, hx.on hB, hy.on hB, hB⟩
  · have := (Own.newI (w.alloc (.cells #[.bool x.neg, .slice x.A x.n x.c] 29)) 29 y).alloc (.cells #[.bool false, .slice none 0 0, .bool false, .slice none 0 0] 31)
    simpa using this
  · have := Own.new4 ((w.alloc (.cells #[.bool x.neg, .slice x.A x.n x.c] 29)).alloc (.cells #[.bool y.neg, .slice y.A y.n y.c] 29)) 31 (.bool false) (.slice none 0 0) (.bool false) (.slice none 0 0)
    simpa using this
/-- Both integers anew. -/
theorem MkSt.swap {w wx : World} {x y x' y' : IV} {p q p' q' : Int} (h : MkSt w x y p q wx) (hx : x'.is wx p') (hy : y'.is wx q') :
    MkSt w x' y' p' q' ((((wx.setCell ⟨w.heap.size, 0, none⟩ (.bool x'.neg)).setCell ⟨w.heap.size, 1, none⟩ (.slice x'.A x'.n x'.c)).setCell ⟨w.heap.size + 1, 0, none⟩ (.bool y'.neg)).setCell ⟨w.heap.size + 1, 1, none⟩ (.slice y'.A y'.n y'.c)) := by
  have o1 := (h.oy.far (p := ⟨w.heap.size, 0, none⟩) (by simp) (.bool x'.neg)).far (p := ⟨w.heap.size, 1, none⟩) (by simp) (.slice x'.A x'.n x'.c)
  refine ⟨((h.ox.put2 _ _).far (p := ⟨w.heap.size + 1, 0, none⟩) (by simp) _).far (p := ⟨w.heap.size + 1, 1, none⟩) (by simp) _, o1.put2 _ _, ?_, (hx.put2 h.ox (by simp) (by simp) _ _).put2 o1 (by simp) (by simp) _ _, (hy.put2 h.ox (by simp) (by simp) _ _).put2 o1 (by simp) (by simp) _ _, Below.put2 (Below.put2 h.bel (Nat.le_refl _) _ _) (by omega) _ _⟩
  exact (((h.oz.far (p := ⟨w.heap.size, 0, none⟩) (by simp; omega) _).far (p := ⟨w.heap.size, 1, none⟩) (by simp; omega) _).far (p := ⟨w.heap.size + 1, 0, none⟩) (by simp) _).far (p := ⟨w.heap.size + 1, 1, none⟩) (by simp) _

theorem Own.put4far {w : World} {g g' : Nat} {t : TypeId} {xs : List Value} (h : Own w g' t xs) (hg : g' ≠ g) (u v s r : Value) : Own ((((w.setCell ⟨g, 0, none⟩ u).setCell ⟨g, 1, none⟩ v).setCell ⟨g, 2, none⟩ s).setCell ⟨g, 3, none⟩ r) g' t xs :=
  (((h.far (p := ⟨g, 0, none⟩) hg u).far (p := ⟨g, 1, none⟩) hg v).far (p := ⟨g, 2, none⟩) hg s).far (p := ⟨g, 3, none⟩) hg r
/-- The result is put into its block: the integers stay. -/
theorem MkSt.put4 {w wx : World} {x y : IV} {p q : Int} (h : MkSt w x y p q wx) (f : FV) :
    Own ((((wx.setCell ⟨w.heap.size + 1 + 1, 0, none⟩ (.bool f.p.neg)).setCell ⟨w.heap.size + 1 + 1, 1, none⟩ (.slice f.p.A f.p.n f.p.c)).setCell ⟨w.heap.size + 1 + 1, 2, none⟩ (.bool f.l.neg)).setCell ⟨w.heap.size + 1 + 1, 3, none⟩ (.slice f.l.A f.l.n f.l.c)) w.heap.size 29 [.bool x.neg, .slice x.A x.n x.c] ∧
    Own ((((wx.setCell ⟨w.heap.size + 1 + 1, 0, none⟩ (.bool f.p.neg)).setCell ⟨w.heap.size + 1 + 1, 1, none⟩ (.slice f.p.A f.p.n f.p.c)).setCell ⟨w.heap.size + 1 + 1, 2, none⟩ (.bool f.l.neg)).setCell ⟨w.heap.size + 1 + 1, 3, none⟩ (.slice f.l.A f.l.n f.l.c)) (w.heap.size + 1) 29 [.bool y.neg, .slice y.A y.n y.c] :=
  ⟨h.ox.put4far (by omega) _ _ _ _, h.oy.put4far (by omega) _ _ _ _⟩
/-- The numerator and the denominator of a quotient. -/
def mkP (p q : Int) : Int := q.sign * p / (Int.gcd p q : Nat)
def mkQ (p q : Int) : Int := (q.natAbs : Int) / (Int.gcd p q : Nat)

set_option maxRecDepth 100000 in
theorem Make_zero {x y : IV} {p : Int} {w : World} (hx : x.is w p) (hy : y.is w 0) : Calls Tryz.prog 41 #[.agg #[.bool x.neg, .slice x.A x.n x.c], .agg #[.bool y.neg, .slice y.A y.n y.c]] w (FracE w 0 1 1) := by
  go_enter Tryz.func41, Tryz.ntmps41
  have hS := MkSt.start hx hy
  go_wp2_with fail
  generalize ((w.alloc (.cells #[.bool x.neg, .slice x.A x.n x.c] 29)).alloc (.cells #[.bool y.neg, .slice y.A y.n y.c] 29)).alloc (.cells #[.bool false, .slice none 0 0, .bool false, .slice none 0 0] 31) = W at hS ⊢
  refine (sign_iv hS.iy).mono ?_
  rintro e w1 ⟨rfl, hb1⟩
  have hS1 := hS.on hb1
  have z0 := hS1.oz.c0
  have z1 := hS1.oz.c1
  have z2 := hS1.oz.c2
  have z3 := hS1.oz.c3
  have f0 := hS1.oz.frozen 0
  have f1 := hS1.oz.frozen 1
  have f2 := hS1.oz.frozen 2
  have f3 := hS1.oz.frozen 3
  have hp := put_frac hS1.bel (err := 1) (by omega) hS1.oz (by simp) (by simp) (by simp) (by simp) (FV.zero_is w1)
  have hO5 := hS1.oz.put4 (.bool false) (.slice none 0 0) (.bool false) (.slice none 0 0)
  have q0 := hO5.c0
  have q1 := hO5.c1
  have q2 := hO5.c2
  have q3 := hO5.c3
  have HP := Lib.hid hp
  have hc : (cmpI 0 0 == 0) = true := rfl
  clear hp hO5
  go_wp2
  exact bodyPost_ret (v := .tuple #[.agg #[.bool false, .slice none 0 0, .bool false, .slice none 0 0], .int .i64 1]) (by simp [results, Tryz.results41, go_sem, q0, q1, q2, q3]) rfl HP.out
theorem gcd_mk (p q : Int) (hq : q ≠ 0) : Int.gcd (q.sign * p) (q.natAbs : Int) = Int.gcd p q := by
  unfold Int.gcd
  rcases Int.lt_or_gt_of_ne hq with h | h
  · rw [Int.sign_eq_neg_one_of_neg h, Int.neg_one_mul, Int.natAbs_neg]; rfl
  · rw [Int.sign_eq_one_of_pos h, Int.one_mul]; rfl
theorem cmpI_neg {q : Int} (h : q < 0) : cmpI q 0 = -1 := cmpI_lt h
set_option maxRecDepth 100000 in
set_option maxHeartbeats 3200000 in
theorem Make_any {x y : IV} {p q : Int} {w : World} (hx : x.is w p) (hy : y.is w q) (hq : q ≠ 0) : Calls Tryz.prog 41 #[.agg #[.bool x.neg, .slice x.A x.n x.c], .agg #[.bool y.neg, .slice y.A y.n y.c]] w (FracE w (mkP p q) (mkQ p q) 0) := by
  have hqf := hy.fits
  have hne : (cmpI q 0 == 0) = false := by
    unfold cmpI
    split
    · rfl
    · split
      · rfl
      · omega
  go_enter Tryz.func41, Tryz.ntmps41
  have hS := MkSt.start hx hy
  go_wp2_with fail
  generalize ((w.alloc (.cells #[.bool x.neg, .slice x.A x.n x.c] 29)).alloc (.cells #[.bool y.neg, .slice y.A y.n y.c] 29)).alloc (.cells #[.bool false, .slice none 0 0, .bool false, .slice none 0 0] 31) = W at hS ⊢
  refine (sign_iv hS.iy).mono ?_
  rintro e w1 ⟨rfl, hb1⟩
  have hS1 := hS.on hb1
  have y0 := hS1.oy.c0
  have y1 := hS1.oy.c1
  go_wp2_with fail
  refine (sign_iv hS1.iy).mono ?_
  rintro e w2 ⟨rfl, hb2⟩
  have hS2 := hS1.on hb2
  clear hS hS1 y0 y1
  go_upto_if 13 with fail
  go_cut [2] (fun s2 wx => ∃ x' y' p' q', s2 = .pointer (some ⟨w.heap.size, 0, none⟩) ∧ MkSt w x' y' p' q' wx ∧ 0 < q' ∧ Hid (p' = q.sign * p) ∧ Hid (q' = (q.natAbs : Int)))
  case first =>
    rcases Int.lt_or_le q 0 with hn | hn
    · have hc : cmpI q 0 = -1 := cmpI_neg hn
      have x0 := hS2.ox.c0
      have x1 := hS2.ox.c1
      have y0 := hS2.oy.c0
      have y1 := hS2.oy.c1
      have hd := hS2.drew
      go_wp2_with fail
      go_region_with
        (first
          | (go_at_call 68; first
              | ((with_reducible refine (neg_iv (x := x) hd.ix).mono ?_); rintro e v1 ⟨x', rfl, hb3, hx'⟩; have hA := hd.on hb3; have a0 := hA.oy.c0; have a1 := hA.oy.c1)
              | ((with_reducible refine (neg_iv (x := y) hd.iy).mono ?_); rintro e v1 ⟨y', rfl, hb3, hy'⟩; have hB := hd.on hb3; have a0 := hB.ox.c0; have a1 := hB.ox.c1)
              | ((with_reducible refine (neg_iv (x := y) hA.iy).mono ?_); rintro e v2 ⟨y', rfl, hb4, hy2⟩; have hC := hA.on hb4; have hx2 := hx'.on hb4; have c0 := hC.ox.c0; have c1 := hC.ox.c1; have c2 := hC.oy.c0; have c3 := hC.oy.c1; have f0 := hC.ox.frozen 0; have f1 := hC.ox.frozen 1; have f2 := hC.oy.frozen 0; have f3 := hC.oy.frozen 1)
              | ((with_reducible refine (neg_iv (x := x) hB.ix).mono ?_); rintro e v2 ⟨x', rfl, hb4, hx2⟩; have hC := hB.on hb4; have hy2 := hy'.on hb4; have c0 := hC.ox.c0; have c1 := hC.ox.c1; have c2 := hC.oy.c0; have c3 := hC.oy.c1; have f0 := hC.ox.frozen 0; have f1 := hC.ox.frozen 1; have f2 := hC.oy.frozen 0; have f3 := hC.oy.frozen 1)))
      all_goals
        have hsw := Lib.hid (hC.swap hx2 hy2)
        go_wp2_with fail
        go_meet
        exact ⟨x', y', _, _, rfl, hsw.out, by omega, Lib.hid (by rw [Int.sign_eq_neg_one_of_neg hn, Int.neg_one_mul]), Lib.hid (by omega)⟩
    · have hc : ¬ cmpI q 0 < 0 := by unfold cmpI; split <;> (try split) <;> omega
      have hfin : ∃ x' y' p' q', MkSt w x' y' p' q' w2 ∧ 0 < q' ∧ Hid (p' = q.sign * p) ∧ Hid (q' = (q.natAbs : Int)) :=
        ⟨x, y, p, q, hS2, by omega, Lib.hid (by rw [Int.sign_eq_one_of_pos (by omega), Int.one_mul]), Lib.hid (by omega)⟩
      have HF := Lib.hid hfin
      clear hfin
      go_wp2_with fail
      go_meet
      obtain ⟨x', y', p', q', h1, h2⟩ := HF.out
      exact ⟨x', y', p', q', rfl, h1, h2⟩
  case rest =>
    obtain ⟨x', y', p', q', rfl, hN, hq', hp1, hq1⟩ := hcut
    clear hS2
    have hgg : Int.gcd p' q' = Int.gcd p q := by rw [hp1.out, hq1.out]; exact gcd_mk p q hq
    have hgp : 0 < Int.gcd p' q' := Int.gcd_pos_of_ne_zero_right _ (by omega)
    have hcop := Int.gcd_ediv_gcd_ediv_gcd hgp
    have hqp : 0 < q' / (Int.gcd p' q' : Nat) := Int.ediv_pos_of_pos_of_dvd hq' (by omega) (Int.gcd_dvd_right _ _)
    have hmp : mkP p q = p' / (Int.gcd p' q' : Nat) := by unfold mkP; rw [hgg, hp1.out]
    have hmq : mkQ p q = q' / (Int.gcd p' q' : Nat) := by unfold mkQ; rw [hgg, hq1.out]
    obtain ⟨g, hg⟩ : ∃ g : Nat, g = Int.gcd p' q' := ⟨_, rfl⟩
    rw [← hg] at hcop hqp hgp hmp hmq
    have HMP := Lib.hid hmp
    have HMQ := Lib.hid hmq
    have HG := Lib.hid hg
    have HC := Lib.hid hcop
    clear hg hcop hmp hmq hgg
    have x0 := hN.ox.c0
    have x1 := hN.ox.c1
    have y0 := hN.oy.c0
    have y1 := hN.oy.c1
    go_wp2_with fail
    refine (gcd_iv hN.ix hN.iy).mono ?_
    rintro e v1 ⟨gv, rfl, hb1, hgv⟩
    rw [← HG.out] at hgv
    have hN1 := hN.on hb1
    go_upto_region 6 with fail
    have hb2 := below_new v1 (.cells #[.bool gv.neg, .slice gv.A gv.n gv.c] 29)
    have hOg := Own.newI v1 29 gv
    generalize v1.alloc (.cells #[.bool gv.neg, .slice gv.A gv.n gv.c] 29) = v2 at hb2 hOg ⊢
    have hgs : w.heap.size + 1 + 1 < v1.heap.size := hN1.oz.lt
    obtain ⟨bg, hbg⟩ : ∃ bg, bg = v1.heap.size := ⟨_, rfl⟩
    rw [← hbg] at hOg hgs ⊢
    have hN2 := (hN1.on hb2).drew
    have hOd := hOg.drew
    have hgv2 := (hgv.on hb2).of_drew
    have hg0 : (g : Int) ≠ 0 := by omega
    clear hN hN1 hOg hgv x0 x1 y0 y1 hbg
    go_region_held3 (fun w' => w'.cell? ⟨w.heap.size, 0, none⟩ = some (.bool x'.neg) ∧ w'.cell? ⟨w.heap.size, 1, none⟩ = some (.slice x'.A x'.n x'.c) ∧ w'.cell? ⟨w.heap.size + 1, 0, none⟩ = some (.bool y'.neg) ∧ w'.cell? ⟨w.heap.size + 1, 1, none⟩ = some (.slice y'.A y'.n y'.c) ∧ w'.cell? ⟨bg, 0, none⟩ = some (.bool gv.neg) ∧ w'.cell? ⟨bg, 1, none⟩ = some (.slice gv.A gv.n gv.c))
      (first | with_reducible exact ⟨hN2.ox.c0, hN2.ox.c1, hN2.oy.c0, hN2.oy.c1, hOd.c0, hOd.c1⟩ | with_reducible exact ⟨hA.ox.c0, hA.ox.c1, hA.oy.c0, hA.oy.c1, hgA.c0, hgA.c1⟩ | with_reducible exact ⟨hB.ox.c0, hB.ox.c1, hB.oy.c0, hB.oy.c1, hgA.c0, hgA.c1⟩ | with_reducible exact ⟨hC.ox.c0, hC.ox.c1, hC.oy.c0, hC.oy.c1, hgC.c0, hgC.c1⟩ | with_reducible exact ⟨hD.ox.c0, hD.ox.c1, hD.oy.c0, hD.oy.c1, hgD.c0, hgD.c1⟩ | with_reducible exact ⟨hE.1.c0, hE.1.c1, hE.2.c0, hE.2.c1, hgE.c0, hgE.c1⟩)
      (first
        | (go_at_call 71; first
            | ((with_reducible refine (over_iv (x := x') (y := gv) hN2.ix hgv2 hg0).mono ?_); rintro e v3 ⟨a, rfl, hb3, ha⟩; have hA := hN2.on hb3; have hgA := hOd.on hb3; have hgi := hgv2.on hb3)
            | ((with_reducible refine (over_iv (x := y') (y := gv) hN2.iy hgv2 hg0).mono ?_); rintro e v3 ⟨b, rfl, hb3, hb⟩; have hB := hN2.on hb3; have hgA := hOd.on hb3; have hgi := hgv2.on hb3)
            | ((with_reducible refine (over_iv (x := y') (y := gv) hA.iy hgi hg0).mono ?_); rintro e v4 ⟨b, rfl, hb4, hb⟩; have hC := hA.on hb4; have hgC := hgA.on hb4; have ha2 := ha.on hb4; have hb2' := hb)
            | ((with_reducible refine (over_iv (x := x') (y := gv) hB.ix hgi hg0).mono ?_); rintro e v4 ⟨a, rfl, hb4, ha⟩; have hC := hB.on hb4; have hgC := hgA.on hb4; have hb2' := hb.on hb4; have ha2 := ha))
        | (go_at_call 70; (with_reducible refine (lowest_ok (x := a) (y := b) ha2 hb2' hqp HC.out).mono ?_); rintro e v5 ⟨f, rfl, hb5, hf⟩; have hD := hC.on hb5; have hgD := hgC.on hb5; have z0 := hD.oz.c0; have z1 := hD.oz.c1; have z2 := hD.oz.c2; have z3 := hD.oz.c3; have f0 := hD.oz.frozen 0; have f1 := hD.oz.frozen 1; have f2 := hD.oz.frozen 2; have f3 := hD.oz.frozen 3; have hE := hD.put4 f; have hgE := hgD.put4far (g := w.heap.size + 1 + 1) (by omega) (.bool f.p.neg) (.slice f.p.A f.p.n f.p.c) (.bool f.l.neg) (.slice f.l.A f.l.n f.l.c)))
    all_goals
      have hp := put_frac hD.bel (err := 0) (by omega) hD.oz (by simp) (by simp) (by simp) (by simp) hf
      have hO5 := hD.oz.put4 (.bool f.p.neg) (.slice f.p.A f.p.n f.p.c) (.bool f.l.neg) (.slice f.l.A f.l.n f.l.c)
      have q0 := hO5.c0
      have q1 := hO5.c1
      have q2 := hO5.c2
      have q3 := hO5.c3
      rw [← HMP.out, ← HMQ.out] at hp
      have HP := Lib.hid hp
      clear hp hO5 hE hgE
      go_wp2
      exact bodyPost_ret (v := .tuple #[.agg #[.bool f.p.neg, .slice f.p.A f.p.n f.p.c, .bool f.l.neg, .slice f.l.A f.l.n f.l.c], .int .i64 0]) (by simp [results, Tryz.results41, go_sem, q0, q1, q2, q3]) rfl HP.out
end Go.Proofs.YtfbbnphpapmpcaaGreatDoor

/-
  (second part)
-/
namespace Go.Proofs.YtfbbnphpapmpcaaGreatDoor
open Go.RowKit

/-! ### What a value stands for, and a box of the call's own -/
def IsI (w : World) (v : Value) (z : Int) : Prop := ∃ x : IV, v = .agg #[.bool x.neg, .slice x.A x.n x.c] ∧ x.is w z
theorem IsI.on {w w' : World} {v : Value} {z : Int} (h : IsI w v z) (hb : Below w.heap.size w w') : IsI w' v z := by
  obtain ⟨x, e, hx⟩ := h
  exact ⟨x, e, hx.on hb⟩
theorem IsI.put2 {w : World} {v : Value} {z : Int} (h : IsI w v z) {g : Nat} {t : TypeId} {a b : Value} (hO : Own w g t [a, b]) (ha : ∀ n, a ≠ .int .u32 n) (hb : ∀ n, b ≠ .int .u32 n) (u r : Value) : IsI ((w.setCell ⟨g, 0, none⟩ u).setCell ⟨g, 1, none⟩ r) v z := by
  obtain ⟨x, e, hx⟩ := h
  exact ⟨x, e, hx.put2 hO ha hb u r⟩
/-- v points to a box of two cells in a block from W on; dn: it holds src. -/
def BoxAt (W w : World) (t : TypeId) (v : Value) (dn : Prop) (src : Value) : Prop :=
  ∃ g c0 c1, v = .pointer (some ⟨g, 0, none⟩) ∧ W.heap.size ≤ g ∧ Own w g t [c0, c1] ∧ (∀ n, c0 ≠ .int .u32 n) ∧ (∀ n, c1 ≠ .int .u32 n) ∧ (dn → src = .agg #[c0, c1])
section
variable {W w w' : World} {t : TypeId} {v src src' : Value} {dn dn' : Prop}
theorem BoxAt.on (h : BoxAt W w t v dn src) (hb : Below w.heap.size w w') : BoxAt W w' t v dn src := by
  obtain ⟨g, c0, c1, h1, h2, h3, h4⟩ := h
  exact ⟨g, c0, c1, h1, h2, h3.on hb, h4⟩
theorem BoxAt.imp (h : BoxAt W w t v dn src) (hd : dn' → dn) : BoxAt W w t v dn' src := by
  obtain ⟨g, c0, c1, h1, h2, h3, h4, h5, h6⟩ := h
  exact ⟨g, c0, c1, h1, h2, h3, h4, h5, fun x => h6 (hd x)⟩
theorem BoxAt.resrc (h : BoxAt W w t v dn src) (hd : ¬ dn') : BoxAt W w t v dn' src' := by
  obtain ⟨g, c0, c1, h1, h2, h3, h4, h5, h6⟩ := h
  exact ⟨g, c0, c1, h1, h2, h3, h4, h5, fun x => absurd x hd⟩
theorem BoxAt.new (hW : W.heap.size ≤ w.heap.size) (hd : ¬ dn) : BoxAt W (w.alloc (.cells #[.bool false, .slice none 0 0] t)) t (.pointer (some ⟨w.heap.size, 0, none⟩)) dn src :=
  ⟨_, _, _, rfl, hW, Own.new2 w t _ _, by simp, by simp, fun x => absurd x hd⟩
theorem BoxAt.ne_new (h : BoxAt W w t v dn src) : v ≠ .pointer (some ⟨w.heap.size, 0, none⟩) := by
  obtain ⟨g, c0, c1, h1, h2, h3, _⟩ := h
  have := h3.lt
  intro e
  rw [h1] at e
  injection e with e
  injection e with e
  injection e with e
  omega
theorem BoxAt.far (h : BoxAt W w t v dn src) {g : Nat} {v2 : Value} (e : v2 = .pointer (some ⟨g, 0, none⟩)) (hne : v ≠ v2) (a b : Value) : BoxAt W ((w.setCell ⟨g, 0, none⟩ a).setCell ⟨g, 1, none⟩ b) t v dn src := by
  obtain ⟨g', c0, c1, h1, h2, h3, h4⟩ := h
  have : g' ≠ g := by
    rintro rfl
    exact hne (h1.trans e.symm)
  exact ⟨g', c0, c1, h1, h2, (h3.far (p := ⟨g, 0, none⟩) this _).far (p := ⟨g, 1, none⟩) this _, h4⟩
end
end Go.Proofs.YtfbbnphpapmpcaaGreatDoor

/-
  (second part)
-/
namespace Go.Proofs.YtfbbnphpapmpcaaGreatDoor
open Go.RowKit Mag

theorem WI.keeps {w w' : World} {neg : Bool} {A : Option Addr} {n c : Nat} {z : Int} (h : WI w neg A n c z) (k : Keeps w w') : WI w' neg A n c z := by
  obtain ⟨l, h1, h2, h3, h4⟩ := h
  refine ⟨l, h1, h2, ⟨fun hn => ?_, h3.ws, h3.nz, h3.cap, h3.mx⟩, h4⟩
  obtain ⟨g, off, e, hg, hc⟩ := h3.sl hn
  refine ⟨g, off, e, Nat.lt_of_lt_of_le hg k.size, fun i x hx => k.cell _ _ (hc i x hx) ?_⟩
  obtain ⟨y, _, rfl⟩ := List.mem_map.1 (List.mem_of_getElem? hx)
  exact ⟨_, .inl rfl⟩
theorem IV.is.keeps {x : IV} {w w' : World} {z : Int} (h : x.is w z) (k : Keeps w w') : x.is w' z := WI.keeps h k
theorem FV.is.keeps {f : FV} {w w' : World} {p q : Int} (h : f.is w p q) (k : Keeps w w') : f.is w' p q := ⟨h.num.keeps k, h.less.keeps k, h.pos, h.fits, h.cop⟩
end Go.Proofs.YtfbbnphpapmpcaaGreatDoor

/-
  (second part)
-/
namespace Go.Proofs.YtfbbnphpapmpcaaGreatDoor
open Go.RowKit Mag

/-- Two Fracs in their blocks, and the result's block. -/
structure TwoSt (w : World) (f g : FV) (p q r s : Int) (wx : World) : Prop where
  of_ : Own wx w.heap.size 31 [.bool f.p.neg, .slice f.p.A f.p.n f.p.c, .bool f.l.neg, .slice f.l.A f.l.n f.l.c]
  og : Own wx (w.heap.size + 1) 31 [.bool g.p.neg, .slice g.p.A g.p.n g.p.c, .bool g.l.neg, .slice g.l.A g.l.n g.l.c]
  oz : Own wx (w.heap.size + 1 + 1) 31 [.bool false, .slice none 0 0, .bool false, .slice none 0 0]
  if_ : f.is wx p q
  ig : g.is wx r s
  bel : Below w.heap.size w wx
theorem TwoSt.on {w wx w' : World} {f g : FV} {p q r s : Int} (h : TwoSt w f g p q r s wx) (hb : Below wx.heap.size wx w') : TwoSt w f g p q r s w' :=
  ⟨h.of_.on hb, h.og.on hb, h.oz.on hb, h.if_.on hb, h.ig.on hb, Below.call h.bel hb⟩
theorem TwoSt.start {w : World} {f g : FV} {p q r s : Int} (hf : f.is w p q) (hg : g.is w r s) : TwoSt w f g p q r s (((w.alloc (.cells #[.bool f.p.neg, .slice f.p.A f.p.n f.p.c, .bool f.l.neg, .slice f.l.A f.l.n f.l.c] 31)).alloc (.cells #[.bool g.p.neg, .slice g.p.A g.p.n g.p.c, .bool g.l.neg, .slice g.l.A g.l.n g.l.c] 31)).alloc (.cells #[.bool false, .slice none 0 0, .bool false, .slice none 0 0] 31)) := by
  have hB : Below w.heap.size w (((w.alloc (.cells #[.bool f.p.neg, .slice f.p.A f.p.n f.p.c, .bool f.l.neg, .slice f.l.A f.l.n f.l.c] 31)).alloc (.cells #[.bool g.p.neg, .slice g.p.A g.p.n g.p.c, .bool g.l.neg, .slice g.l.A g.l.n g.l.c] 31)).alloc (.cells #[.bool false, .slice none 0 0, .bool false, .slice none 0 0] 31)) := by go_grown
  refine ⟨((Own.newF w _ f).alloc _).alloc _, ?_, ?_, hf.on hB, hg.on hB, hB⟩
  · have := (Own.newF (w.alloc (.cells #[.bool f.p.neg, .slice f.p.A f.p.n f.p.c, .bool f.l.neg, .slice f.l.A f.l.n f.l.c] 31)) 31 g).alloc (.cells #[.bool false, .slice none 0 0, .bool false, .slice none 0 0] 31)
    simpa using this
  · have := Own.new4 ((w.alloc (.cells #[.bool f.p.neg, .slice f.p.A f.p.n f.p.c, .bool f.l.neg, .slice f.l.A f.l.n f.l.c] 31)).alloc (.cells #[.bool g.p.neg, .slice g.p.A g.p.n g.p.c, .bool g.l.neg, .slice g.l.A g.l.n g.l.c] 31)) 31 (.bool false) (.slice none 0 0) (.bool false) (.slice none 0 0)
    simpa using this

theorem below_al {W w : World} (h : Below W.heap.size W w) (o : Obj) : Below W.heap.size W (w.alloc o) := h.alloc h.size o
/-! The contracts at a world behind the one that the facts speak of. -/
theorem Den_b {f : FV} {p q : Int} {W w : World} (hf : f.is W p q) (hb : Below W.heap.size W w) : Calls Tryz.prog 31 #[.agg #[.bool f.p.neg, .slice f.p.A f.p.n f.p.c, .bool f.l.neg, .slice f.l.A f.l.n f.l.c]] w fun e w' => ∃ r : IV, e = .returned (.agg #[.bool r.neg, .slice r.A r.n r.c]) ∧ Below W.heap.size W w' ∧ Below w.heap.size w w' ∧ r.is w' q :=
  (Den_any (hf.on hb)).mono fun _ _ ⟨r, h1, h2, h3⟩ => ⟨r, h1, Below.call hb h2, h2, h3⟩
theorem gcd_b {x y : IV} {a b : Int} {W1 W2 w : World} (hx : x.is W1 a) (h1 : Below W1.heap.size W1 w) (hy : y.is W2 b) (h2 : Below W2.heap.size W2 w) : Calls Tryz.prog 69 #[.agg #[.bool x.neg, .slice x.A x.n x.c], .agg #[.bool y.neg, .slice y.A y.n y.c]] w fun e w' => ∃ r : IV, e = .returned (.agg #[.bool r.neg, .slice r.A r.n r.c]) ∧ Below W1.heap.size W1 w' ∧ Below w.heap.size w w' ∧ r.is w' (Int.gcd a b : Nat) :=
  (gcd_iv (hx.on h1) (hy.on h2)).mono fun _ _ ⟨r, k1, k2, k3⟩ => ⟨r, k1, Below.call h1 k2, k2, k3⟩
theorem over_b {x y : IV} {a b : Int} {W1 W2 w : World} (hx : x.is W1 a) (h1 : Below W1.heap.size W1 w) (hy : y.is W2 b) (h2 : Below W2.heap.size W2 w) (h0 : b ≠ 0) : Calls Tryz.prog 71 #[.agg #[.bool x.neg, .slice x.A x.n x.c], .agg #[.bool y.neg, .slice y.A y.n y.c]] w fun e w' => ∃ r : IV, e = .returned (.agg #[.bool r.neg, .slice r.A r.n r.c]) ∧ Below W2.heap.size W2 w' ∧ Below w.heap.size w w' ∧ r.is w' (a / b) :=
  (over_iv (hx.on h1) (hy.on h2) h0).mono fun _ _ ⟨r, k1, k2, k3⟩ => ⟨r, k1, Below.call h2 k2, k2, k3⟩

end Go.Proofs.YtfbbnphpapmpcaaGreatDoor
