/-
  Contracts of package frac: must, over, Den, Num, lowest.
-/
import Derived.Test.YthafhbogpfggjaaGreatDoorW16
import Derived.Deep.DeepCutAuto
namespace Go.Proofs.YthafhbogpfggjaaGreatDoor
open Go.RowKit Mag

theorem IntP.on {w w1 w2 : World} {z : Int} {e : Ending} (h : IntP w z e w1) (hb : Below w1.heap.size w1 w2) : IntP w z e w2 := by
  obtain ⟨r, h1, h2, h3⟩ := h
  exact ⟨r, h1, h2.trans (hb.mono h2.size), h3.on hb⟩
/-- A result is put into its block. -/
theorem put_int {w w1 : World} {g : Nat} {t : TypeId} {a b : Value} (hW : Below w.heap.size w w1) (hg : w.heap.size ≤ g) (hO : Own w1 g t [a, b]) (ha : ∀ n, a ≠ .int .u32 n) (hb : ∀ n, b ≠ .int .u32 n) {r : IV} {z : Int} (hr : r.is w1 z) :
    IntP w z (.returned (.agg #[.bool r.neg, .slice r.A r.n r.c])) ((w1.setCell ⟨g, 0, none⟩ (.bool r.neg)).setCell ⟨g, 1, none⟩ (.slice r.A r.n r.c)) ∧ Own ((w1.setCell ⟨g, 0, none⟩ (.bool r.neg)).setCell ⟨g, 1, none⟩ (.slice r.A r.n r.c)) g t [.bool r.neg, .slice r.A r.n r.c] :=
  ⟨⟨r, rfl, Below.put2 hW hg _ _, hr.put2 hO ha hb _ _⟩, hO.put2 _ _⟩

theorem must_iv {x : IV} {err : Int} {w : World} : Calls Tryz.prog 140 #[.agg #[.bool x.neg, .slice x.A x.n x.c], .int .i64 err] w fun e w' => e = .returned (.agg #[.bool x.neg, .slice x.A x.n x.c]) ∧ Below w.heap.size w w' := by
  go_enter Tryz.func140, Tryz.ntmps140
  go_wp2
  go_returns
  exact ⟨rfl, by go_grown⟩

set_option maxRecDepth 100000 in
set_option maxHeartbeats 800000 in
theorem over_iv {x y : IV} {a b : Int} {w : World} (hx : x.is w a) (hy : y.is w b) (h0 : b ≠ 0) : Calls Tryz.prog 135 #[.agg #[.bool x.neg, .slice x.A x.n x.c], .agg #[.bool y.neg, .slice y.A y.n y.c]] w (IntP w (a / b)) := by
  go_enter Tryz.func135, Tryz.ntmps135
  go_wp2_with fail
  have hO := Own.new2 ((w.alloc (.cells #[.bool x.neg, .slice x.A x.n x.c] 29)).alloc (.cells #[.bool y.neg, .slice y.A y.n y.c] 29)) 29 (.bool false) (.slice none 0 0)
  have hB : Below w.heap.size w (((w.alloc (.cells #[.bool x.neg, .slice x.A x.n x.c] 29)).alloc (.cells #[.bool y.neg, .slice y.A y.n y.c] 29)).alloc (.cells #[.bool false, .slice none 0 0] 29)) := by go_grown
  have hg : ((w.alloc (.cells #[.bool x.neg, .slice x.A x.n x.c] 29)).alloc (.cells #[.bool y.neg, .slice y.A y.n y.c] 29)).heap.size = w.heap.size + 1 + 1 := by simp
  rw [hg] at hO
  clear hg
  generalize ((w.alloc (.cells #[.bool x.neg, .slice x.A x.n x.c] 29)).alloc (.cells #[.bool y.neg, .slice y.A y.n y.c] 29)).alloc (.cells #[.bool false, .slice none 0 0] 29) = W at hO hB ⊢
  refine (div_iv (hx.on hB) (hy.on hB) h0).mono ?_
  rintro e w1 ⟨q, r, rfl, hb1, hq, hr⟩
  have hb2 := (below_new w1 (.cells #[.bool q.neg, .slice q.A q.n q.c] 29)).trans ((below_new (w1.alloc (.cells #[.bool q.neg, .slice q.A q.n q.c] 29)) (.cells #[.bool r.neg, .slice r.A r.n r.c] 29)).mono (by simp))
  have hQ2 := (Own.new2 w1 29 (.bool q.neg) (.slice q.A q.n q.c)).alloc (.cells #[.bool r.neg, .slice r.A r.n r.c] 29)
  go_upto_region 2 with fail
  generalize (w1.alloc (.cells #[.bool q.neg, .slice q.A q.n q.c] 29)).alloc (.cells #[.bool r.neg, .slice r.A r.n r.c] 29) = w2 at hb2 hQ2 ⊢
  have hO1 := (hO.on hb1).on hb2
  have hB1 := Below.call (Below.call hB hb1) hb2
  have z0 := hO1.c0
  have z1 := hO1.c1
  have f0 := hO1.frozen 0
  have f1 := hO1.frozen 1
  have y0 := hQ2.c0
  have y1 := hQ2.c1
  obtain ⟨hp, hO2⟩ := put_int hB1 (by omega) hO1 (by simp) (by simp) (hq.on hb2)
  have q0 := hO2.c0
  have q1 := hO2.c1
  have HP := Lib.hid hp
  clear hp hO2 hO
  go_wp2
  exact bodyPost_ret (v := .agg #[.bool q.neg, .slice q.A q.n q.c]) (by simp [results, Tryz.results135, go_sem, q0, q1]) rfl HP.out
/-- The state of a product of two Ints at a round's head. -/
structure TimSt (w : World) (g gt : Nat) (x y : IV) (a b z : Int) (r : IV) (wr : World) : Prop where
  arg : Own wr g 29 [.bool x.neg, .slice x.A x.n x.c, .bool y.neg, .slice y.A y.n y.c]
  res : Own wr w.heap.size 29 [.bool false, .slice none 0 0]
  acc : Own wr gt 29 [.bool r.neg, .slice r.A r.n r.c]
  ix : x.is wr a
  iy : y.is wr b
  ir : r.is wr z
  bel : Below w.heap.size w wr
theorem TimSt.on {w wr w' : World} {g gt : Nat} {x y : IV} {a b z : Int} {r : IV} (h : TimSt w g gt x y a b z r wr) (hb : Below wr.heap.size wr w') : TimSt w g gt x y a b z r w' :=
  ⟨h.arg.on hb, h.res.on hb, h.acc.on hb, h.ix.on hb, h.iy.on hb, h.ir.on hb, Below.call h.bel hb⟩
theorem TimSt.put {w wr : World} {g gt : Nat} {x y : IV} {a b z : Int} {r : IV} (h : TimSt w g gt x y a b z r wr) (h1 : g ≠ gt) (h2 : w.heap.size ≠ gt) (hB : w.heap.size ≤ gt) {q : IV} {z' : Int} (hq : q.is wr z') :
    TimSt w g gt x y a b z' q ((wr.setCell ⟨gt, 0, none⟩ (.bool q.neg)).setCell ⟨gt, 1, none⟩ (.slice q.A q.n q.c)) := by
  refine ⟨?_, ?_, h.acc.put2 _ _, h.ix.put2 h.acc (by simp) (by simp) _ _, h.iy.put2 h.acc (by simp) (by simp) _ _, hq.put2 h.acc (by simp) (by simp) _ _, Below.put2 h.bel hB _ _⟩
  · exact (h.arg.far (p := ⟨gt, 0, none⟩) h1 _).far (p := ⟨gt, 1, none⟩) h1 _
  · exact (h.res.far (p := ⟨gt, 0, none⟩) h2 _).far (p := ⟨gt, 1, none⟩) h2 _
theorem put_err {w w1 : World} {t : TypeId} {a b : Value} (hW : Below w.heap.size w w1) (hO : Own w1 w.heap.size t [a, b]) {err err' : Int} {r : IV} {z z' : Int} (hr : r.is w1 z) (hz : z' = z) (he : err' = err) (ha : ∀ n, a ≠ .int .u32 n) (hb : ∀ n, b ≠ .int .u32 n) :
    IntE w z' err' (.returned (.tuple #[.agg #[.bool r.neg, .slice r.A r.n r.c], .int .i64 err])) ((w1.setCell ⟨w.heap.size, 0, none⟩ (.bool r.neg)).setCell ⟨w.heap.size, 1, none⟩ (.slice r.A r.n r.c)) := by
  subst hz he
  exact ⟨r, rfl, Below.put2 hW (Nat.le_refl _) _ _, hr.put2 hO ha hb _ _⟩
set_option maxRecDepth 100000 in
set_option maxHeartbeats 1600000 in
theorem times_iv {x y : IV} {a b : Int} {g : Nat} {w : World} (hO : Own w g 29 [.bool x.neg, .slice x.A x.n x.c, .bool y.neg, .slice y.A y.n y.c]) (hx : x.is w a) (hy : y.is w b) :
    Calls Tryz.prog 137 #[.slice (some ⟨g, 0, none⟩) 2 2] w (IntE w (clip (a * b)) (lim (a * b))) := by
  have hgl := hO.lt
  go_enter Tryz.func137, Tryz.ntmps137
  go_wp2_with fail
  refine (from_iv 1 _ (by omega) (by omega)).mono ?_
  rintro e w1 ⟨r, rfl, hb1, hr⟩
  have hR := (Own.new2 w 29 (.bool false) (.slice none 0 0)).on hb1
  have hst0 : TimSt w g w1.heap.size x y a b 1 r (w1.alloc (.cells #[.bool r.neg, .slice r.A r.n r.c] 29)) :=
    ⟨((hO.alloc _).on hb1).alloc _, hR.alloc _, Own.new2 w1 29 (.bool r.neg) (.slice r.A r.n r.c), ((hx.on (below_new _ _)).on hb1).on (below_new _ _), ((hy.on (below_new _ _)).on hb1).on (below_new _ _), hr.on (below_new _ _), Below.call (Below.call (below_new _ _) hb1) (below_new _ _)⟩
  have hs1 : w.heap.size < w1.heap.size := hR.lt
  go_upto_region 2 with fail
  generalize w1.alloc (.cells #[.bool r.neg, .slice r.A r.n r.c] 29) = w2 at hst0 ⊢
  obtain ⟨gt, hgt⟩ : ∃ gt, gt = w1.heap.size := ⟨_, rfl⟩
  rw [← hgt] at hst0 hs1 ⊢
  have n1 : g ≠ gt := by omega
  have n2 : w.heap.size ≠ gt := by omega
  have n3 : w.heap.size ≤ gt := by omega
  clear hgt hb1 hr hR
  go_wp2_with fail
  go_loopw [12] (fun i wr => ∃ (k : Nat) (r : IV) (z : Int), k ≤ 2 ∧ i = .int .i64 k ∧ Hid ((k = 0 ∧ z = 1) ∨ (k = 1 ∧ z = a) ∨ (k = 2 ∧ z = a * b ∧ z.natAbs < top)) ∧ TimSt w g gt x y a b z r wr) (fun i _ => 2 - (intOf i).toNat)
  case atStart => exact ⟨0, r, 1, by omega, rfl, Lib.hid (.inl ⟨rfl, rfl⟩), hst0⟩
  case round =>
    obtain ⟨k, r, z, hk, rfl, hz, hst⟩ := hrel
    have c0 := hst.arg.c0
    have c1 := hst.arg.c1
    have c2 := hst.arg.c2
    have c3 := hst.arg.c3
    rcases (by omega : k = 0 ∨ k = 1 ∨ k = 2) with rfl | rfl | rfl
    · go_upto_region 5 with fail
      have hb3 := below_new wr (.cells #[.bool x.neg, .slice x.A x.n x.c] 29)
      have hBX := Own.new2 wr 29 (.bool x.neg) (.slice x.A x.n x.c)
      generalize wr.alloc (.cells #[.bool x.neg, .slice x.A x.n x.c] 29) = w3 at hb3 hBX ⊢
      have hs3 := hst.on hb3
      have x0 := hBX.c0
      have x1 := hBX.c1
      have r0 := hs3.acc.c0
      have r1 := hs3.acc.c1
      clear c0 c1 c2 c3
      go_wp2_with fail
      refine (mul_iv hs3.ir hs3.ix).mono ?_
      rintro e w4 ⟨q, rfl, hb4, hq⟩
      have hs4 := hs3.on hb4
      go_upto_region 6 with fail
      have hb5 := below_new w4 (.cells #[.bool q.neg, .slice q.A q.n q.c] 29)
      have hQ := Own.new2 w4 29 (.bool q.neg) (.slice q.A q.n q.c)
      generalize w4.alloc (.cells #[.bool q.neg, .slice q.A q.n q.c] 29) = w5 at hb5 hQ ⊢
      have hs5 := hs4.on hb5
      have hq5 := hq.on hb5
      have y0 := hQ.c0
      have y1 := hQ.c1
      have hz1 : z = 1 := by rcases hz.out with h | h | h <;> omega
      have hzz : z * a = a := by rw [hz1, Int.one_mul]
      rw [hzz, clip_in hx.fits] at hq5
      have hl : lim (z * a) = 0 := by rw [hzz]; exact lim_in hx.fits
      rw [hl]
      have hs6 := hs5.put n1 n2 n3 hq5
      have a0 := hs5.acc.c0
      have a1 := hs5.acc.c1
      have f0 := hs5.acc.frozen 0
      have f1 := hs5.acc.frozen 1
      have HS6 := Lib.hid hs6
      clear hs6 hzz hl x0 x1 r0 r1 hz1
      go_wp2_with fail
      go_roundw
      case rel => exact ⟨1, q, a, by omega, rfl, Lib.hid (.inr (.inl ⟨rfl, rfl⟩)), HS6.out⟩
      case measure => simp [intOf]
    · go_upto_region 5 with fail
      have hb3 := below_new wr (.cells #[.bool y.neg, .slice y.A y.n y.c] 29)
      have hBX := Own.new2 wr 29 (.bool y.neg) (.slice y.A y.n y.c)
      generalize wr.alloc (.cells #[.bool y.neg, .slice y.A y.n y.c] 29) = w3 at hb3 hBX ⊢
      have hs3 := hst.on hb3
      have x0 := hBX.c0
      have x1 := hBX.c1
      have r0 := hs3.acc.c0
      have r1 := hs3.acc.c1
      clear c0 c1 c2 c3
      go_wp2_with fail
      refine (mul_iv hs3.ir hs3.iy).mono ?_
      rintro e w4 ⟨q, rfl, hb4, hq⟩
      have hs4 := hs3.on hb4
      go_upto_region 6 with fail
      have hb5 := below_new w4 (.cells #[.bool q.neg, .slice q.A q.n q.c] 29)
      have hQ := Own.new2 w4 29 (.bool q.neg) (.slice q.A q.n q.c)
      generalize w4.alloc (.cells #[.bool q.neg, .slice q.A q.n q.c] 29) = w5 at hb5 hQ ⊢
      have hs5 := hs4.on hb5
      have hq5 := hq.on hb5
      have y0 := hQ.c0
      have y1 := hQ.c1
      have hz1 : z = a := by rcases hz.out with h | h | h <;> omega
      rw [hz1] at hq5 ⊢
      by_cases hf : (a * b).natAbs < top
      · rw [clip_in hf] at hq5
        rw [lim_in hf]
        have hs6 := hs5.put n1 n2 n3 hq5
        have a0 := hs5.acc.c0
        have a1 := hs5.acc.c1
        have f0 := hs5.acc.frozen 0
        have f1 := hs5.acc.frozen 1
        have HS6 := Lib.hid hs6
        have HF := Lib.hid hf
        clear hs6 x0 x1 r0 r1 hz1 hf
        go_wp2_with fail
        go_roundw
        case rel => exact ⟨2, q, a * b, by omega, rfl, Lib.hid (.inr (.inr ⟨rfl, rfl, HF.out⟩)), HS6.out⟩
        case measure => simp [intOf]
      · rw [lim_out hf]
        have HP := put_err hs5.bel hs5.res (IV.zero_is w5) (clip_out hf) (lim_out hf) (by simp) (by simp)
        have hO6 := hs5.res.put2 (.bool false) (.slice none 0 0)
        have q0 := hO6.c0
        have q1 := hO6.c1
        have a0 := hs5.res.c0
        have a1 := hs5.res.c1
        have f0 := hs5.res.frozen 0
        have f1 := hs5.res.frozen 1
        have HQ := Lib.hid HP
        clear HP hO6 x0 x1 r0 r1 hz1 hf
        go_wp2
        exact bodyPost_ret (v := .tuple #[.agg #[.bool IV.zero.neg, .slice IV.zero.A IV.zero.n IV.zero.c], .int .i64 4]) (by simp [results, Tryz.results137, go_sem, q0, q1, IV.zero]) rfl HQ.out
    · have hzf : z = a * b ∧ z.natAbs < top := by rcases hz.out with h | h | h <;> omega
      obtain ⟨hz1, hf⟩ := hzf
      subst hz1
      have HP := put_err hst.bel hst.res hst.ir (clip_in hf) (lim_in hf) (by simp) (by simp)
      have hO6 := hst.res.put2 (.bool r.neg) (.slice r.A r.n r.c)
      have q0 := hO6.c0
      have q1 := hO6.c1
      have a0 := hst.res.c0
      have a1 := hst.res.c1
      have f0 := hst.res.frozen 0
      have f1 := hst.res.frozen 1
      have r0 := hst.acc.c0
      have r1 := hst.acc.c1
      have HQ := Lib.hid HP
      clear HP hO6 hf
      go_wp2
      exact bodyPost_ret (v := .tuple #[.agg #[.bool r.neg, .slice r.A r.n r.c], .int .i64 0]) (by simp [results, Tryz.results137, go_sem, q0, q1]) rfl HQ.out
end Go.Proofs.YthafhbogpfggjaaGreatDoor
