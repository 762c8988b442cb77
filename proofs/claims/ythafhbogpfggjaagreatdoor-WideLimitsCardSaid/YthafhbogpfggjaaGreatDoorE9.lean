/-
  Chapter 03's reference: Div.
-/
import Derived.Test.YthafhbogpfggjaaGreatDoorE7
import Derived.Test.YthafhbogpfggjaaGreatDoorW11
namespace Go.Proofs.YthafhbogpfggjaaGreatDoor
open Go.RowKit
open Dig (val Ws Nz)

section
variable {P : Program} {c : Code} {Q : Exit → Act → World → Prop} {a : Act} {w : World} {T U V X : TypeId} {xs ys zs us : List Value}
theorem wp_new4 (h : ∀ W, Own W w.heap.size T xs → Own W (w.heap.size + 1) U ys → Own W (w.heap.size + 1 + 1) V zs → Own W (w.heap.size + 1 + 1 + 1) X us → Below w.heap.size w W → c.wp P Q a W) :
    c.wp P Q a ((((w.alloc (.cells xs.toArray T)).alloc (.cells ys.toArray U)).alloc (.cells zs.toArray V)).alloc (.cells us.toArray X)) := by
  have h2 := Own.new (w.alloc (.cells xs.toArray T)) U ys
  rw [show (w.alloc (.cells xs.toArray T)).heap.size = w.heap.size + 1 by simp] at h2
  have h3 := Own.new ((w.alloc (.cells xs.toArray T)).alloc (.cells ys.toArray U)) V zs
  rw [show ((w.alloc (.cells xs.toArray T)).alloc (.cells ys.toArray U)).heap.size = w.heap.size + 1 + 1 by simp] at h3
  have h4 := Own.new (((w.alloc (.cells xs.toArray T)).alloc (.cells ys.toArray U)).alloc (.cells zs.toArray V)) X us
  rw [show (((w.alloc (.cells xs.toArray T)).alloc (.cells ys.toArray U)).alloc (.cells zs.toArray V)).heap.size = w.heap.size + 1 + 1 + 1 by simp] at h4
  exact h _ ((((Own.new w T xs).alloc _).alloc _).alloc _) ((h2.alloc _).alloc _) (h3.alloc _) h4 (by go_grown)
end
/-- Two N's are returned. -/
def RetNN (w : World) (z1 z2 : Int) (e : Ending) (w' : World) : Prop := ∃ x y : IV, e = .returned (.tuple #[.agg #[.bool x.neg, .slice x.A x.n x.c], .agg #[.bool y.neg, .slice y.A y.n y.c]]) ∧ Below w.heap.size w w' ∧ NI x w' z1 ∧ NI y w' z2
theorem ND.len_pos {d : DV} {w : World} {m : Nat} (h : ND d w m) : (0 < d.n ↔ 0 < m) := by
  obtain ⟨l, e1, e2, e3, e4, e5⟩ := h
  rw [← e1, ← e4]
  constructor
  · intro h
    exact e3.pos (by intro e; subst e; simp at h)
  · intro h
    rcases Nat.eq_zero_or_pos l.length with h0 | h0
    · rw [List.eq_nil_of_length_eq_zero h0] at h
      simp [val] at h
    · exact h0
/-- What stands behind a division's digits. -/
structure DivMid2 (w W : World) (s t : Bool) (a b : Int) (u v : IV) (g8 g9 : Nat) (cur : World) : Prop where
  bel : Below W.heap.size W cur
  o8 : Own cur g8 44 [.bool u.neg, .slice u.A u.n u.c]
  o9 : Own cur g9 44 [.bool v.neg, .slice v.A v.n v.c]
  h8 : W.heap.size ≤ g8
  h9 : g8 < g9
  q : NI u cur (sgn (s != t) (a.natAbs / b.natAbs))
  r : NI v cur ((a.natAbs % b.natAbs : Nat) : Int)
theorem NI.drew_ {x : IV} {w : World} {z : Int} (h : NI x w z) : NI x w.drew z := by
  obtain ⟨l, a1, a2, a3, a4⟩ := h
  exact ⟨l, a1, a2, ⟨a3.sl, a3.ws, a3.cap, a3.mx⟩, a4⟩
theorem Own.drew_ {w : World} {g : Nat} {t : TypeId} {xs : List Value} (h : Own w g t xs) : Own w.drew g t xs := h
/-- The end of a call that stores two N's into its results. -/
theorem retNN_end {w W : World} {g1 g2 : Nat} {t1 t2 : TypeId} {p0 p1 r0 r1 : Value} {u v : IV} {z1 z2 : Int} (hb : Below w.heap.size w W) (hg1 : w.heap.size ≤ g1) (hg2 : w.heap.size ≤ g2) (h1 : Own W g1 t1 [p0, p1]) (h2 : Own W g2 t2 [r0, r1]) (hne : g1 ≠ g2)
    (hp0 : ∀ n, p0 ≠ .int .i64 n) (hp1 : ∀ n, p1 ≠ .int .i64 n) (hr0 : ∀ n, r0 ≠ .int .i64 n) (hr1 : ∀ n, r1 ≠ .int .i64 n) (hu : NI u W z1) (hv : NI v W z2) :
    RetNN w z1 z2 (.returned (.tuple #[.agg #[.bool u.neg, .slice u.A u.n u.c], .agg #[.bool v.neg, .slice v.A v.n v.c]])) ((((W.setCell ⟨g1, 0, none⟩ (.bool u.neg)).setCell ⟨g1, 1, none⟩ (.slice u.A u.n u.c)).setCell ⟨g2, 0, none⟩ (.bool v.neg)).setCell ⟨g2, 1, none⟩ (.slice v.A v.n v.c)).drew ∧
    Own ((((W.setCell ⟨g1, 0, none⟩ (.bool u.neg)).setCell ⟨g1, 1, none⟩ (.slice u.A u.n u.c)).setCell ⟨g2, 0, none⟩ (.bool v.neg)).setCell ⟨g2, 1, none⟩ (.slice v.A v.n v.c)).drew g1 t1 [.bool u.neg, .slice u.A u.n u.c] ∧
    Own ((((W.setCell ⟨g1, 0, none⟩ (.bool u.neg)).setCell ⟨g1, 1, none⟩ (.slice u.A u.n u.c)).setCell ⟨g2, 0, none⟩ (.bool v.neg)).setCell ⟨g2, 1, none⟩ (.slice v.A v.n v.c)).drew g2 t2 [.bool v.neg, .slice v.A v.n v.c] := by
  have k2 := (h2.far (p := ⟨g1, 0, none⟩) (Ne.symm hne) (.bool u.neg)).far (p := ⟨g1, 1, none⟩) (Ne.symm hne) (.slice u.A u.n u.c)
  have k1 := h1.put2 (.bool u.neg) (.slice u.A u.n u.c)
  have hu2 := (hu.put2 h1 hp0 hp1 (.bool u.neg) (.slice u.A u.n u.c)).put2 k2 hr0 hr1 (.bool v.neg) (.slice v.A v.n v.c)
  have hv2 := (hv.put2 h1 hp0 hp1 (.bool u.neg) (.slice u.A u.n u.c)).put2 k2 hr0 hr1 (.bool v.neg) (.slice v.A v.n v.c)
  have hbb := Below.put2 (Below.put2 hb hg1 (.bool u.neg) (.slice u.A u.n u.c)) hg2 (.bool v.neg) (.slice v.A v.n v.c)
  refine ⟨⟨u, v, rfl, hbb.drew, ?_, ?_⟩, ?_, ?_⟩
  · exact hu2.drew_
  · exact hv2.drew_
  · exact Own.drew_ ((k1.far (p := ⟨g2, 0, none⟩) hne (.bool v.neg)).far (p := ⟨g2, 1, none⟩) hne (.slice v.A v.n v.c))
  · exact Own.drew_ (k2.put2 (.bool v.neg) (.slice v.A v.n v.c))
set_option maxRecDepth 100000 in
set_option maxHeartbeats 3200000 in
theorem rDiv_any {x y : IV} {w : World} {a b : Int} (hx : NI x w a) (hy : NI y w b) (h0 : b ≠ 0) (hn : x.n < many - 2) (hm : y.n < many - 2) :
    Calls Tryz.prog 47 #[.agg #[.bool x.neg, .slice x.A x.n x.c], .agg #[.bool y.neg, .slice y.A y.n y.c]] w (RetNN w (a / b) (a % b)) := by
  have va := hx.val
  have vb := hy.val
  have hnm : many = 65536 := rfl
  obtain ⟨s, xA, xn, xc⟩ := x
  obtain ⟨t, yA, yn, yc⟩ := y
  simp only at hn hm va vb
  have hB : 0 < b.natAbs := by omega
  have HV := Lib.hid (And.intro va vb)
  clear va vb
  go_enter Tryz.func47, Tryz.ntmps47
  go_upto_region 1 with fail
  refine wp_new4 fun W hA hBx hO1 hO2 hBel => ?_
  obtain ⟨r0, r1⟩ := hA.rules2
  obtain ⟨s0, s1⟩ := hBx.rules2
  replace hx := hx.on hBel
  replace hy := hy.on hBel
  have hW := Below.refl W.heap.size W
  go_wp2_with fail
  refine (rdivided_any (d := ⟨xA, xn, xc⟩) (e := ⟨yA, yn, yc⟩) (hx.nd rfl) (hy.nd rfl) hB (by show yn < many; omega)).mono ?_
  rintro e w1 ⟨dq, dr, rfl, k1, hq1, hr1⟩
  go_wp2_with fail
  refine (nnormal (s != t) hq1 rfl).mono ?_
  rintro e w2 ⟨u, rfl, k2, hu⟩
  have hr2 := hr1.on k2
  have k2' := Below.call k1 k2
  go_upto_region 3 with fail
  refine wp_new1 fun W3 hO8 hB3 => ?_
  have k3 := Below.call k2' hB3
  have hu3 := hu.on hB3
  have hr3 : dr.is W3 fun l => val l = a.natAbs % b.natAbs ∧ l.length ≤ many := by
    obtain ⟨l, e1, e2, e3, e4, e5⟩ := hr2.on hB3
    exact ⟨l, e1, e2, e4, e5⟩
  have hs2 := k2'.size
  clear hr1 hr2 hq1 k2 k2' k1 hu
  go_wp2_with fail
  refine (nnormal false hr3 rfl).mono ?_
  rintro e w4 ⟨v, rfl, k4, hv⟩
  go_upto_region 4 with fail
  refine wp_new1 fun W5 hO9 hB5 => ?_
  have k34 := Below.call k4 hB5
  have hst : DivMid2 w W s t a b u v w2.heap.size w4.heap.size W5 :=
    ⟨Below.call k3 k34, hO8.on k34, hO9, hs2, by have := (hO8.on k4).lt; exact this, hu3.on k34, by have := hv.on hB5; simpa [sgn] using this⟩
  have hnd : ND ⟨v.A, v.n, v.c⟩ W5 (a.natAbs % b.natAbs) := hst.r.nd (by omega)
  have hlp := hnd.len_pos
  simp only at hlp
  have HST := Lib.hid hst
  have hbel := hst.bel
  have hO1' := hO1.on hst.bel
  have hO2' := hO2.on hst.bel
  clear hr3 hv hu3 hO8 k3 k4 k34 hW hst
  obtain ⟨q0, q1, fq0, fq1⟩ := HST.out.o8.all2
  obtain ⟨v0, v1, fv0, fv1⟩ := HST.out.o9.all2
  obtain ⟨d0, d1, fd0, fd1⟩ := hO1'.all2
  obtain ⟨c0, c1, fc0, fc1⟩ := hO2'.all2
  have hl2 := hO2.lt
  have m0 := HST.out.h8
  have m9 := HST.out.h9
  have m1 : ¬ (w.heap.size + 1 + 1 = w2.heap.size) := by omega
  have m2 : ¬ (w.heap.size + 1 + 1 + 1 = w2.heap.size) := by omega
  have m3 : ¬ (w.heap.size + 1 + 1 = w4.heap.size) := by omega
  have m4 : ¬ (w.heap.size + 1 + 1 + 1 = w4.heap.size) := by omega
  have m5 : ¬ (w2.heap.size = w.heap.size + 1 + 1) := by omega
  have m6 : ¬ (w2.heap.size = w.heap.size + 1 + 1 + 1) := by omega
  have m7 : ¬ (w4.heap.size = w.heap.size + 1 + 1) := by omega
  have m8 : ¬ (w4.heap.size = w.heap.size + 1 + 1 + 1) := by omega
  clear m0 m9 hl2
  have hcase : s = false ∨ (s = true ∧ v.n = 0) ∨ (s = true ∧ 0 < v.n) := by
    cases s
    · exact .inl rfl
    · rcases Nat.eq_zero_or_pos v.n with h | h
      · exact .inr (.inl ⟨rfl, h⟩)
      · exact .inr (.inr ⟨rfl, h⟩)
  rcases hcase with rfl | ⟨rfl, hvn⟩ | ⟨rfl, hvn⟩
  · have hdv := div_pos (n2 := t) (x := a.natAbs) (y := b.natAbs)
    rw [← HV.out.1, ← HV.out.2] at hdv
    have HD := Lib.hid hdv
    clear hdv
    go_wp2_with fail
    have HF := Lib.hid (retNN_end (g1 := w.heap.size + 1 + 1) (g2 := w.heap.size + 1 + 1 + 1) (Below.call hBel hbel) (by omega) (by omega) hO1' hO2' (by omega) (by simp) (by simp) (by simp) (by simp) HST.out.q HST.out.r)
    rw [show sgn (false != t) (a.natAbs / b.natAbs) = a / b by rw [HD.out.1]; cases t <;> rfl, ← HD.out.2] at HF
    clear HST hO1' hO2' hnd hlp hx hy hA hBx hO1 hO2 hO9
    clear r0 r1 s0 s1
    go_region
    obtain ⟨e0, e1, _⟩ := HF.out.2.1.all2
    obtain ⟨g0, g1, _⟩ := HF.out.2.2.all2
    clear q0 q1 fq0 fq1 v0 v1 fv0 fv1 d0 d1 fd0 fd1 c0 c1 fc0 fc1
    go_wp2
    exact bodyPost_ret (v := .tuple #[.agg #[.bool u.neg, .slice u.A u.n u.c], .agg #[.bool v.neg, .slice v.A v.n v.c]]) (by simp [results, Tryz.results47, go_sem, e0, e1, g0, g1]) rfl HF.out.1
  · have hmod : a.natAbs % b.natAbs = 0 := by omega
    obtain ⟨vneg, vA, vn, vc⟩ := v
    simp only at hvn
    subst hvn
    have hdv := div_neg0 (n2 := t) hmod
    rw [← HV.out.1, ← HV.out.2] at hdv
    have HD := Lib.hid hdv
    have HM := Lib.hid hmod
    clear hdv hmod
    go_wp2_with fail
    have HF := Lib.hid (retNN_end (g1 := w.heap.size + 1 + 1) (g2 := w.heap.size + 1 + 1 + 1) (Below.call hBel hbel) (by omega) (by omega) hO1' hO2' (by omega) (by simp) (by simp) (by simp) (by simp) HST.out.q HST.out.r)
    rw [show sgn (true != t) (a.natAbs / b.natAbs) = a / b by rw [HD.out.1]; cases t <;> rfl, HM.out, show ((0 : Nat) : Int) = a % b by rw [HD.out.2]; rfl] at HF
    clear HST hO1' hO2' hnd hlp hx hy hA hBx hO1 hO2 hO9
    clear r0 r1 s0 s1
    go_region
    obtain ⟨e0, e1, _⟩ := HF.out.2.1.all2
    obtain ⟨g0, g1, _⟩ := HF.out.2.2.all2
    clear q0 q1 fq0 fq1 v0 v1 fv0 fv1 d0 d1 fd0 fd1 c0 c1 fc0 fc1
    go_wp2
    exact bodyPost_ret (v := .tuple #[.agg #[.bool u.neg, .slice u.A u.n u.c], .agg #[.bool (⟨vneg, vA, 0, vc⟩ : IV).neg, .slice (⟨vneg, vA, 0, vc⟩ : IV).A (⟨vneg, vA, 0, vc⟩ : IV).n (⟨vneg, vA, 0, vc⟩ : IV).c]]) (by simp [results, Tryz.results47, go_sem, e0, e1, g0, g1]) rfl HF.out.1
  · have hmod : 0 < a.natAbs % b.natAbs := hlp.1 hvn
    have hdv := div_neg1 (n2 := t) hB hmod
    rw [← HV.out.1, ← HV.out.2] at hdv
    have HD := Lib.hid hdv
    have hvd : decide (0 < v.n) = true := by rw [decide_eq_true_iff]; exact hvn
    have hux : u.n ≤ xn := ND.len (d := ⟨u.A, u.n, u.c⟩) (e := ⟨xA, xn, xc⟩) (HST.out.q.nd (rsgn_abs _ _)) (hx.nd rfl) (Nat.div_le_self _ _)
    have hn1 := Own.new W5 3 [.int .i64 1]
    have hd1 : (⟨some ⟨W5.heap.size, 0, none⟩, 1, 1⟩ : DV).is (W5.alloc (.cells #[.int .i64 1] 3)) fun l => val l = 1 ∧ l.length ≤ many :=
      ⟨[1], rfl, ⟨hn1.sl hn1.lt, Ws.cons (by omega) Ws.nil, by simp, by show 1 ≤ maxLen; unfold maxLen; omega⟩, rfl, by simp [many]⟩
    have hmb : a.natAbs % b.natAbs ≤ b.natAbs := Nat.le_of_lt (Nat.mod_lt _ hB)
    have HMB := Lib.hid hmb
    clear hdv hmod hn1 hmb q0 q1 fq0 fq1 v0 v1 fv0 fv1 d0 d1 fd0 fd1 c0 c1 fc0 fc1
    obtain ⟨v0, v1, _, _⟩ := HST.out.o9.all2
    go_wp2_with fail
    refine (nnormal (!t) hd1 rfl).mono ?_
    rintro e w6 ⟨o, rfl, k6, ho⟩
    have k56 := Below.call (below_new W5 (.cells #[.int .i64 1] 3)) k6
    go_upto_region 6 with fail
    refine wp_new1 fun W7 hO10 hB7 => ?_
    have k57 := Below.call k56 hB7
    have hu7 := HST.out.q.on k57
    have ho7 := ho.on hB7
    have ho1 : o.n ≤ 1 := NI.len ho (by rw [rsgn_abs]; omega)
    obtain ⟨a0, a1, _, _⟩ := (HST.out.o8.on k57).all2
    obtain ⟨b0, b1, _, _⟩ := hO10.all2
    clear hd1 ho v0 v1 k56 k6
    have huq : NI u W7 (sgn (!t) (a.natAbs / b.natAbs)) := by have := hu7; cases t <;> exact this
    have HSUM : sgn (!t) (a.natAbs / b.natAbs) + sgn (!t) 1 = a / b := by
      rw [HD.out.1]; cases t <;> simp [sgn] <;> omega
    clear hu7
    go_wp2_with fail
    refine (rAdd_any huq ho7 (by omega) (by omega)).mono ?_
    rintro e w8 ⟨p, rfl, k8, hp⟩
    rw [HSUM] at hp
    have k58 := Below.call k57 k8
    have o8 := HST.out.o8.on k58
    have o9 := HST.out.o9.on k58
    have hg89 : w4.heap.size ≠ w2.heap.size := by have := HST.out.h9; omega
    have bel9 := Below.put2 (Below.call hbel k58) HST.out.h8 (.bool p.neg) (.slice p.A p.n p.c)
    have hp9 := hp.put2 o8 (by simp) (by simp) (.bool p.neg) (.slice p.A p.n p.c)
    have hr9 := (HST.out.r.on k58).put2 o8 (by simp) (by simp) (.bool p.neg) (.slice p.A p.n p.c)
    have hy9 := (hy.on (Below.call hbel k58)).put2 o8 (by simp) (by simp) (.bool p.neg) (.slice p.A p.n p.c)
    have O8 := o8.put2 (.bool p.neg) (.slice p.A p.n p.c)
    have O9 := (o9.far (p := ⟨w2.heap.size, 0, none⟩) hg89 (.bool p.neg)).far (p := ⟨w2.heap.size, 1, none⟩) hg89 (.slice p.A p.n p.c)
    have D1 := ((hO1'.on k58).far (p := ⟨w2.heap.size, 0, none⟩) m1 (.bool p.neg)).far (p := ⟨w2.heap.size, 1, none⟩) m1 (.slice p.A p.n p.c)
    have D2 := ((hO2'.on k58).far (p := ⟨w2.heap.size, 0, none⟩) m2 (.bool p.neg)).far (p := ⟨w2.heap.size, 1, none⟩) m2 (.slice p.A p.n p.c)
    obtain ⟨z0, z1, f0, f1⟩ := o8.all2
    clear a0 a1 b0 b1 o8 o9 k58 k8 k57 hB7 hO10 ho7 huq hp HSUM
    go_upto_region 7 with fail
    clear z0 z1 f0 f1
    generalize (w8.setCell ⟨w2.heap.size, 0, none⟩ (.bool p.neg)).setCell ⟨w2.heap.size, 1, none⟩ (.slice p.A p.n p.c) = W9 at bel9 hp9 hr9 hy9 O8 O9 D1 D2 ⊢
    obtain ⟨v0, v1, fv0, fv1⟩ := O9.all2
    go_wp2_with fail
    refine (nminus hy9 hr9 (by have := HMB.out; omega)).mono ?_
    rintro e w10 ⟨d, rfl, k10, hd⟩
    go_wp2_with fail
    refine (nnormal false hd rfl).mono ?_
    rintro e w11 ⟨r, rfl, k11, hr⟩
    have hra : sgn false (b.natAbs - ((a.natAbs % b.natAbs : Nat) : Int).natAbs) = a % b := by
      rw [HD.out.2, Int.natAbs_natCast]; rfl
    rw [hra] at hr
    have kk := Below.call k10 k11
    have o9 := O9.on kk
    have hgr := HST.out.h9
    have bel12 := Below.put2 (Below.call bel9 kk) (Nat.le_trans HST.out.h8 (Nat.le_of_lt hgr)) (.bool r.neg) (.slice r.A r.n r.c)
    have hr12 := hr.put2 o9 (by simp) (by simp) (.bool r.neg) (.slice r.A r.n r.c)
    have hp12 := (hp9.on kk).put2 o9 (by simp) (by simp) (.bool r.neg) (.slice r.A r.n r.c)
    have O9' := o9.put2 (.bool r.neg) (.slice r.A r.n r.c)
    have O8' := ((O8.on kk).far (p := ⟨w4.heap.size, 0, none⟩) (Ne.symm hg89) (.bool r.neg)).far (p := ⟨w4.heap.size, 1, none⟩) (Ne.symm hg89) (.slice r.A r.n r.c)
    have D1' := ((D1.on kk).far (p := ⟨w4.heap.size, 0, none⟩) m3 (.bool r.neg)).far (p := ⟨w4.heap.size, 1, none⟩) m3 (.slice r.A r.n r.c)
    have D2' := ((D2.on kk).far (p := ⟨w4.heap.size, 0, none⟩) m4 (.bool r.neg)).far (p := ⟨w4.heap.size, 1, none⟩) m4 (.slice r.A r.n r.c)
    obtain ⟨z0, z1, f0, f1⟩ := o9.all2
    clear v0 v1 fv0 fv1 o9 kk k10 k11 hd hr hra hp9 hr9 hy9 O8 O9 D1 D2 bel9
    go_upto_region 8 with fail
    clear z0 z1 f0 f1
    generalize (w11.setCell ⟨w4.heap.size, 0, none⟩ (.bool r.neg)).setCell ⟨w4.heap.size, 1, none⟩ (.slice r.A r.n r.c) = W12 at bel12 hr12 hp12 O9' O8' D1' D2' ⊢
    obtain ⟨z0, z1, f0, f1⟩ := O8'.all2
    obtain ⟨y0, y1, fy0, fy1⟩ := O9'.all2
    obtain ⟨d0, d1, fd0, fd1⟩ := D1'.all2
    obtain ⟨c0, c1, fc0, fc1⟩ := D2'.all2
    have HF := Lib.hid (retNN_end (g1 := w.heap.size + 1 + 1) (g2 := w.heap.size + 1 + 1 + 1) (Below.call hBel bel12) (by omega) (by omega) D1' D2' (by omega) (by simp) (by simp) (by simp) (by simp) hp12 hr12)
    clear HST hO1' hO2' hnd hlp hx hy hA hBx hO1 hO2 hO9 O8' O9' D1' D2' hp12 hr12 bel12 hgr hg89
    clear r0 r1 s0 s1
    go_region
    obtain ⟨e0, e1, _⟩ := HF.out.2.1.all2
    obtain ⟨g0, g1, _⟩ := HF.out.2.2.all2
    clear z0 z1 f0 f1 y0 y1 fy0 fy1 d0 d1 fd0 fd1 c0 c1 fc0 fc1
    go_wp2
    exact bodyPost_ret (v := .tuple #[.agg #[.bool p.neg, .slice p.A p.n p.c], .agg #[.bool r.neg, .slice r.A r.n r.c]]) (by simp [results, Tryz.results47, go_sem, e0, e1, g0, g1]) rfl HF.out.1
end Go.Proofs.YthafhbogpfggjaaGreatDoor
