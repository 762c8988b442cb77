/-
  Contracts of package frac: Make, Of.
-/
import Derived.Test.YthafhbogpfggjaaGreatDoorF2
import Derived.Deep.DeepCutAuto
import Derived.Deep.RegionWith
namespace Go.Proofs.YthafhbogpfggjaaGreatDoor
open Go.RowKit Mag

/-- The state of Make: the integers and the result's block. -/
structure MkSt (w : World) (x y : IV) (p q : Int) (wx : World) : Prop where
  ox : Own wx w.heap.size 29 [.bool x.neg, .slice x.A x.n x.c]
  oy : Own wx (w.heap.size + 1) 29 [.bool y.neg, .slice y.A y.n y.c]
  oz : Own wx (w.heap.size + 1 + 1) 31 [.bool false, .slice none 0 0, .bool false, .slice none 0 0]
  ix : x.is wx p
  iy : y.is wx q
  bel : Below w.heap.size w wx
theorem MkSt.on {w wx w' : World} {x y : IV} {p q : Int} (h : MkSt w x y p q wx) (hb : Below wx.heap.size wx w') : MkSt w x y p q w' :=
  ⟨h.ox.on hb, h.oy.on hb, h.oz.on hb, h.ix.on hb, h.iy.on hb, Below.call h.bel hb⟩
theorem MkSt.drew {w wx : World} {x y : IV} {p q : Int} (h : MkSt w x y p q wx) : MkSt w x y p q wx.drew :=
  ⟨h.ox, h.oy, h.oz, h.ix.of_drew, h.iy.of_drew, below_drewN' h.bel 1⟩
theorem MkSt.start {w : World} {x y : IV} {p q : Int} (hx : x.is w p) (hy : y.is w q) : MkSt w x y p q (((w.alloc (.cells #[.bool x.neg, .slice x.A x.n x.c] 29)).alloc (.cells #[.bool y.neg, .slice y.A y.n y.c] 29)).alloc (.cells #[.bool false, .slice none 0 0, .bool false, .slice none 0 0] 31)) := by
  have hB : Below w.heap.size w (((w.alloc (.cells #[.bool x.neg, .slice x.A x.n x.c] 29)).alloc (.cells #[.bool y.neg, .slice y.A y.n y.c] 29)).alloc (.cells #[.bool false, .slice none 0 0, .bool false, .slice none 0 0] 31)) := by go_grown
  refine ⟨((Own.newI w _ x).alloc _).alloc _, ?_, ?_, hx.on hB, hy.on hB, hB⟩
  · have := (Own.newI (w.alloc (.cells #[.bool x.neg, .slice x.A x.n x.c] 29)) 29 y).alloc (.cells #[.bool false, .slice none 0 0, .bool false, .slice none 0 0] 31)
    simpa using this
  · have := Own.new4 ((w.alloc (.cells #[.bool x.neg, .slice x.A x.n x.c] 29)).alloc (.cells #[.bool y.neg, .slice y.A y.n y.c] 29)) 31 (.bool false) (.slice none 0 0) (.bool false) (.slice none 0 0)
    simpa using this
/-- Both integers anew. -/
theorem MkSt.swap {w wx : World} {x y x' y' : IV} {p q p' q' : Int} (h : MkSt w x y p q wx) (hx : x'.is wx p') (hy : y'.is wx q') :
    MkSt w x' y' p' q' ((((wx.setCell ⟨w.heap.size, 0, none⟩ (.bool x'.neg)).setCell ⟨w.heap.size, 1, none⟩ (.slice x'.A x'.n x'.c)).setCell ⟨w.heap.size + 1, 0, none⟩ (.bool y'.neg)).setCell ⟨w.heap.size + 1, 1, none⟩ (.slice y'.A y'.n y'.c)) := by
  have o1 := (h.oy.far (p := ⟨w.heap.size, 0, none⟩) (by simp) (.bool x'.neg)).far (p := ⟨w.heap.size, 1, none⟩) (by simp) (.slice x'.A x'.n x'.c)
  refine ⟨((h.ox.put2 _ _).far (p := ⟨w.heap.size + 1, 0, none⟩) (by simp) _).far (p := ⟨w.heap.size + 1, 1, none⟩) (by simp) _, o1.put2 _ _, ?_, (hx.put2 h.ox (by simp) (by simp) _ _).put2 o1 (by simp) (by simp) _ _, (hy.put2 h.ox (by simp) (by simp) _ _).put2 o1 (by simp) (by simp) _ _, Below.put2 (Below.put2 h.bel (Nat.le_refl _) _ _) (by omega) _ _⟩
  exact (((h.oz.far (p := ⟨w.heap.size, 0, none⟩) (by simp; omega) _).far (p := ⟨w.heap.size, 1, none⟩) (by simp; omega) _).far (p := ⟨w.heap.size + 1, 0, none⟩) (by simp) _).far (p := ⟨w.heap.size + 1, 1, none⟩) (by simp) _

theorem Own.put4far {w : World} {g g' : Nat} {t : TypeId} {xs : List Value} (h : Own w g' t xs) (hg : g' ≠ g) (u v s r : Value) : Own ((((w.setCell ⟨g, 0, none⟩ u).setCell ⟨g, 1, none⟩ v).setCell ⟨g, 2, none⟩ s).setCell ⟨g, 3, none⟩ r) g' t xs :=
  (((h.far (p := ⟨g, 0, none⟩) hg u).far (p := ⟨g, 1, none⟩) hg v).far (p := ⟨g, 2, none⟩) hg s).far (p := ⟨g, 3, none⟩) hg r
/-- The result is put into its block: the integers stay. -/
theorem MkSt.put4 {w wx : World} {x y : IV} {p q : Int} (h : MkSt w x y p q wx) (f : FV) :
    Own ((((wx.setCell ⟨w.heap.size + 1 + 1, 0, none⟩ (.bool f.p.neg)).setCell ⟨w.heap.size + 1 + 1, 1, none⟩ (.slice f.p.A f.p.n f.p.c)).setCell ⟨w.heap.size + 1 + 1, 2, none⟩ (.bool f.l.neg)).setCell ⟨w.heap.size + 1 + 1, 3, none⟩ (.slice f.l.A f.l.n f.l.c)) w.heap.size 29 [.bool x.neg, .slice x.A x.n x.c] ∧
    Own ((((wx.setCell ⟨w.heap.size + 1 + 1, 0, none⟩ (.bool f.p.neg)).setCell ⟨w.heap.size + 1 + 1, 1, none⟩ (.slice f.p.A f.p.n f.p.c)).setCell ⟨w.heap.size + 1 + 1, 2, none⟩ (.bool f.l.neg)).setCell ⟨w.heap.size + 1 + 1, 3, none⟩ (.slice f.l.A f.l.n f.l.c)) (w.heap.size + 1) 29 [.bool y.neg, .slice y.A y.n y.c] :=
  ⟨h.ox.put4far (by omega) _ _ _ _, h.oy.put4far (by omega) _ _ _ _⟩
/-- The numerator and the denominator of a quotient. -/
def mkP (p q : Int) : Int := q.sign * p / (Int.gcd p q : Nat)
def mkQ (p q : Int) : Int := (q.natAbs : Int) / (Int.gcd p q : Nat)

set_option maxRecDepth 100000 in
theorem Make_zero {x y : IV} {p : Int} {w : World} (hx : x.is w p) (hy : y.is w 0) : Calls Tryz.prog 63 #[.agg #[.bool x.neg, .slice x.A x.n x.c], .agg #[.bool y.neg, .slice y.A y.n y.c]] w (FracE w 0 1 1) := by
  go_enter Tryz.func63, Tryz.ntmps63
  have hS := MkSt.start hx hy
  go_wp2_with fail
  generalize ((w.alloc (.cells #[.bool x.neg, .slice x.A x.n x.c] 29)).alloc (.cells #[.bool y.neg, .slice y.A y.n y.c] 29)).alloc (.cells #[.bool false, .slice none 0 0, .bool false, .slice none 0 0] 31) = W at hS ⊢
  refine (sign_iv hS.iy).mono ?_
  rintro e w1 ⟨rfl, hb1⟩
  have hS1 := hS.on hb1
  have z0 := hS1.oz.c0
  have z1 := hS1.oz.c1
  have z2 := hS1.oz.c2
  have z3 := hS1.oz.c3
  have f0 := hS1.oz.frozen 0
  have f1 := hS1.oz.frozen 1
  have f2 := hS1.oz.frozen 2
  have f3 := hS1.oz.frozen 3
  have hp := put_frac hS1.bel (err := 1) (by omega) hS1.oz (by simp) (by simp) (by simp) (by simp) (FV.zero_is w1)
  have hO5 := hS1.oz.put4 (.bool false) (.slice none 0 0) (.bool false) (.slice none 0 0)
  have q0 := hO5.c0
  have q1 := hO5.c1
  have q2 := hO5.c2
  have q3 := hO5.c3
  have HP := Lib.hid hp
  have hc : (cmpI 0 0 == 0) = true := rfl
  clear hp hO5
  go_wp2
  exact bodyPost_ret (v := .tuple #[.agg #[.bool false, .slice none 0 0, .bool false, .slice none 0 0], .int .i64 1]) (by simp [results, Tryz.results63, go_sem, q0, q1, q2, q3]) rfl HP.out
theorem gcd_mk (p q : Int) (hq : q ≠ 0) : Int.gcd (q.sign * p) (q.natAbs : Int) = Int.gcd p q := by
  unfold Int.gcd
  rcases Int.lt_or_gt_of_ne hq with h | h
  · rw [Int.sign_eq_neg_one_of_neg h, Int.neg_one_mul, Int.natAbs_neg]; rfl
  · rw [Int.sign_eq_one_of_pos h, Int.one_mul]; rfl
theorem cmpI_neg {q : Int} (h : q < 0) : cmpI q 0 = -1 := cmpI_lt h
set_option maxRecDepth 100000 in
set_option maxHeartbeats 3200000 in
theorem Make_any {x y : IV} {p q : Int} {w : World} (hx : x.is w p) (hy : y.is w q) (hq : q ≠ 0) : Calls Tryz.prog 63 #[.agg #[.bool x.neg, .slice x.A x.n x.c], .agg #[.bool y.neg, .slice y.A y.n y.c]] w (FracE w (mkP p q) (mkQ p q) 0) := by
  have hqf := hy.fits
  have hne : (cmpI q 0 == 0) = false := by
    unfold cmpI
    split
    · rfl
    · split
      · rfl
      · omega
  go_enter Tryz.func63, Tryz.ntmps63
  have hS := MkSt.start hx hy
  go_wp2_with fail
  generalize ((w.alloc (.cells #[.bool x.neg, .slice x.A x.n x.c] 29)).alloc (.cells #[.bool y.neg, .slice y.A y.n y.c] 29)).alloc (.cells #[.bool false, .slice none 0 0, .bool false, .slice none 0 0] 31) = W at hS ⊢
  refine (sign_iv hS.iy).mono ?_
  rintro e w1 ⟨rfl, hb1⟩
  have hS1 := hS.on hb1
  have y0 := hS1.oy.c0
  have y1 := hS1.oy.c1
  go_wp2_with fail
  refine (sign_iv hS1.iy).mono ?_
  rintro e w2 ⟨rfl, hb2⟩
  have hS2 := hS1.on hb2
  clear hS hS1 y0 y1
  go_upto_if 13 with fail
  go_cut [2] (fun s2 wx => ∃ x' y' p' q', s2 = .pointer (some ⟨w.heap.size, 0, none⟩) ∧ MkSt w x' y' p' q' wx ∧ 0 < q' ∧ Hid (p' = q.sign * p) ∧ Hid (q' = (q.natAbs : Int)))
  case first =>
    rcases Int.lt_or_le q 0 with hn | hn
    · have hc : cmpI q 0 = -1 := cmpI_neg hn
      have x0 := hS2.ox.c0
      have x1 := hS2.ox.c1
      have y0 := hS2.oy.c0
      have y1 := hS2.oy.c1
      have hd := hS2.drew
      go_wp2_with fail
      go_region_with
        (first
          | (go_at_call 56; first
              | ((with_reducible refine (neg_iv (x := x) hd.ix).mono ?_); rintro e v1 ⟨x', rfl, hb3, hx'⟩; have hA := hd.on hb3; have a0 := hA.oy.c0; have a1 := hA.oy.c1)
              | ((with_reducible refine (neg_iv (x := y) hd.iy).mono ?_); rintro e v1 ⟨y', rfl, hb3, hy'⟩; have hB := hd.on hb3; have a0 := hB.ox.c0; have a1 := hB.ox.c1)
              | ((with_reducible refine (neg_iv (x := y) hA.iy).mono ?_); rintro e v2 ⟨y', rfl, hb4, hy2⟩; have hC := hA.on hb4; have hx2 := hx'.on hb4; have c0 := hC.ox.c0; have c1 := hC.ox.c1; have c2 := hC.oy.c0; have c3 := hC.oy.c1; have f0 := hC.ox.frozen 0; have f1 := hC.ox.frozen 1; have f2 := hC.oy.frozen 0; have f3 := hC.oy.frozen 1)
              | ((with_reducible refine (neg_iv (x := x) hB.ix).mono ?_); rintro e v2 ⟨x', rfl, hb4, hx2⟩; have hC := hB.on hb4; have hy2 := hy'.on hb4; have c0 := hC.ox.c0; have c1 := hC.ox.c1; have c2 := hC.oy.c0; have c3 := hC.oy.c1; have f0 := hC.ox.frozen 0; have f1 := hC.ox.frozen 1; have f2 := hC.oy.frozen 0; have f3 := hC.oy.frozen 1)))
      all_goals
        have hsw := Lib.hid (hC.swap hx2 hy2)
        go_wp2_with fail
        go_meet
        exact ⟨x', y', _, _, rfl, hsw.out, by omega, Lib.hid (by rw [Int.sign_eq_neg_one_of_neg hn, Int.neg_one_mul]), Lib.hid (by omega)⟩
    · have hc : ¬ cmpI q 0 < 0 := by unfold cmpI; split <;> (try split) <;> omega
      have hfin : ∃ x' y' p' q', MkSt w x' y' p' q' w2 ∧ 0 < q' ∧ Hid (p' = q.sign * p) ∧ Hid (q' = (q.natAbs : Int)) :=
        ⟨x, y, p, q, hS2, by omega, Lib.hid (by rw [Int.sign_eq_one_of_pos (by omega), Int.one_mul]), Lib.hid (by omega)⟩
      have HF := Lib.hid hfin
      clear hfin
      go_wp2_with fail
      go_meet
      obtain ⟨x', y', p', q', h1, h2⟩ := HF.out
      exact ⟨x', y', p', q', rfl, h1, h2⟩
  case rest =>
    obtain ⟨x', y', p', q', rfl, hN, hq', hp1, hq1⟩ := hcut
    clear hS2
    have hgg : Int.gcd p' q' = Int.gcd p q := by rw [hp1.out, hq1.out]; exact gcd_mk p q hq
    have hgp : 0 < Int.gcd p' q' := Int.gcd_pos_of_ne_zero_right _ (by omega)
    have hcop := Int.gcd_ediv_gcd_ediv_gcd hgp
    have hqp : 0 < q' / (Int.gcd p' q' : Nat) := Int.ediv_pos_of_pos_of_dvd hq' (by omega) (Int.gcd_dvd_right _ _)
    have hmp : mkP p q = p' / (Int.gcd p' q' : Nat) := by unfold mkP; rw [hgg, hp1.out]
    have hmq : mkQ p q = q' / (Int.gcd p' q' : Nat) := by unfold mkQ; rw [hgg, hq1.out]
    obtain ⟨g, hg⟩ : ∃ g : Nat, g = Int.gcd p' q' := ⟨_, rfl⟩
    rw [← hg] at hcop hqp hgp hmp hmq
    have HMP := Lib.hid hmp
    have HMQ := Lib.hid hmq
    have HG := Lib.hid hg
    have HC := Lib.hid hcop
    clear hg hcop hmp hmq hgg
    have x0 := hN.ox.c0
    have x1 := hN.ox.c1
    have y0 := hN.oy.c0
    have y1 := hN.oy.c1
    go_wp2_with fail
    refine (gcd_iv hN.ix hN.iy).mono ?_
    rintro e v1 ⟨gv, rfl, hb1, hgv⟩
    rw [← HG.out] at hgv
    have hN1 := hN.on hb1
    go_upto_region 6 with fail
    have hb2 := below_new v1 (.cells #[.bool gv.neg, .slice gv.A gv.n gv.c] 29)
    have hOg := Own.newI v1 29 gv
    generalize v1.alloc (.cells #[.bool gv.neg, .slice gv.A gv.n gv.c] 29) = v2 at hb2 hOg ⊢
    have hgs : w.heap.size + 1 + 1 < v1.heap.size := hN1.oz.lt
    obtain ⟨bg, hbg⟩ : ∃ bg, bg = v1.heap.size := ⟨_, rfl⟩
    rw [← hbg] at hOg hgs ⊢
    have hN2 := (hN1.on hb2).drew
    have hOd := hOg.drew
    have hgv2 := (hgv.on hb2).of_drew
    have hg0 : (g : Int) ≠ 0 := by omega
    clear hN hN1 hOg hgv x0 x1 y0 y1 hbg
    go_region_held3 (fun w' => w'.cell? ⟨w.heap.size, 0, none⟩ = some (.bool x'.neg) ∧ w'.cell? ⟨w.heap.size, 1, none⟩ = some (.slice x'.A x'.n x'.c) ∧ w'.cell? ⟨w.heap.size + 1, 0, none⟩ = some (.bool y'.neg) ∧ w'.cell? ⟨w.heap.size + 1, 1, none⟩ = some (.slice y'.A y'.n y'.c) ∧ w'.cell? ⟨bg, 0, none⟩ = some (.bool gv.neg) ∧ w'.cell? ⟨bg, 1, none⟩ = some (.slice gv.A gv.n gv.c))
      (first | with_reducible exact ⟨hN2.ox.c0, hN2.ox.c1, hN2.oy.c0, hN2.oy.c1, hOd.c0, hOd.c1⟩ | with_reducible exact ⟨hA.ox.c0, hA.ox.c1, hA.oy.c0, hA.oy.c1, hgA.c0, hgA.c1⟩ | with_reducible exact ⟨hB.ox.c0, hB.ox.c1, hB.oy.c0, hB.oy.c1, hgA.c0, hgA.c1⟩ | with_reducible exact ⟨hC.ox.c0, hC.ox.c1, hC.oy.c0, hC.oy.c1, hgC.c0, hgC.c1⟩ | with_reducible exact ⟨hD.ox.c0, hD.ox.c1, hD.oy.c0, hD.oy.c1, hgD.c0, hgD.c1⟩ | with_reducible exact ⟨hE.1.c0, hE.1.c1, hE.2.c0, hE.2.c1, hgE.c0, hgE.c1⟩)
      (first
        | (go_at_call 135; first
            | ((with_reducible refine (over_iv (x := x') (y := gv) hN2.ix hgv2 hg0).mono ?_); rintro e v3 ⟨a, rfl, hb3, ha⟩; have hA := hN2.on hb3; have hgA := hOd.on hb3; have hgi := hgv2.on hb3)
            | ((with_reducible refine (over_iv (x := y') (y := gv) hN2.iy hgv2 hg0).mono ?_); rintro e v3 ⟨b, rfl, hb3, hb⟩; have hB := hN2.on hb3; have hgA := hOd.on hb3; have hgi := hgv2.on hb3)
            | ((with_reducible refine (over_iv (x := y') (y := gv) hA.iy hgi hg0).mono ?_); rintro e v4 ⟨b, rfl, hb4, hb⟩; have hC := hA.on hb4; have hgC := hgA.on hb4; have ha2 := ha.on hb4; have hb2' := hb)
            | ((with_reducible refine (over_iv (x := x') (y := gv) hB.ix hgi hg0).mono ?_); rintro e v4 ⟨a, rfl, hb4, ha⟩; have hC := hB.on hb4; have hgC := hgA.on hb4; have hb2' := hb.on hb4; have ha2 := ha))
        | (go_at_call 134; (with_reducible refine (lowest_ok (x := a) (y := b) ha2 hb2' hqp HC.out).mono ?_); rintro e v5 ⟨f, rfl, hb5, hf⟩; have hD := hC.on hb5; have hgD := hgC.on hb5; have z0 := hD.oz.c0; have z1 := hD.oz.c1; have z2 := hD.oz.c2; have z3 := hD.oz.c3; have f0 := hD.oz.frozen 0; have f1 := hD.oz.frozen 1; have f2 := hD.oz.frozen 2; have f3 := hD.oz.frozen 3; have hE := hD.put4 f; have hgE := hgD.put4far (g := w.heap.size + 1 + 1) (by omega) (.bool f.p.neg) (.slice f.p.A f.p.n f.p.c) (.bool f.l.neg) (.slice f.l.A f.l.n f.l.c)))
    all_goals
      have hp := put_frac hD.bel (err := 0) (by omega) hD.oz (by simp) (by simp) (by simp) (by simp) hf
      have hO5 := hD.oz.put4 (.bool f.p.neg) (.slice f.p.A f.p.n f.p.c) (.bool f.l.neg) (.slice f.l.A f.l.n f.l.c)
      have q0 := hO5.c0
      have q1 := hO5.c1
      have q2 := hO5.c2
      have q3 := hO5.c3
      rw [← HMP.out, ← HMQ.out] at hp
      have HP := Lib.hid hp
      clear hp hO5 hE hgE
      go_wp2
      exact bodyPost_ret (v := .tuple #[.agg #[.bool f.p.neg, .slice f.p.A f.p.n f.p.c, .bool f.l.neg, .slice f.l.A f.l.n f.l.c], .int .i64 0]) (by simp [results, Tryz.results63, go_sem, q0, q1, q2, q3]) rfl HP.out
end Go.Proofs.YthafhbogpfggjaaGreatDoor
