/-
  The reference of chapter 04: Of, Make, Sign, Compare.
-/
import Derived.Test.YthafhbogpfggjaaGreatDoorB0
import Derived.Test.YthafhbogpfggjaaGreatDoorE11
import Derived.Deep.RegionLawGrows
import Derived.ArgAppend

namespace Go.Proofs.YthafhbogpfggjaaGreatDoor
open Go.RowKit Mag
open Dig (val Ws Nz)

set_option maxRecDepth 100000 in
set_option maxHeartbeats 1600000 in
theorem fOf_any (n : Int) (w : World) (hn : in64 n) : Calls Tryz.prog 69 #[.int .i64 n] w (RetNR w (n : Rat)) := by
  go_enter Tryz.func69, Tryz.ntmps69
  go_upto_region 1 with fail
  refine wp_new1 fun W hO hB => ?_
  go_wp2_with fail
  refine (rOf_any n _ hn.1 hn.2).mono ?_
  rintro e w1 ⟨x, rfl, k1, hx⟩
  go_wp2_with fail
  refine (rOf_any 1 _ (by omega) (by omega)).mono ?_
  rintro e w2 ⟨y, rfl, k2, hy⟩
  have hf : NR ⟨x, y⟩ w2 (n : Rat) := ⟨hx.on k2, hy⟩
  obtain ⟨f, e1, e2⟩ : ∃ f : FV, f.p = x ∧ f.l = y := ⟨⟨x, y⟩, rfl, rfl⟩
  subst e1 e2
  have hB2 := Below.call hB (Below.call k1 k2)
  have hO2 := hO.on (Below.call k1 k2)
  clear hx hy hO k1 k2 hB
  obtain ⟨z0, z1, z2, z3, f0, f1, f2, f3⟩ := hO2.all4
  have HF := Lib.hid (put_nr hB2 (by omega) hO2 (by simp) (by simp) (by simp) (by simp) hf)
  obtain ⟨q0, q1, q2, q3, _⟩ := (hO2.put4 (.bool f.p.neg) (.slice f.p.A f.p.n f.p.c) (.bool f.l.neg) (.slice f.l.A f.l.n f.l.c)).all4
  clear hO2 hf
  go_wp2
  exact bodyPost_ret (v := .agg #[.bool f.p.neg, .slice f.p.A f.p.n f.p.c, .bool f.l.neg, .slice f.l.A f.l.n f.l.c]) (by simp [results, Tryz.results69, go_sem, q0, q1, q2, q3]) rfl HF.out

/-- The state of Make: the integers and the result's block. -/
structure MkN (w : World) (x y : IV) (p q : Int) (wx : World) : Prop where
  ox : Own wx w.heap.size 44 [.bool x.neg, .slice x.A x.n x.c]
  oy : Own wx (w.heap.size + 1) 44 [.bool y.neg, .slice y.A y.n y.c]
  oz : Own wx (w.heap.size + 1 + 1) 89 [.bool false, .slice none 0 0, .bool false, .slice none 0 0]
  ix : NI x wx p
  iy : NI y wx q
  bel : Below w.heap.size w wx
theorem MkN.on {w wx w' : World} {x y : IV} {p q : Int} (h : MkN w x y p q wx) (hb : Below wx.heap.size wx w') : MkN w x y p q w' :=
  ⟨h.ox.on hb, h.oy.on hb, h.oz.on hb, h.ix.on hb, h.iy.on hb, Below.call h.bel hb⟩
theorem MkN.setx {w wx : World} {x y x' : IV} {p q p' : Int} (h : MkN w x y p q wx) (hx : NI x' wx p') : MkN w x' y p' q ((wx.setCell ⟨w.heap.size, 0, none⟩ (.bool x'.neg)).setCell ⟨w.heap.size, 1, none⟩ (.slice x'.A x'.n x'.c)) :=
  ⟨h.ox.put2 _ _, (h.oy.far (p := ⟨w.heap.size, 0, none⟩) (by simp) _).far (p := ⟨w.heap.size, 1, none⟩) (by simp) _, (h.oz.far (p := ⟨w.heap.size, 0, none⟩) (by simp; omega) _).far (p := ⟨w.heap.size, 1, none⟩) (by simp; omega) _,
    hx.put2 h.ox (by simp) (by simp) _ _, h.iy.put2 h.ox (by simp) (by simp) _ _, Below.put2 h.bel (Nat.le_refl _) _ _⟩
theorem MkN.sety {w wx : World} {x y y' : IV} {p q q' : Int} (h : MkN w x y p q wx) (hy : NI y' wx q') : MkN w x y' p q' ((wx.setCell ⟨w.heap.size + 1, 0, none⟩ (.bool y'.neg)).setCell ⟨w.heap.size + 1, 1, none⟩ (.slice y'.A y'.n y'.c)) :=
  ⟨(h.ox.far (p := ⟨w.heap.size + 1, 0, none⟩) (by simp) _).far (p := ⟨w.heap.size + 1, 1, none⟩) (by simp) _, h.oy.put2 _ _, (h.oz.far (p := ⟨w.heap.size + 1, 0, none⟩) (by simp) _).far (p := ⟨w.heap.size + 1, 1, none⟩) (by simp) _,
    h.ix.put2 h.oy (by simp) (by simp) _ _, hy.put2 h.oy (by simp) (by simp) _ _, Below.put2 h.bel (by omega) _ _⟩
theorem NI.n_zero {x : IV} {w : World} {z : Int} (h : NI x w z) : (z = 0 → x.n = 0) ∧ (z ≠ 0 → 0 < x.n) ∧ (x.neg = decide (z < 0)) := by
  obtain ⟨l, h1, _, h3, h4, h5, h6⟩ := h.abs
  refine ⟨fun e => ?_, fun e => ?_, h6⟩
  · rcases Nat.eq_zero_or_pos x.n with k | k
    · exact k
    · have := h4.pos (by intro e; subst e; simp at h1; omega)
      omega
  · rcases Nat.eq_zero_or_pos x.n with k | k
    · exfalso
      have : l = [] := List.eq_nil_of_length_eq_zero (by omega)
      subst this
      have h7 : Dig.val ([] : List Nat) = 0 := rfl
      omega
    · exact k
theorem IV.ext_neg {y : IV} {b : Bool} (h : y.neg = b) : y = ⟨b, y.A, y.n, y.c⟩ := by subst h; rfl
theorem gcd_le {p q : Int} (h : q ≠ 0) : ((Int.gcd p q : Nat) : Int).natAbs ≤ q.natAbs := by
  rw [Int.natAbs_natCast]
  exact Nat.le_of_dvd (by omega) (Nat.gcd_dvd_right _ _)
set_option maxRecDepth 100000 in
set_option maxHeartbeats 3200000 in
theorem fMake_any {x y : IV} {p q : Int} {w : World} (hx : NI x w p) (hy : NI y w q) (hnx : x.n < many - 2) (hny : y.n < many - 2) :
    Calls Tryz.prog 65 #[.agg #[.bool x.neg, .slice x.A x.n x.c], .agg #[.bool y.neg, .slice y.A y.n y.c]] w (RetNRE w (makeR p q).1 (makeR p q).2) := by
  obtain ⟨y0, y1, yneg⟩ := hy.n_zero
  by_cases h0 : q = 0
  · subst h0
    have hM : makeR p 0 = (0, 1) := if_pos rfl
    have HM := Lib.hid hM
    have hyn : y.n = 0 := y0 rfl
    obtain ⟨ny, yA, yn, yc⟩ := y
    simp only at hyn
    subst hyn
    clear y0 y1 yneg hM
    go_enter Tryz.func65, Tryz.ntmps65
    go_upto_region 1 with fail
    refine wp_new3 fun W hA hBx hO hB => ?_
    obtain ⟨b0, b1, _⟩ := hBx.all2
    go_wp2_with fail
    refine (fOf_any 0 _ ⟨by omega, by omega⟩).mono ?_
    rintro e w1 ⟨f, rfl, k1, hf⟩
    have hB2 := Below.call hB k1
    have hO2 := hO.on k1
    clear hA hBx b0 b1 hB hO
    obtain ⟨z0, z1, z2, z3, f0, f1, f2, f3⟩ := hO2.all4
    have HF := Lib.hid (put_nre (err := 1) hB2 (by omega) hO2 (by simp) (by simp) (by simp) (by simp) hf)
    obtain ⟨q0, q1, q2, q3, _⟩ := (hO2.put4 (.bool f.p.neg) (.slice f.p.A f.p.n f.p.c) (.bool f.l.neg) (.slice f.l.A f.l.n f.l.c)).all4
    clear hO2 hf
    go_wp2
    exact bodyPost_ret (v := .tuple #[.agg #[.bool f.p.neg, .slice f.p.A f.p.n f.p.c, .bool f.l.neg, .slice f.l.A f.l.n f.l.c], .int .i64 1]) (by simp [results, Tryz.results65, go_sem, q0, q1, q2, q3]) rfl (by rw [HM.out]; exact HF.out)
  · have hpos := y1 h0
    have hne : ((y.n : Int) == 0) = false := by simp; omega
    have hqn : y.neg = decide (q < 0) := yneg
    have HQ := Lib.hid hqn
    have HP := Lib.hid (mk_rat (p := p) h0)
    have HM := Lib.hid (show makeR p q = (Rat.divInt p q, 0) from if_neg h0)
    clear y0 y1 yneg hqn
    go_enter Tryz.func65, Tryz.ntmps65
    go_upto_region 1 with fail
    refine wp_new3 fun W hA hBx hO hB => ?_
    have hS : MkN w x y p q W := ⟨hA, hBx, hO, hx.on hB, hy.on hB, hB⟩
    obtain ⟨b0, b1, bf0, bf1⟩ := hBx.all2
    clear hA hBx hO hB hx hy
    go_upto_if 17 with fail
    go_cut [1, 17] (fun _ _ wx => ∃ x' y' p' q', MkN w x' y' p' q' wx ∧ 0 < q' ∧ Hid (p' = q.sign * p) ∧ Hid (q' = (q.natAbs : Int)) ∧ x'.n < many - 2 ∧ y'.n < many - 2)
    case first =>
      rcases Int.lt_or_le q 0 with hn | hn
      · have hyt : y.neg = true := by rw [HQ.out]; simpa using hn
        have HYT := Lib.hid hyt
        obtain ⟨a0, a1, _⟩ := hS.ox.all2
        rw [hyt]
        go_wp2_with fail
        refine (rNeg_any hS.ix).mono ?_
        rintro e w2 ⟨u, rfl, k2, hu⟩
        have hS2 := hS.on k2
        have hS3 := hS2.setx hu
        obtain ⟨c0, c1, cf0, cf1⟩ := hS2.ox.all2
        obtain ⟨d0, d1, _⟩ := hS3.oy.all2
        have hnu := NI.len_eq hu hS.ix (by simp)
        go_wp2_with fail
        have hiy := hS3.iy
        rw [show y = ⟨true, y.A, y.n, y.c⟩ from IV.ext_neg HYT.out] at hiy
        refine (rNeg_any hiy).mono ?_
        rintro e w3 ⟨v, rfl, k3, hv⟩
        have hS4 := hS3.on k3
        have hS5 := hS4.sety hv
        obtain ⟨e0, e1, ef0, ef1⟩ := hS4.oy.all2
        have hnv := NI.len_eq hv hS3.iy (by simp)
        have HS := Lib.hid hS5
        clear hS hS2 hS3 hS4 hS5 hu hv hiy
        go_wp2_with fail
        go_meet
        exact ⟨u, v, _, _, HS.out, by omega, Lib.hid (by rw [Int.sign_eq_neg_one_of_neg hn, Int.neg_one_mul]), Lib.hid (by omega), by omega, by omega⟩
      · have hyf : y.neg = false := by rw [HQ.out]; simp; omega
        rw [hyf]
        have HS := Lib.hid hS
        clear hS
        go_wp2_with fail
        go_meet
        exact ⟨x, y, p, q, HS.out, by omega, Lib.hid (by rw [Int.sign_eq_one_of_pos (by omega), Int.one_mul]), Lib.hid (by omega), hnx, hny⟩
    case rest =>
      obtain ⟨x', y', p', q', hN, hq', hp1, hq1, hn1, hn2⟩ := hcut
      clear hS b0 b1 bf0 bf1
      have hgg : Int.gcd p' q' = Int.gcd p q := by rw [hp1.out, hq1.out]; exact gcd_mk p q h0
      have hgp : 0 < Int.gcd p' q' := Int.gcd_pos_of_ne_zero_right _ (by omega)
      have hgl := gcd_le (p := p') (q := q') (by omega)
      have hmp : (Rat.divInt p q).num = p' / (Int.gcd p' q' : Nat) := by rw [← HP.out.1]; unfold mkP; rw [hgg, hp1.out]
      have hmq : ((Rat.divInt p q).den : Int) = q' / (Int.gcd p' q' : Nat) := by rw [← HP.out.2]; unfold mkQ; rw [hgg, hq1.out]
      obtain ⟨g, hg⟩ : ∃ g : Nat, g = Int.gcd p' q' := ⟨_, rfl⟩
      have hg' : Nat.gcd p'.natAbs q'.natAbs = g := by rw [hg]; rfl
      rw [← hg] at hgp hmp hmq hgl
      have HE := Lib.hid (And.intro hmp hmq)
      have HG := Lib.hid hg'
      have hg0 : (g : Int) ≠ 0 := by omega
      clear hg hg' hmp hmq hgg
      obtain ⟨x0, x1, _⟩ := hN.ox.all2
      obtain ⟨y0, y1, _⟩ := hN.oy.all2
      go_wp2_with fail
      refine (rGcd_any hN.ix hN.iy hn1 hn2).mono ?_
      rintro e w2 ⟨gv, rfl, k2, hgv⟩
      rw [HG.out] at hgv
      go_upto_region 7 with fail
      refine wp_new1 fun w3 hOg k3 => ?_
      have kk := Below.call k2 k3
      have hN2 := hN.on kk
      have hgv2 := hgv.on k3
      have hgn : gv.n < many - 2 := by have := NI.len_le hgv hN.iy hgl; omega
      clear hN hgv x0 x1 y0 y1 k2 k3 kk
      obtain ⟨x0, x1, _⟩ := hN2.ox.all2
      obtain ⟨g0, g1, _⟩ := hOg.all2
      go_wp2_with fail
      refine (rDiv_any hN2.ix hgv2 hg0 hn1 hgn).mono ?_
      rintro e w4 ⟨a, ar, rfl, k4, ha, _⟩
      go_upto_region 8 with fail
      refine wp_new2 fun w5 hOa _ k5 => ?_
      have kk := Below.call k4 k5
      have hN3 := hN2.on kk
      have hgv3 := hgv2.on kk
      have hOg3 := hOg.on kk
      have ha2 := ha.on k5
      clear hN2 hgv2 hOg ha x0 x1 g0 g1 k4 k5 kk
      obtain ⟨y0, y1, _⟩ := hN3.oy.all2
      obtain ⟨g0, g1, _⟩ := hOg3.all2
      go_wp2_with fail
      refine (rDiv_any hN3.iy hgv3 hg0 hn2 hgn).mono ?_
      rintro e w6 ⟨b, br, rfl, k6, hb, _⟩
      go_upto_region 9 with fail
      refine wp_new2 fun w7 hOb _ k7 => ?_
      have kk := Below.call k6 k7
      have hN4 := hN3.on kk
      have hOa2 := hOa.on kk
      have hf : NR ⟨a, b⟩ w7 (Rat.divInt p q) := ⟨by rw [HE.out.1]; exact ha2.on kk, by rw [HE.out.2]; exact hb.on k7⟩
      have hB2 := hN4.bel
      have hO2 := hN4.oz
      obtain ⟨a0, a1, _⟩ := hOa2.all2
      obtain ⟨b0, b1, _⟩ := hOb.all2
      obtain ⟨f, e1, e2⟩ : ∃ f : FV, f.p = a ∧ f.l = b := ⟨⟨a, b⟩, rfl, rfl⟩
      subst e1 e2
      clear hN3 hN4 hgv3 hOg3 ha2 hb k6 k7 kk y0 y1 g0 g1
      obtain ⟨z0, z1, z2, z3, f0, f1, f2, f3⟩ := hO2.all4
      have HF := Lib.hid (put_nre (err := 0) hB2 (by omega) hO2 (by simp) (by simp) (by simp) (by simp) hf)
      obtain ⟨q0, q1, q2, q3, _⟩ := (hO2.put4 (.bool f.p.neg) (.slice f.p.A f.p.n f.p.c) (.bool f.l.neg) (.slice f.l.A f.l.n f.l.c)).all4
      clear hO2 hf
      go_wp2
      exact bodyPost_ret (v := .tuple #[.agg #[.bool f.p.neg, .slice f.p.A f.p.n f.p.c, .bool f.l.neg, .slice f.l.A f.l.n f.l.c], .int .i64 0]) (by simp [results, Tryz.results65, go_sem, q0, q1, q2, q3]) rfl (by rw [HM.out]; exact HF.out)
theorem top_2k (k : Nat) (hk : 32 * topW = k) : top = 2 ^ k := by
  rw [top_eq, ← hk, Nat.pow_mul]
theorem rFits_b {x : IV} {w : World} {a : Int} (hx : NI x w a) (b : Bool) (hb : decide (a.natAbs < top) = b) : Calls Tryz.prog 59 #[.agg #[.bool x.neg, .slice x.A x.n x.c]] w (RetBool w b) := by
  have := rFits_any hx
  rw [← top_2k 16384 (by rw [topW_eq]), hb] at this
  exact this
theorem rat_sgn (a : Rat) : sgnR a = cmpI a.num 0 := rfl
set_option maxRecDepth 100000 in
theorem fSign_any {f : FV} {a : Rat} {w : World} (hf : NR f w a) : Calls Tryz.prog 89 #[.agg #[.bool f.p.neg, .slice f.p.A f.p.n f.p.c, .bool f.l.neg, .slice f.l.A f.l.n f.l.c]] w (RetInt w (sgnR a)) := by
  obtain ⟨y0, y1, yneg⟩ := hf.1.n_zero
  have hz : sgnR a = cmpI a.num 0 := rfl
  rcases Int.lt_trichotomy a.num 0 with h | h | h
  · have hn : 0 < f.p.n := y1 (by omega)
    have hne : ((f.p.n : Int) == 0) = false := by simp; omega
    have hneg : f.p.neg = true := by rw [yneg]; exact decide_eq_true h
    have HZ := Lib.hid (show sgnR a = -1 by rw [hz]; exact cmpI_lt h)
    clear hz y0 y1 yneg
    go_enter Tryz.func89, Tryz.ntmps89
    go_upto_region 1 with fail
    refine wp_new1 fun W hA hB => ?_
    obtain ⟨a0, a1, a2, a3, _⟩ := hA.all4
    go_wp2
    go_returns
    exact ⟨by rw [HZ.out]; rfl, hB⟩
  · have hn : f.p.n = 0 := y0 h
    have HZ := Lib.hid (show sgnR a = 0 by rw [hz]; exact cmpI_eq h)
    clear hz y0 y1 yneg
    go_enter Tryz.func89, Tryz.ntmps89
    go_upto_region 1 with fail
    refine wp_new1 fun W hA hB => ?_
    obtain ⟨a0, a1, a2, a3, _⟩ := hA.all4
    go_wp2
    go_returns
    exact ⟨by rw [HZ.out]; rfl, hB⟩
  · have hn : 0 < f.p.n := y1 (by omega)
    have hne : ((f.p.n : Int) == 0) = false := by simp; omega
    have hneg : f.p.neg = false := by rw [yneg]; exact decide_eq_false (by omega)
    have HZ := Lib.hid (show sgnR a = 1 by rw [hz]; exact cmpI_gt h)
    clear hz y0 y1 yneg
    go_enter Tryz.func89, Tryz.ntmps89
    go_upto_region 1 with fail
    refine wp_new1 fun W hA hB => ?_
    obtain ⟨a0, a1, a2, a3, _⟩ := hA.all4
    go_wp2
    go_returns
    exact ⟨by rw [HZ.out]; rfl, hB⟩
theorem many_le {k : Nat} {x : IV} {w : World} {z : Int} (h : NI x w z) (hz : Sm k z) (hk : k < many - 2) : x.n < many - 2 := Nat.lt_of_le_of_lt (hz.len h) hk
set_option maxRecDepth 100000 in
set_option maxHeartbeats 3200000 in
theorem fCompare_any {f g : FV} {a b : Rat} {w : World} (hf : NR f w a) (hg : NR g w b) (sa : SmR 1240 a) (sb : SmR 1240 b) : Calls Tryz.prog 91 #[.agg #[.bool f.p.neg, .slice f.p.A f.p.n f.p.c, .bool f.l.neg, .slice f.l.A f.l.n f.l.c], .agg #[.bool g.p.neg, .slice g.p.A g.p.n g.p.c, .bool g.l.neg, .slice g.l.A g.l.n g.l.c]] w (RetInt w (cmpR a b)) := by
  have h1 := sa.1.len hf.1
  have h2 := sa.2.len hf.2
  have h3 := sb.1.len hg.1
  have h4 := sb.2.len hg.2
  have HN := Lib.hid (show f.p.n + g.l.n ≤ many ∧ g.p.n + f.l.n ≤ many by unfold many; omega)
  have HZ := Lib.hid (show cmpR a b = cmpI (a.num * b.den) (b.num * a.den) from rfl)
  clear h1 h2 h3 h4 sa sb
  go_enter Tryz.func91, Tryz.ntmps91
  go_upto_region 1 with fail
  refine wp_new2 fun W hA hBx hB => ?_
  replace hf := hf.on hB
  replace hg := hg.on hB
  refine wp_region_specs W [Spec.eq (.pointer (some ⟨w.heap.size, 0, none⟩)), Spec.eq (.agg #[.bool f.p.neg, .slice f.p.A f.p.n f.p.c]), Spec.eq (.pointer (some ⟨w.heap.size + 1, 2, none⟩)), Spec.eq (.agg #[.bool g.l.neg, .slice g.l.A g.l.n g.l.c]), sN (a.num * (b.den : Int)), Spec.eq (.pointer (some ⟨w.heap.size + 1, 0, none⟩)), Spec.eq (.agg #[.bool g.p.neg, .slice g.p.A g.p.n g.p.c]), Spec.eq (.pointer (some ⟨w.heap.size, 2, none⟩)), Spec.eq (.agg #[.bool f.l.neg, .slice f.l.A f.l.n f.l.c]), sN (b.num * (a.den : Int)), Spec.eq (.int .i64 (cmpI (a.num * (b.den : Int)) (b.num * (a.den : Int)))), Spec.eq (.int .i64 (cmpI (a.num * (b.den : Int)) (b.num * (a.den : Int))))]
      (by kernel_rfl) (by kernel_rfl) rfl (by kernel_rfl) (Below.drew (Below.refl _ _)) ?_ ?_
  ·
    refine RegSteps.cons ?_ ?_
    · intro _ az wz hC hF hD _ K hK; have q2 : az.tmps[2]? = some (.pointer (some ⟨w.heap.size, 0, none⟩)) := hF 2 rfl; clear hF hD; refine want_none rfl ?_; go_simp; exact hK _ _ hC (Below.refl _ _) rfl
    refine RegSteps.cons ?_ ?_
    · intro _ az wz hC hF hD _ K hK; obtain ⟨_, q5, rfl⟩ := dep hD 0 rfl rfl rfl rfl; obtain ⟨l0, l1, l2, l3, _⟩ := (hA.on hC).all4; clear hF hD; refine want_none rfl ?_; go_simp; exact hK _ _ hC (Below.refl _ _) rfl
    refine RegSteps.cons ?_ ?_
    · intro _ az wz hC hF hD _ K hK; have q3 : az.tmps[3]? = some (.pointer (some ⟨w.heap.size + 1, 0, none⟩)) := hF 3 rfl; clear hF hD; refine want_none rfl ?_; go_simp; exact hK _ _ hC (Below.refl _ _) rfl
    refine RegSteps.cons ?_ ?_
    · intro _ az wz hC hF hD _ K hK; obtain ⟨_, q7, rfl⟩ := dep hD 2 rfl rfl rfl rfl; obtain ⟨l0, l1, l2, l3, _⟩ := (hBx.on hC).all4; clear hF hD; refine want_none rfl ?_; go_simp; exact hK _ _ hC (Below.refl _ _) rfl
    refine RegSteps.cons ?_ ?_
    · intro _ az wz hC hF hD _ K hK; obtain ⟨_, q6, rfl⟩ := dep hD 1 rfl rfl rfl rfl; obtain ⟨_, q8, rfl⟩ := dep hD 3 rfl rfl rfl rfl; clear hF hD; refine want_none rfl ?_; go_simp; refine (rMul_any (hf.1.on hC) (hg.2.on hC) HN.out.1).mono ?_; rintro e wy ⟨x, rfl, k, hx⟩; exact hK _ _ (Below.call hC k) k ⟨x, rfl, hx⟩
    refine RegSteps.cons ?_ ?_
    · intro _ az wz hC hF hD _ K hK; have q3 : az.tmps[3]? = some (.pointer (some ⟨w.heap.size + 1, 0, none⟩)) := hF 3 rfl; clear hF hD; refine want_none rfl ?_; go_simp; exact hK _ _ hC (Below.refl _ _) rfl
    refine RegSteps.cons ?_ ?_
    · intro _ az wz hC hF hD _ K hK; obtain ⟨_, q10, rfl⟩ := dep hD 5 rfl rfl rfl rfl; obtain ⟨l0, l1, l2, l3, _⟩ := (hBx.on hC).all4; clear hF hD; refine want_none rfl ?_; go_simp; exact hK _ _ hC (Below.refl _ _) rfl
    refine RegSteps.cons ?_ ?_
    · intro _ az wz hC hF hD _ K hK; have q2 : az.tmps[2]? = some (.pointer (some ⟨w.heap.size, 0, none⟩)) := hF 2 rfl; clear hF hD; refine want_none rfl ?_; go_simp; exact hK _ _ hC (Below.refl _ _) rfl
    refine RegSteps.cons ?_ ?_
    · intro _ az wz hC hF hD _ K hK; obtain ⟨_, q12, rfl⟩ := dep hD 7 rfl rfl rfl rfl; obtain ⟨l0, l1, l2, l3, _⟩ := (hA.on hC).all4; clear hF hD; refine want_none rfl ?_; go_simp; exact hK _ _ hC (Below.refl _ _) rfl
    refine RegSteps.cons ?_ ?_
    · intro _ az wz hC hF hD _ K hK; obtain ⟨_, q11, rfl⟩ := dep hD 6 rfl rfl rfl rfl; obtain ⟨_, q13, rfl⟩ := dep hD 8 rfl rfl rfl rfl; clear hF hD; refine want_none rfl ?_; go_simp; refine (rMul_any (hg.1.on hC) (hf.2.on hC) HN.out.2).mono ?_; rintro e wy ⟨x, rfl, k, hx⟩; exact hK _ _ (Below.call hC k) k ⟨x, rfl, hx⟩
    refine RegSteps.cons ?_ ?_
    · intro _ az wz hC hF hD _ K hK; obtain ⟨_, q9, x9, rfl, hx9⟩ := dep hD 4 rfl rfl rfl rfl; obtain ⟨_, q14, x14, rfl, hx14⟩ := dep hD 9 rfl rfl rfl rfl; clear hF hD; refine want_none rfl ?_; go_simp; refine (rCompare_any hx9 hx14).mono ?_; rintro e wy ⟨rfl, k⟩; exact hK _ _ (Below.call hC k) k rfl
    refine RegSteps.cons ?_ ?_
    · intro _ az wz hC hF hD _ K hK; obtain ⟨_, q15, rfl⟩ := dep hD 10 rfl rfl rfl rfl; clear hF hD; refine want_none rfl ?_; go_simp; exact hK _ _ hC (Below.refl _ _) rfl
    exact RegSteps.nil
  intro w2 hC
  rintro _ rfl _ rfl _ rfl _ rfl _ ⟨y9, rfl, _⟩ _ rfl _ rfl _ rfl _ rfl _ ⟨y14, rfl, _⟩ _ rfl _ rfl
  simp only [FinOK, Act.put, List.setIfInBounds_toArray, List.set_cons_zero, List.set_cons_succ]
  have HB := Lib.hid (Below.call hB hC)
  go_wp2
  go_returns
  exact ⟨by rw [HZ.out]; rfl, HB.out⟩
end Go.Proofs.YthafhbogpfggjaaGreatDoor
