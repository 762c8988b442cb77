/-
  Chapter 05: PointMid, the walk.
-/
import Derived.Test.YthcpaagfgkbjaaaDoorQ2
namespace Go.Proofs.YthcpaagfgkbjaaaDoor
open Go.RowKit Mag

theorem FracE.tup {w w' : World} {p q err : Int} {e : Ending} (h : FracE w p q err e w') : FracE w p q err e w' := h
set_option maxRecDepth 100000 in
set_option maxHeartbeats 12800000 in
theorem PointMid_any (a b : Int) (w : World) (ha : in64 a) (hb : in64 b) (ht : Tab w) : Calls Tryd.prog 3 #[.int .i64 a, .int .i64 b] w (RetB w true) := by
  obtain ⟨hX, hY, hD0, hD1⟩ := sX_bd a
  obtain ⟨hX', hY', hD0', hD1'⟩ := sX_bd b
  have HSa : Hid (∀ u, Calls Tryd.prog 8 #[.int .i64 a] u (RetR u (sX a) (sY a) (sD a))) := Lib.hid fun u => Some_any a u ha
  have HSb : Hid (∀ u, Calls Tryd.prog 8 #[.int .i64 b] u (RetR u (sX b) (sY b) (sD b))) := Lib.hid fun u => Some_any b u hb
  generalize sX a = X at *
  generalize sY a = Y at *
  generalize sD a = D at *
  generalize sX b = X' at *
  generalize sY b = Y' at *
  generalize sD b = D' at *
  have hZ : 0 < 2 * D * D' := Int.mul_pos (by omega) hD0'
  have hZ' : 2 * D * D' ≤ 288 := by
    have := natAbs_mul_le (show (2 * D).natAbs ≤ 24 by omega) (show D'.natAbs ≤ 12 by omega)
    omega
  have hMx : (X * D' + X' * D).natAbs ≤ 10000 := by
    have h1 := natAbs_mul_le hX (show D'.natAbs ≤ 12 by omega)
    have h2 := natAbs_mul_le hX' (show D.natAbs ≤ 12 by omega)
    omega
  have hMy : (Y * D' + Y' * D).natAbs ≤ 10000 := by
    have h1 := natAbs_mul_le hY (show D'.natAbs ≤ 12 by omega)
    have h2 := natAbs_mul_le hY' (show D.natAbs ≤ 12 by omega)
    omega
  have L1 := mid_law (x := X) (x' := X') hD0 hD0' (by omega) (by omega) (by omega) (by omega)
  have L2 := mid_law (x := Y) (x' := Y') hD0 hD0' (by omega) (by omega) (by omega) (by omega)
  have L3 := mid_law (x := X') (x' := X) hD0' hD0 (by omega) (by omega) (by omega) (by omega)
  have L4 := mid_law (x := Y') (x' := Y) hD0' hD0 (by omega) (by omega) (by omega) (by omega)
  have f3 := L3.eP
  have g3 := L3.eQ
  have f4 := L4.eP
  have g4 := L4.eQ
  have c1 : X' * D + X * D' = X * D' + X' * D := Int.add_comm _ _
  have c2 : Y' * D + Y * D' = Y * D' + Y' * D := Int.add_comm _ _
  have c3 : 2 * D' * D = 2 * D * D' := by grind
  rw [c1, c3] at f3 g3
  rw [c2, c3] at f4 g4
  have HRp : Hid (∀ u, Calls Tryd.prog 10 #[.agg #[.int .i64 X, .int .i64 Y, .int .i64 D]] u (RetP u (mkP X D) (mkQ X D) (mkP Y D) (mkQ Y D))) := Lib.hid fun u =>
    real_any X Y D u ⟨by omega, by omega⟩ ⟨by omega, by omega⟩ ⟨by omega, by omega⟩ (by omega)
  have HRq : Hid (∀ u, Calls Tryd.prog 10 #[.agg #[.int .i64 X', .int .i64 Y', .int .i64 D']] u (RetP u (mkP X' D') (mkQ X' D') (mkP Y' D') (mkQ Y' D'))) := Lib.hid fun u =>
    real_any X' Y' D' u ⟨by omega, by omega⟩ ⟨by omega, by omega⟩ ⟨by omega, by omega⟩ (by omega)
  have HC3 : Hid (∀ (s t : PV) u, s.is u (mkP X D) (mkQ X D) (mkP Y D) (mkQ Y D) → t.is u (mkP X' D') (mkQ X' D') (mkP Y' D') (mkQ Y' D') → Calls Tryd.prog 13 #[.agg #[.bool s.x.p.neg, .slice s.x.p.A s.x.p.n s.x.p.c, .bool s.x.l.neg, .slice s.x.l.A s.x.l.n s.x.l.c, .bool s.y.p.neg, .slice s.y.p.A s.y.p.n s.y.p.c, .bool s.y.l.neg, .slice s.y.l.A s.y.l.n s.y.l.c], .agg #[.bool t.x.p.neg, .slice t.x.p.A t.x.p.n t.x.p.c, .bool t.x.l.neg, .slice t.x.l.A t.x.l.n t.x.l.c, .bool t.y.p.neg, .slice t.y.p.A t.y.p.n t.y.p.c, .bool t.y.l.neg, .slice t.y.l.A t.y.l.n t.y.l.c]] u (RetInt u (orI (cmpI (X * D') (X' * D)) (cmpI (Y * D') (Y' * D))))) := Lib.hid fun s t u hs ht => by
    have h := PCompare_any hs ht
    rw [cmpPt, cmp_mk X X' hD0 hD0', cmp_mk Y Y' hD0 hD0'] at h
    exact h
  have HC1 : Hid (∀ (s t : PV) u, s.is u (mkP X D) (mkQ X D) (mkP Y D) (mkQ Y D) → t.is u (mkP (X * D' + X' * D) (2 * D * D')) (mkQ (X * D' + X' * D) (2 * D * D')) (mkP (Y * D' + Y' * D) (2 * D * D')) (mkQ (Y * D' + Y' * D) (2 * D * D')) → Calls Tryd.prog 13 #[.agg #[.bool s.x.p.neg, .slice s.x.p.A s.x.p.n s.x.p.c, .bool s.x.l.neg, .slice s.x.l.A s.x.l.n s.x.l.c, .bool s.y.p.neg, .slice s.y.p.A s.y.p.n s.y.p.c, .bool s.y.l.neg, .slice s.y.l.A s.y.l.n s.y.l.c], .agg #[.bool t.x.p.neg, .slice t.x.p.A t.x.p.n t.x.p.c, .bool t.x.l.neg, .slice t.x.l.A t.x.l.n t.x.l.c, .bool t.y.p.neg, .slice t.y.p.A t.y.p.n t.y.p.c, .bool t.y.l.neg, .slice t.y.l.A t.y.l.n t.y.l.c]] u (RetInt u (orI (cmpI (X * D') (X' * D)) (cmpI (Y * D') (Y' * D))))) := Lib.hid fun s t u hs ht => by
    have h := PCompare_any hs ht
    rw [cmpPt, cmp_mk _ _ hD0 hZ, cmp_mk _ _ hD0 hZ, (mid_cmp X X' hD0 hD0').1, (mid_cmp Y Y' hD0 hD0').1] at h
    exact h
  have HC2 : Hid (∀ (s t : PV) u, s.is u (mkP (X * D' + X' * D) (2 * D * D')) (mkQ (X * D' + X' * D) (2 * D * D')) (mkP (Y * D' + Y' * D) (2 * D * D')) (mkQ (Y * D' + Y' * D) (2 * D * D')) → t.is u (mkP X' D') (mkQ X' D') (mkP Y' D') (mkQ Y' D') → Calls Tryd.prog 13 #[.agg #[.bool s.x.p.neg, .slice s.x.p.A s.x.p.n s.x.p.c, .bool s.x.l.neg, .slice s.x.l.A s.x.l.n s.x.l.c, .bool s.y.p.neg, .slice s.y.p.A s.y.p.n s.y.p.c, .bool s.y.l.neg, .slice s.y.l.A s.y.l.n s.y.l.c], .agg #[.bool t.x.p.neg, .slice t.x.p.A t.x.p.n t.x.p.c, .bool t.x.l.neg, .slice t.x.l.A t.x.l.n t.x.l.c, .bool t.y.p.neg, .slice t.y.p.A t.y.p.n t.y.p.c, .bool t.y.l.neg, .slice t.y.l.A t.y.l.n t.y.l.c]] u (RetInt u (orI (cmpI (X * D') (X' * D)) (cmpI (Y * D') (Y' * D))))) := Lib.hid fun s t u hs ht => by
    have h := PCompare_any hs ht
    rw [cmpPt, cmp_mk _ _ hZ hD0', cmp_mk _ _ hZ hD0', (mid_cmp X X' hD0 hD0').2, (mid_cmp Y Y' hD0 hD0').2] at h
    exact h
  have HMid : Hid (∀ (s t : PV) u, s.is u (mkP X D) (mkQ X D) (mkP Y D) (mkQ Y D) → t.is u (mkP X' D') (mkQ X' D') (mkP Y' D') (mkQ Y' D') → Calls Tryd.prog 9 #[.agg #[.bool s.x.p.neg, .slice s.x.p.A s.x.p.n s.x.p.c, .bool s.x.l.neg, .slice s.x.l.A s.x.l.n s.x.l.c, .bool s.y.p.neg, .slice s.y.p.A s.y.p.n s.y.p.c, .bool s.y.l.neg, .slice s.y.l.A s.y.l.n s.y.l.c], .agg #[.bool t.x.p.neg, .slice t.x.p.A t.x.p.n t.x.p.c, .bool t.x.l.neg, .slice t.x.l.A t.x.l.n t.x.l.c, .bool t.y.p.neg, .slice t.y.p.A t.y.p.n t.y.p.c, .bool t.y.l.neg, .slice t.y.l.A t.y.l.n t.y.l.c]] u fun e w' => ∃ m : PV, e = .returned (.tuple #[.agg #[.bool m.x.p.neg, .slice m.x.p.A m.x.p.n m.x.p.c, .bool m.x.l.neg, .slice m.x.l.A m.x.l.n m.x.l.c, .bool m.y.p.neg, .slice m.y.p.A m.y.p.n m.y.p.c, .bool m.y.l.neg, .slice m.y.l.A m.y.l.n m.y.l.c], .int .i64 0]) ∧ Below u.heap.size u w' ∧ m.is w' (mkP (X * D' + X' * D) (2 * D * D')) (mkQ (X * D' + X' * D) (2 * D * D')) (mkP (Y * D' + Y' * D) (2 * D * D')) (mkQ (Y * D' + Y' * D) (2 * D * D'))) := Lib.hid fun s t u hs ht => by
    have h := PMid_ok hs ht (Lib.hid L1.ok) (Lib.hid L2.ok)
    rw [L1.eP, L1.eQ, L2.eP, L2.eQ] at h
    exact h
  have HMid2 : Hid (∀ (s t : PV) u, s.is u (mkP X' D') (mkQ X' D') (mkP Y' D') (mkQ Y' D') → t.is u (mkP X D) (mkQ X D) (mkP Y D) (mkQ Y D) → Calls Tryd.prog 9 #[.agg #[.bool s.x.p.neg, .slice s.x.p.A s.x.p.n s.x.p.c, .bool s.x.l.neg, .slice s.x.l.A s.x.l.n s.x.l.c, .bool s.y.p.neg, .slice s.y.p.A s.y.p.n s.y.p.c, .bool s.y.l.neg, .slice s.y.l.A s.y.l.n s.y.l.c], .agg #[.bool t.x.p.neg, .slice t.x.p.A t.x.p.n t.x.p.c, .bool t.x.l.neg, .slice t.x.l.A t.x.l.n t.x.l.c, .bool t.y.p.neg, .slice t.y.p.A t.y.p.n t.y.p.c, .bool t.y.l.neg, .slice t.y.l.A t.y.l.n t.y.l.c]] u fun e w' => ∃ m : PV, e = .returned (.tuple #[.agg #[.bool m.x.p.neg, .slice m.x.p.A m.x.p.n m.x.p.c, .bool m.x.l.neg, .slice m.x.l.A m.x.l.n m.x.l.c, .bool m.y.p.neg, .slice m.y.p.A m.y.p.n m.y.p.c, .bool m.y.l.neg, .slice m.y.l.A m.y.l.n m.y.l.c], .int .i64 0]) ∧ Below u.heap.size u w' ∧ m.is w' (mkP (X * D' + X' * D) (2 * D * D')) (mkQ (X * D' + X' * D) (2 * D * D')) (mkP (Y * D' + Y' * D) (2 * D * D')) (mkQ (Y * D' + Y' * D) (2 * D * D'))) := Lib.hid fun s t u hs ht => by
    have h := PMid_ok hs ht (Lib.hid L3.ok) (Lib.hid L4.ok)
    rw [f3, g3, f4, g4] at h
    exact h
  obtain ⟨r1, r2, r3, HRM, HSm⟩ : ∃ r1 r2 r3 : Int, Hid (∀ u, Calls Tryd.prog 12 #[.agg #[.int .i64 X, .int .i64 Y, .int .i64 D], .agg #[.int .i64 X', .int .i64 Y', .int .i64 D']] u (RetR u r1 r2 r3)) ∧
      Hid (∀ (s : PV) u, s.is u (mkP (X * D' + X' * D) (2 * D * D')) (mkQ (X * D' + X' * D) (2 * D * D')) (mkP (Y * D' + Y' * D) (2 * D * D')) (mkQ (Y * D' + Y' * D) (2 * D * D')) → Tab u → Calls Tryd.prog 11 #[.agg #[.bool s.x.p.neg, .slice s.x.p.A s.x.p.n s.x.p.c, .bool s.x.l.neg, .slice s.x.l.A s.x.l.n s.x.l.c, .bool s.y.p.neg, .slice s.y.p.A s.y.p.n s.y.p.c, .bool s.y.l.neg, .slice s.y.l.A s.y.l.n s.y.l.c], .agg #[.int .i64 r1, .int .i64 r2, .int .i64 r3]] u (RetB u true)) := by
    have hr := fun u => RMid_any X Y D X' Y' D' u (by omega) (by omega) hD0 (by omega) (by omega) (by omega) hD0' (by omega)
    generalize X * D' + X' * D = Mx at *
    generalize Y * D' + Y' * D = My at *
    generalize 2 * D * D' = Z at *
    have hg := gMk_pos (x := Mx) (y := My) hZ
    have h1 := Int.natAbs_ediv_le_natAbs Mx (gMk Mx My Z)
    have h2 := Int.natAbs_ediv_le_natAbs My (gMk Mx My Z)
    have h3 := Int.natAbs_ediv_le_natAbs Z (gMk Mx My Z)
    have h4 := ediv_pos_dvd hZ hg (gMk_d Mx My Z)
    have e1 := mk_mul (Mx / gMk Mx My Z) (Z / gMk Mx My Z) h4 hg
    have e2 := mk_mul (My / gMk Mx My Z) (Z / gMk Mx My Z) h4 hg
    rw [Int.ediv_mul_cancel (gMk_x Mx My Z), Int.ediv_mul_cancel (gMk_d Mx My Z)] at e1
    rw [Int.ediv_mul_cancel (gMk_y Mx My Z), Int.ediv_mul_cancel (gMk_d Mx My Z)] at e2
    refine ⟨_, _, _, Lib.hid hr, Lib.hid fun s u hs htu => ?_⟩
    rw [e1.1, e1.2, e2.1, e2.2] at hs
    exact same_eq _ _ _ u hs htu ⟨by omega, by omega⟩ ⟨by omega, by omega⟩ ⟨by omega, by omega⟩ (by omega)
  obtain ⟨N, hN⟩ : ∃ N, N = nr (X * D' + X' * D) (2 * D * D') := ⟨_, rfl⟩
  obtain ⟨M, hM⟩ : ∃ M, M = nr (Y * D' + Y' * D) (2 * D * D') := ⟨_, rfl⟩
  have nb := nr_bd (M := X * D' + X' * D) hZ (by omega)
  have mb := nr_bd (M := Y * D' + Y' * D) hZ (by omega)
  have dx := diff_half (X * D' + X' * D) hZ
  have dy := diff_half (Y * D' + Y' * D) hZ
  rw [← hN] at nb dx
  rw [← hM] at mb dy
  have HRd : Hid (∀ (s : PV) u, s.is u (mkP (X * D' + X' * D) (2 * D * D')) (mkQ (X * D' + X' * D) (2 * D * D')) (mkP (Y * D' + Y' * D) (2 * D * D')) (mkQ (Y * D' + Y' * D) (2 * D * D')) → Calls Tryd.prog 14 #[.agg #[.bool s.x.p.neg, .slice s.x.p.A s.x.p.n s.x.p.c, .bool s.x.l.neg, .slice s.x.l.A s.x.l.n s.x.l.c, .bool s.y.p.neg, .slice s.y.p.A s.y.p.n s.y.p.c, .bool s.y.l.neg, .slice s.y.l.A s.y.l.n s.y.l.c]] u (RetE u N M 0)) := Lib.hid fun s u hs => by
    have h := PRound_any hs
    have hg : goodV N M = 0 := by simp [goodV, goodC]; omega
    rw [rdOK_eq hZ, nr_mk hZ, nr_mk hZ, ← hN, ← hM, hg] at h
    exact h
  have px := natAbs_mkP (X := X * D' + X' * D) hZ
  have py := natAbs_mkP (X := Y * D' + Y' * D) hZ
  have qx := mkQ_pos (X := X * D' + X' * D) hZ
  have qy := mkQ_pos (X := Y * D' + Y' * D) hZ
  clear hN hM L1 L2 L3 L4 f3 g3 f4 g4 c1 c2 c3
  generalize mkP X D = p1 at *
  generalize mkQ X D = p2 at *
  generalize mkP Y D = p3 at *
  generalize mkQ Y D = p4 at *
  generalize mkP X' D' = q1 at *
  generalize mkQ X' D' = q2 at *
  generalize mkP Y' D' = q3 at *
  generalize mkQ Y' D' = q4 at *
  generalize orI (cmpI (X * D') (X' * D)) (cmpI (Y * D') (Y' * D)) = c at *
  generalize mkP (X * D' + X' * D) (2 * D * D') = m1 at *
  generalize mkQ (X * D' + X' * D) (2 * D * D') = m2 at *
  generalize mkP (Y * D' + Y' * D) (2 * D * D') = m3 at *
  generalize mkQ (Y * D' + Y' * D) (2 * D * D') = m4 at *
  have HC0 : Hid (∀ (s t : PV) u, s.is u m1 m2 m3 m4 → t.is u m1 m2 m3 m4 → Calls Tryd.prog 13 #[.agg #[.bool s.x.p.neg, .slice s.x.p.A s.x.p.n s.x.p.c, .bool s.x.l.neg, .slice s.x.l.A s.x.l.n s.x.l.c, .bool s.y.p.neg, .slice s.y.p.A s.y.p.n s.y.p.c, .bool s.y.l.neg, .slice s.y.l.A s.y.l.n s.y.l.c], .agg #[.bool t.x.p.neg, .slice t.x.p.A t.x.p.n t.x.p.c, .bool t.x.l.neg, .slice t.x.l.A t.x.l.n t.x.l.c, .bool t.y.p.neg, .slice t.y.p.A t.y.p.n t.y.p.c, .bool t.y.l.neg, .slice t.y.l.A t.y.l.n t.y.l.c]] u (RetInt u 0)) := Lib.hid fun s t u hs ht => by
    have h := PCompare_any hs ht
    have e : cmpPt m1 m2 m3 m4 m1 m2 m3 m4 = 0 := by rw [cmpPt, cmpI_eq rfl, cmpI_eq rfl]; rfl
    rw [e] at h
    exact h
  have HOf : Hid (∀ u, Calls Tryd.prog 17 #[.agg #[.int .i64 N, .int .i64 M]] u (RetP u N 1 M 1)) := Lib.hid fun u => POf_any N M u (by omega) (by omega) (by omega) (by omega)
  have HSx : Hid (∀ (f g : FV) u, f.is u N 1 → g.is u m1 m2 → Calls Tryd.prog 16 #[.agg #[.bool f.p.neg, .slice f.p.A f.p.n f.p.c, .bool f.l.neg, .slice f.l.A f.l.n f.l.c], .agg #[.bool g.p.neg, .slice g.p.A g.p.n g.p.c, .bool g.l.neg, .slice g.l.A g.l.n g.l.c]] u (FracE u (mkP (N * m2 + -m1 * 1) (1 * m2)) (mkQ (N * m2 + -m1 * 1) (1 * m2)) 0)) := Lib.hid fun f g u hf hg =>
    (SubF_any hf hg).mono fun _ _ h => h.elim (fun h2 => h2.2) (fun h2 => absurd (addOK_small (by omega) (by omega) (by omega) (by omega)) h2.1)
  have HSy : Hid (∀ (f g : FV) u, f.is u M 1 → g.is u m3 m4 → Calls Tryd.prog 16 #[.agg #[.bool f.p.neg, .slice f.p.A f.p.n f.p.c, .bool f.l.neg, .slice f.l.A f.l.n f.l.c], .agg #[.bool g.p.neg, .slice g.p.A g.p.n g.p.c, .bool g.l.neg, .slice g.l.A g.l.n g.l.c]] u (FracE u (mkP (M * m4 + -m3 * 1) (1 * m4)) (mkQ (M * m4 + -m3 * 1) (1 * m4)) 0)) := Lib.hid fun f g u hf hg =>
    (SubF_any hf hg).mono fun _ _ h => h.elim (fun h2 => h2.2) (fun h2 => absurd (addOK_small (by omega) (by omega) (by omega) (by omega)) h2.1)
  generalize mkP (N * m2 + -m1 * 1) (1 * m2) = x1 at *
  generalize mkQ (N * m2 + -m1 * 1) (1 * m2) = x2 at *
  generalize mkP (M * m4 + -m3 * 1) (1 * m4) = y1 at *
  generalize mkQ (M * m4 + -m3 * 1) (1 * m4) = y2 at *
  obtain ⟨vx, evx⟩ : ∃ v, v = cmpI (x1 * 2) (-1 * x2) := ⟨_, rfl⟩
  obtain ⟨vy, evy⟩ : ∃ v, v = cmpI (y1 * 2) (-1 * y2) := ⟨_, rfl⟩
  have HH1 : Hid (∀ (f g : FV) u, f.is u x1 x2 → g.is u 1 2 → Calls Tryd.prog 18 #[.agg #[.bool f.p.neg, .slice f.p.A f.p.n f.p.c, .bool f.l.neg, .slice f.l.A f.l.n f.l.c], .agg #[.bool g.p.neg, .slice g.p.A g.p.n g.p.c, .bool g.l.neg, .slice g.l.A g.l.n g.l.c]] u (RetInt u (-1))) := Lib.hid fun f g u hf hg => dx.1 ▸ Compare_frac hf hg
  have HH2 : Hid (∀ (f g : FV) u, f.is u y1 y2 → g.is u 1 2 → Calls Tryd.prog 18 #[.agg #[.bool f.p.neg, .slice f.p.A f.p.n f.p.c, .bool f.l.neg, .slice f.l.A f.l.n f.l.c], .agg #[.bool g.p.neg, .slice g.p.A g.p.n g.p.c, .bool g.l.neg, .slice g.l.A g.l.n g.l.c]] u (RetInt u (-1))) := Lib.hid fun f g u hf hg => dy.1 ▸ Compare_frac hf hg
  have HH3 : Hid (∀ (f g : FV) u, f.is u x1 x2 → g.is u (-1) 2 → Calls Tryd.prog 18 #[.agg #[.bool f.p.neg, .slice f.p.A f.p.n f.p.c, .bool f.l.neg, .slice f.l.A f.l.n f.l.c], .agg #[.bool g.p.neg, .slice g.p.A g.p.n g.p.c, .bool g.l.neg, .slice g.l.A g.l.n g.l.c]] u (RetInt u vx)) := Lib.hid fun f g u hf hg => evx ▸ Compare_frac hf hg
  have HH4 : Hid (∀ (f g : FV) u, f.is u y1 y2 → g.is u (-1) 2 → Calls Tryd.prog 18 #[.agg #[.bool f.p.neg, .slice f.p.A f.p.n f.p.c, .bool f.l.neg, .slice f.l.A f.l.n f.l.c], .agg #[.bool g.p.neg, .slice g.p.A g.p.n g.p.c, .bool g.l.neg, .slice g.l.A g.l.n g.l.c]] u (RetInt u vy)) := Lib.hid fun f g u hf hg => evy ▸ Compare_frac hf hg
  have vx0 : 0 ≤ vx := evx ▸ dx.2
  have vy0 : 0 ≤ vy := evy ▸ dy.2
  have HOh : Hid (∀ u, Calls Tryd.prog 15 #[.int .i64 1, .int .i64 2] u (FracE u 1 2 0)) := Lib.hid fun u => Of_any 1 2 u (by omega) (by omega) (by omega) (by omega) (by omega)
  have HOl : Hid (∀ u, Calls Tryd.prog 15 #[.int .i64 (-1), .int .i64 2] u (FracE u (-1) 2 0)) := Lib.hid fun u => Of_any (-1) 2 u (by omega) (by omega) (by omega) (by omega) (by omega)
  clear evx evy dx dy px py qx qy nb mb hZ hZ' hMx hMy hX hY hX' hY' hD0 hD1 hD0' hD1'
  go_enter Tryd.func3, Tryd.ntmps3
  go_wp2_with fail
  refine (HSa.out _).mono ?_
  rintro e w2 ⟨rfl, k1⟩
  go_upto_region 2 with fail
  refine wp_new1 fun w3 hP k2 => ?_
  go_wp2_with fail
  refine (HSb.out _).mono ?_
  rintro e w4 ⟨rfl, k3⟩
  go_upto_region 3 with fail
  refine wp_new1 fun w5 hQ k4 => ?_
  have hP := hP.on (Below.call k3 k4)
  have hB5 := Below.call (Below.call (Below.call k1 k2) k3) k4
  clear HSa HSb
  refine wp_region_boxes w5 [Spec.eq (.agg #[.int .i64 X, .int .i64 Y, .int .i64 D]), sP p1 p2 p3 p4, Spec.eq (.agg #[.int .i64 X', .int .i64 Y', .int .i64 D']), sP q1 q2 q3 q4, sPE m1 m2 m3 m4 0, sPE m1 m2 m3 m4 0, sP m1 m2 m3 m4, Spec.eq (.int .i64 0), Spec.any, Spec.any, Spec.eq (.int .i64 0)]
      [{ A := 8, j := 9, t := 7, T := 31, zs := [.bool false, .slice none 0 0, .bool false, .slice none 0 0, .bool false, .slice none 0 0, .bool false, .slice none 0 0], X := fun us w => ∃ x : PV, us = [.bool x.x.p.neg, .slice x.x.p.A x.x.p.n x.x.p.c, .bool x.x.l.neg, .slice x.x.l.A x.x.l.n x.x.l.c, .bool x.y.p.neg, .slice x.y.p.A x.y.p.n x.y.p.c, .bool x.y.l.neg, .slice x.y.l.A x.y.l.n x.y.l.c] ∧ x.is w m1 m2 m3 m4, up := fun ⟨x, e, hx⟩ k => ⟨x, e, hx.keeps k⟩ }]
      (by kernel_rfl) (by kernel_rfl) rfl (by kernel_rfl) rfl (Below.drew (Below.refl _ _)) ?_ ?_ ⟨rfl, rfl, trivial⟩ ?_
  ·
    refine RegSteps.cons ?_ ?_
    · intro _ az wz hC hF hD _ K hK
      have q5 : az.tmps[5]? = some (.pointer (some ⟨w2.heap.size, 0, none⟩)) := hF 5 rfl
      obtain ⟨l0, l1, l2, _⟩ := (hP.on hC).all3
      clear hF hD
      refine want_none rfl ?_
      go_simp
      exact hK _ _ hC (Below.refl _ _) rfl
    refine RegSteps.cons ?_ ?_
    · intro _ az wz hC hF hD _ K hK
      obtain ⟨_, q27, rfl⟩ := dep hD 0 rfl rfl rfl rfl
      clear hF hD
      refine want_none rfl ?_
      go_simp
      refine (HRp.out _).mono ?_
      rintro e wy ⟨x, rfl, k, hx⟩
      exact hK _ _ (Below.call hC k) k ⟨x, rfl, hx⟩
    refine RegSteps.cons ?_ ?_
    · intro _ az wz hC hF hD _ K hK
      have q6 : az.tmps[6]? = some (.pointer (some ⟨w4.heap.size, 0, none⟩)) := hF 6 rfl
      obtain ⟨l0, l1, l2, _⟩ := (hQ.on hC).all3
      clear hF hD
      refine want_none rfl ?_
      go_simp
      exact hK _ _ hC (Below.refl _ _) rfl
    refine RegSteps.cons ?_ ?_
    · intro _ az wz hC hF hD _ K hK
      obtain ⟨_, q29, rfl⟩ := dep hD 2 rfl rfl rfl rfl
      clear hF hD
      refine want_none rfl ?_
      go_simp
      refine (HRq.out _).mono ?_
      rintro e wy ⟨x, rfl, k, hx⟩
      exact hK _ _ (Below.call hC k) k ⟨x, rfl, hx⟩
    refine RegSteps.cons ?_ ?_
    · intro _ az wz hC hF hD _ K hK
      obtain ⟨_, q28, x28, rfl, hx28⟩ := dep hD 1 rfl rfl rfl rfl
      obtain ⟨_, q30, x30, rfl, hx30⟩ := dep hD 3 rfl rfl rfl rfl
      clear hF hD
      refine want_none rfl ?_
      go_simp
      refine (HMid.out _ _ _ hx28 hx30).mono ?_
      rintro e wy ⟨x, rfl, k, hx⟩
      exact hK _ _ (Below.call hC k) k ⟨x, rfl, hx⟩
    refine RegSteps.cons ?_ ?_
    · intro _ az wz hC hF hD _ K hK
      obtain ⟨_, q31, x31, rfl, hx31⟩ := dep hD 4 rfl rfl rfl rfl
      clear hF hD
      refine want_none rfl ?_
      go_simp
      exact hK _ _ hC (Below.refl _ _) ⟨x31, rfl, hx31⟩
    refine RegSteps.cons ?_ ?_
    · intro _ az wz hC hF hD _ K hK
      obtain ⟨_, q26, x26, rfl, hx26⟩ := dep hD 5 rfl rfl rfl rfl
      clear hF hD
      refine want_none rfl ?_
      go_simp
      exact hK _ _ hC (Below.refl _ _) ⟨x26, rfl, hx26⟩
    refine RegSteps.cons ?_ ?_
    · intro _ az wz hC hF hD _ K hK
      obtain ⟨_, q26, x26, rfl, hx26⟩ := dep hD 5 rfl rfl rfl rfl
      clear hF hD
      refine want_none rfl ?_
      go_simp
      exact hK _ _ hC (Below.refl _ _) rfl
    refine RegSteps.cons ?_ ?_
    · exact fun h => by cases h
    refine RegSteps.cons ?_ ?_
    · exact fun h => by cases h
    refine RegSteps.cons ?_ ?_
    · intro _ az wz hC hF hD _ K hK
      obtain ⟨_, q33, rfl⟩ := dep hD 7 rfl rfl rfl rfl
      clear hF hD
      refine want_none rfl ?_
      go_simp
      exact hK _ _ hC (Below.refl _ _) rfl
    exact RegSteps.nil
  · refine ⟨?_, trivial⟩
    · refine ⟨⟨_, rfl, rfl, rfl, fun az wz K hK => by go_simp; exact hK⟩, ⟨_, rfl, rfl, rfl, ?_⟩, by simp [Word], by simp⟩
      intro az wz gz cs hC hF hD hA K hK
      obtain ⟨p1, p2, p3, p4, p5⟩ := hA
      obtain ⟨_, q32, x, rfl, hx⟩ := dep hD 6 rfl rfl rfl rfl
      obtain ⟨c0, c1, c2, c3, c4, c5, c6, c7, rfl⟩ := list_8 (l := cs) p4
      have z0 := p3.c0
      have z1 := p3.c1
      have z2 := p3.c2
      have z3 := p3.c3
      have z4 := p3.c4
      have z5 := p3.c5
      have z6 := p3.c6
      have z7 := p3.c7
      have f0 := p3.frozen 0
      have f1 := p3.frozen 1
      have f2 := p3.frozen 2
      have f3 := p3.frozen 3
      have f4 := p3.frozen 4
      have f5 := p3.frozen 5
      have f6 := p3.frozen 6
      have f7 := p3.frozen 7
      clear hF hD p3 p5
      refine want_none rfl ?_
      go_simp
      exact hK [.bool x.x.p.neg, .slice x.x.p.A x.x.p.n x.x.p.c, .bool x.x.l.neg, .slice x.x.l.A x.x.l.n x.x.l.c, .bool x.y.p.neg, .slice x.y.p.A x.y.p.n x.y.p.c, .bool x.y.l.neg, .slice x.y.l.A x.y.l.n x.y.l.c] rfl (by simp [Word]) ⟨x, rfl, hx⟩
  intro w6 gs hC6 hgl hbf
  obtain ⟨gm, rfl⟩ := list_1 hgl
  obtain ⟨⟨hg0, us0, hOb0, ⟨m, rfl, hm⟩⟩, _⟩ := hbf
  rintro _ rfl _ ⟨y28, rfl, _⟩ _ rfl _ ⟨y30, rfl, _⟩ _ ⟨y31, rfl, _⟩ _ ⟨y26, rfl, _⟩ _ ⟨y32, rfl, _⟩ _ rfl _ rfl _ _ _ rfl
  simp only [FinOK, Act.put, List.setIfInBounds_toArray, List.set_cons_zero, List.set_cons_succ]
  have hOm := hOb0
  clear hOb0
  have hP := hP.on hC6
  have hQ := hQ.on hC6
  go_wp2_with fail
  refine wp_region_boxes w6 [Spec.eq (.agg #[.int .i64 X', .int .i64 Y', .int .i64 D']), sP q1 q2 q3 q4, Spec.eq (.agg #[.int .i64 X, .int .i64 Y, .int .i64 D]), sP p1 p2 p3 p4, sPE m1 m2 m3 m4 0, sPE m1 m2 m3 m4 0, sP m1 m2 m3 m4, Spec.eq (.int .i64 0), Spec.any, Spec.any, Spec.eq (.int .i64 0)]
      [{ A := 8, j := 9, t := 9, T := 31, zs := [.bool false, .slice none 0 0, .bool false, .slice none 0 0, .bool false, .slice none 0 0, .bool false, .slice none 0 0], X := fun us w => ∃ x : PV, us = [.bool x.x.p.neg, .slice x.x.p.A x.x.p.n x.x.p.c, .bool x.x.l.neg, .slice x.x.l.A x.x.l.n x.x.l.c, .bool x.y.p.neg, .slice x.y.p.A x.y.p.n x.y.p.c, .bool x.y.l.neg, .slice x.y.l.A x.y.l.n x.y.l.c] ∧ x.is w m1 m2 m3 m4, up := fun ⟨x, e, hx⟩ k => ⟨x, e, hx.keeps k⟩ }]
      (by kernel_rfl) (by kernel_rfl) rfl (by kernel_rfl) rfl (Below.drew (Below.refl _ _)) ?_ ?_ ⟨rfl, rfl, trivial⟩ ?_
  ·
    refine RegSteps.cons ?_ ?_
    · intro _ az wz hC hF hD _ K hK
      have q6 : az.tmps[6]? = some (.pointer (some ⟨w4.heap.size, 0, none⟩)) := hF 6 rfl
      obtain ⟨l0, l1, l2, _⟩ := (hQ.on hC).all3
      clear hF hD
      refine want_none rfl ?_
      go_simp
      exact hK _ _ hC (Below.refl _ _) rfl
    refine RegSteps.cons ?_ ?_
    · intro _ az wz hC hF hD _ K hK
      obtain ⟨_, q35, rfl⟩ := dep hD 0 rfl rfl rfl rfl
      clear hF hD
      refine want_none rfl ?_
      go_simp
      refine (HRq.out _).mono ?_
      rintro e wy ⟨x, rfl, k, hx⟩
      exact hK _ _ (Below.call hC k) k ⟨x, rfl, hx⟩
    refine RegSteps.cons ?_ ?_
    · intro _ az wz hC hF hD _ K hK
      have q5 : az.tmps[5]? = some (.pointer (some ⟨w2.heap.size, 0, none⟩)) := hF 5 rfl
      obtain ⟨l0, l1, l2, _⟩ := (hP.on hC).all3
      clear hF hD
      refine want_none rfl ?_
      go_simp
      exact hK _ _ hC (Below.refl _ _) rfl
    refine RegSteps.cons ?_ ?_
    · intro _ az wz hC hF hD _ K hK
      obtain ⟨_, q37, rfl⟩ := dep hD 2 rfl rfl rfl rfl
      clear hF hD
      refine want_none rfl ?_
      go_simp
      refine (HRp.out _).mono ?_
      rintro e wy ⟨x, rfl, k, hx⟩
      exact hK _ _ (Below.call hC k) k ⟨x, rfl, hx⟩
    refine RegSteps.cons ?_ ?_
    · intro _ az wz hC hF hD _ K hK
      obtain ⟨_, q36, x36, rfl, hx36⟩ := dep hD 1 rfl rfl rfl rfl
      obtain ⟨_, q38, x38, rfl, hx38⟩ := dep hD 3 rfl rfl rfl rfl
      clear hF hD
      refine want_none rfl ?_
      go_simp
      refine (HMid2.out _ _ _ hx36 hx38).mono ?_
      rintro e wy ⟨x, rfl, k, hx⟩
      exact hK _ _ (Below.call hC k) k ⟨x, rfl, hx⟩
    refine RegSteps.cons ?_ ?_
    · intro _ az wz hC hF hD _ K hK
      obtain ⟨_, q39, x39, rfl, hx39⟩ := dep hD 4 rfl rfl rfl rfl
      clear hF hD
      refine want_none rfl ?_
      go_simp
      exact hK _ _ hC (Below.refl _ _) ⟨x39, rfl, hx39⟩
    refine RegSteps.cons ?_ ?_
    · intro _ az wz hC hF hD _ K hK
      obtain ⟨_, q34, x34, rfl, hx34⟩ := dep hD 5 rfl rfl rfl rfl
      clear hF hD
      refine want_none rfl ?_
      go_simp
      exact hK _ _ hC (Below.refl _ _) ⟨x34, rfl, hx34⟩
    refine RegSteps.cons ?_ ?_
    · intro _ az wz hC hF hD _ K hK
      obtain ⟨_, q34, x34, rfl, hx34⟩ := dep hD 5 rfl rfl rfl rfl
      clear hF hD
      refine want_none rfl ?_
      go_simp
      exact hK _ _ hC (Below.refl _ _) rfl
    refine RegSteps.cons ?_ ?_
    · exact fun h => by cases h
    refine RegSteps.cons ?_ ?_
    · exact fun h => by cases h
    refine RegSteps.cons ?_ ?_
    · intro _ az wz hC hF hD _ K hK
      obtain ⟨_, q41, rfl⟩ := dep hD 7 rfl rfl rfl rfl
      clear hF hD
      refine want_none rfl ?_
      go_simp
      exact hK _ _ hC (Below.refl _ _) rfl
    exact RegSteps.nil
  · refine ⟨?_, trivial⟩
    · refine ⟨⟨_, rfl, rfl, rfl, fun az wz K hK => by go_simp; exact hK⟩, ⟨_, rfl, rfl, rfl, ?_⟩, by simp [Word], by simp⟩
      intro az wz gz cs hC hF hD hA K hK
      obtain ⟨p1, p2, p3, p4, p5⟩ := hA
      obtain ⟨_, q40, x, rfl, hx⟩ := dep hD 6 rfl rfl rfl rfl
      obtain ⟨c0, c1, c2, c3, c4, c5, c6, c7, rfl⟩ := list_8 (l := cs) p4
      have z0 := p3.c0
      have z1 := p3.c1
      have z2 := p3.c2
      have z3 := p3.c3
      have z4 := p3.c4
      have z5 := p3.c5
      have z6 := p3.c6
      have z7 := p3.c7
      have f0 := p3.frozen 0
      have f1 := p3.frozen 1
      have f2 := p3.frozen 2
      have f3 := p3.frozen 3
      have f4 := p3.frozen 4
      have f5 := p3.frozen 5
      have f6 := p3.frozen 6
      have f7 := p3.frozen 7
      clear hF hD p3 p5
      refine want_none rfl ?_
      go_simp
      exact hK [.bool x.x.p.neg, .slice x.x.p.A x.x.p.n x.x.p.c, .bool x.x.l.neg, .slice x.x.l.A x.x.l.n x.x.l.c, .bool x.y.p.neg, .slice x.y.p.A x.y.p.n x.y.p.c, .bool x.y.l.neg, .slice x.y.l.A x.y.l.n x.y.l.c] rfl (by simp [Word]) ⟨x, rfl, hx⟩
  intro w7 gs hC7 hgl hbf
  obtain ⟨gn, rfl⟩ := list_1 hgl
  obtain ⟨⟨hg0, us0, hOb0, ⟨n, rfl, hn⟩⟩, _⟩ := hbf
  rintro _ rfl _ ⟨y36, rfl, _⟩ _ rfl _ ⟨y38, rfl, _⟩ _ ⟨y39, rfl, _⟩ _ ⟨y34, rfl, _⟩ _ ⟨y40, rfl, _⟩ _ rfl _ rfl _ _ _ rfl
  simp only [FinOK, Act.put, List.setIfInBounds_toArray, List.set_cons_zero, List.set_cons_succ]
  have hOn := hOb0
  clear hOb0 HMid HMid2
  have hP := hP.on hC7
  have hQ := hQ.on hC7
  have hOm := hOm.on hC7
  have hm := hm.on hC7
  have hB7 := Below.call (Below.call hB5 hC6) hC7
  have ht7 := ht.on hB7
  go_wp2_with fail
  refine wp_region_specs w7 [Spec.eq (.int .i64 0), Spec.eq (.bool false), Spec.eq (.bool false), Spec.eq (.int .i64 0), Spec.eq (.bool false), Spec.eq (.bool false), Spec.eq (.bool false), Spec.eq (.agg #[.bool m.x.p.neg, .slice m.x.p.A m.x.p.n m.x.p.c, .bool m.x.l.neg, .slice m.x.l.A m.x.l.n m.x.l.c, .bool m.y.p.neg, .slice m.y.p.A m.y.p.n m.y.p.c, .bool m.y.l.neg, .slice m.y.l.A m.y.l.n m.y.l.c]), Spec.eq (.agg #[.int .i64 X, .int .i64 Y, .int .i64 D]), Spec.eq (.agg #[.int .i64 X', .int .i64 Y', .int .i64 D']), Spec.eq (.agg #[.int .i64 r1, .int .i64 r2, .int .i64 r3]), Spec.eq (.bool true), Spec.eq (.bool false), Spec.eq (.bool false), Spec.eq (.bool false), Spec.eq (.agg #[.bool m.x.p.neg, .slice m.x.p.A m.x.p.n m.x.p.c, .bool m.x.l.neg, .slice m.x.l.A m.x.l.n m.x.l.c, .bool m.y.p.neg, .slice m.y.p.A m.y.p.n m.y.p.c, .bool m.y.l.neg, .slice m.y.l.A m.y.l.n m.y.l.c]), Spec.eq (.agg #[.bool n.x.p.neg, .slice n.x.p.A n.x.p.n n.x.p.c, .bool n.x.l.neg, .slice n.x.l.A n.x.l.n n.x.l.c, .bool n.y.p.neg, .slice n.y.p.A n.y.p.n n.y.p.c, .bool n.y.l.neg, .slice n.y.l.A n.y.l.n n.y.l.c]), Spec.eq (.int .i64 0), Spec.eq (.bool false), Spec.eq (.bool false)]
      (by kernel_rfl) (by kernel_rfl) rfl (by kernel_rfl) (Below.drew (Below.refl _ _)) ?_ ?_
  ·
    refine RegSteps.cons ?_ ?_
    · intro _ az wz hC hF hD _ K hK
      have q8 : az.tmps[8]? = some (.int .i64 0) := hF 8 rfl
      clear hF hD
      refine want_none rfl ?_
      go_simp
      exact hK _ _ hC (Below.refl _ _) rfl
    refine RegSteps.cons ?_ ?_
    · intro _ az wz hC hF hD _ K hK
      obtain ⟨_, q42, rfl⟩ := dep hD 0 rfl rfl rfl rfl
      clear hF hD
      refine want_none rfl ?_
      go_simp
      exact hK _ _ hC (Below.refl _ _) rfl
    refine RegSteps.cons ?_ ?_
    · intro _ az wz hC hF hD _ K hK
      obtain ⟨_, q43, rfl⟩ := dep hD 1 rfl rfl rfl rfl
      clear hF hD
      refine want_none rfl ?_
      go_simp
      exact hK _ _ hC (Below.refl _ _) rfl
    refine RegSteps.cons ?_ ?_
    · intro _ az wz hC hF hD _ K hK
      have q10 : az.tmps[10]? = some (.int .i64 0) := hF 10 rfl
      obtain ⟨_, qg, rfl⟩ := dep hD 2 rfl rfl rfl rfl
      clear hF hD
      refine want_yes rfl rfl rfl qg ?_
      go_simp
      exact hK _ _ hC (Below.refl _ _) rfl
    refine RegSteps.cons ?_ ?_
    · intro _ az wz hC hF hD _ K hK
      obtain ⟨_, q45, rfl⟩ := dep hD 3 rfl rfl rfl rfl
      obtain ⟨_, qg, rfl⟩ := dep hD 2 rfl rfl rfl rfl
      clear hF hD
      refine want_yes rfl rfl rfl qg ?_
      go_simp
      exact hK _ _ hC (Below.refl _ _) rfl
    refine RegSteps.cons ?_ ?_
    · intro _ az wz hC hF hD _ K hK
      obtain ⟨_, q44, rfl⟩ := dep hD 2 rfl rfl rfl rfl
      obtain ⟨_, q46, rfl⟩ := dep hD 4 rfl rfl rfl rfl
      clear hF hD
      refine want_none rfl ?_
      go_simp
      exact hK _ _ hC (Below.refl _ _) rfl
    refine RegSteps.cons ?_ ?_
    · intro _ az wz hC hF hD _ K hK
      obtain ⟨_, q47, rfl⟩ := dep hD 5 rfl rfl rfl rfl
      clear hF hD
      refine want_none rfl ?_
      go_simp
      exact hK _ _ hC (Below.refl _ _) rfl
    refine RegSteps.cons ?_ ?_
    · intro _ az wz hC hF hD _ K hK
      have q7 : az.tmps[7]? = some (.pointer (some ⟨gm, 0, none⟩)) := hF 7 rfl
      obtain ⟨_, qg, rfl⟩ := dep hD 6 rfl rfl rfl rfl
      obtain ⟨l0, l1, l2, l3, l4, l5, l6, l7, _⟩ := (hOm.on hC).all8
      clear hF hD
      refine want_yes rfl rfl rfl qg ?_
      go_simp
      exact hK _ _ hC (Below.refl _ _) rfl
    refine RegSteps.cons ?_ ?_
    · intro _ az wz hC hF hD _ K hK
      have q5 : az.tmps[5]? = some (.pointer (some ⟨w2.heap.size, 0, none⟩)) := hF 5 rfl
      obtain ⟨_, qg, rfl⟩ := dep hD 6 rfl rfl rfl rfl
      obtain ⟨l0, l1, l2, _⟩ := (hP.on hC).all3
      clear hF hD
      refine want_yes rfl rfl rfl qg ?_
      go_simp
      exact hK _ _ hC (Below.refl _ _) rfl
    refine RegSteps.cons ?_ ?_
    · intro _ az wz hC hF hD _ K hK
      have q6 : az.tmps[6]? = some (.pointer (some ⟨w4.heap.size, 0, none⟩)) := hF 6 rfl
      obtain ⟨_, qg, rfl⟩ := dep hD 6 rfl rfl rfl rfl
      obtain ⟨l0, l1, l2, _⟩ := (hQ.on hC).all3
      clear hF hD
      refine want_yes rfl rfl rfl qg ?_
      go_simp
      exact hK _ _ hC (Below.refl _ _) rfl
    refine RegSteps.cons ?_ ?_
    · intro _ az wz hC hF hD _ K hK
      obtain ⟨_, q50, rfl⟩ := dep hD 8 rfl rfl rfl rfl
      obtain ⟨_, q51, rfl⟩ := dep hD 9 rfl rfl rfl rfl
      obtain ⟨_, qg, rfl⟩ := dep hD 6 rfl rfl rfl rfl
      clear hF hD
      refine want_yes rfl rfl rfl qg ?_
      go_simp
      refine (HRM.out _).mono ?_
      rintro e wy ⟨rfl, k⟩
      exact hK _ _ (Below.call hC k) k rfl
    refine RegSteps.cons ?_ ?_
    · intro _ az wz hC hF hD _ K hK
      obtain ⟨_, q49, rfl⟩ := dep hD 7 rfl rfl rfl rfl
      obtain ⟨_, q52, rfl⟩ := dep hD 10 rfl rfl rfl rfl
      obtain ⟨_, qg, rfl⟩ := dep hD 6 rfl rfl rfl rfl
      clear hF hD
      refine want_yes rfl rfl rfl qg ?_
      go_simp
      refine (HSm.out _ _ (hm.on hC) (ht7.on hC)).mono ?_
      rintro e wy ⟨rfl, k⟩
      exact hK _ _ (Below.call hC k) k rfl
    refine RegSteps.cons ?_ ?_
    · intro _ az wz hC hF hD _ K hK
      obtain ⟨_, q53, rfl⟩ := dep hD 11 rfl rfl rfl rfl
      obtain ⟨_, qg, rfl⟩ := dep hD 6 rfl rfl rfl rfl
      clear hF hD
      refine want_yes rfl rfl rfl qg ?_
      go_simp
      exact hK _ _ hC (Below.refl _ _) rfl
    refine RegSteps.cons ?_ ?_
    · intro _ az wz hC hF hD _ K hK
      obtain ⟨_, q48, rfl⟩ := dep hD 6 rfl rfl rfl rfl
      obtain ⟨_, q54, rfl⟩ := dep hD 12 rfl rfl rfl rfl
      clear hF hD
      refine want_none rfl ?_
      go_simp
      exact hK _ _ hC (Below.refl _ _) rfl
    refine RegSteps.cons ?_ ?_
    · intro _ az wz hC hF hD _ K hK
      obtain ⟨_, q55, rfl⟩ := dep hD 13 rfl rfl rfl rfl
      clear hF hD
      refine want_none rfl ?_
      go_simp
      exact hK _ _ hC (Below.refl _ _) rfl
    refine RegSteps.cons ?_ ?_
    · intro _ az wz hC hF hD _ K hK
      have q7 : az.tmps[7]? = some (.pointer (some ⟨gm, 0, none⟩)) := hF 7 rfl
      obtain ⟨_, qg, rfl⟩ := dep hD 14 rfl rfl rfl rfl
      obtain ⟨l0, l1, l2, l3, l4, l5, l6, l7, _⟩ := (hOm.on hC).all8
      clear hF hD
      refine want_yes rfl rfl rfl qg ?_
      go_simp
      exact hK _ _ hC (Below.refl _ _) rfl
    refine RegSteps.cons ?_ ?_
    · intro _ az wz hC hF hD _ K hK
      have q9 : az.tmps[9]? = some (.pointer (some ⟨gn, 0, none⟩)) := hF 9 rfl
      obtain ⟨_, qg, rfl⟩ := dep hD 14 rfl rfl rfl rfl
      obtain ⟨l0, l1, l2, l3, l4, l5, l6, l7, _⟩ := (hOn.on hC).all8
      clear hF hD
      refine want_yes rfl rfl rfl qg ?_
      go_simp
      exact hK _ _ hC (Below.refl _ _) rfl
    refine RegSteps.cons ?_ ?_
    · intro _ az wz hC hF hD _ K hK
      obtain ⟨_, q57, rfl⟩ := dep hD 15 rfl rfl rfl rfl
      obtain ⟨_, q58, rfl⟩ := dep hD 16 rfl rfl rfl rfl
      obtain ⟨_, qg, rfl⟩ := dep hD 14 rfl rfl rfl rfl
      clear hF hD
      refine want_yes rfl rfl rfl qg ?_
      go_simp
      refine (HC0.out _ _ _ (hm.on hC) (hn.on hC)).mono ?_
      rintro e wy ⟨rfl, k⟩
      exact hK _ _ (Below.call hC k) k rfl
    refine RegSteps.cons ?_ ?_
    · intro _ az wz hC hF hD _ K hK
      obtain ⟨_, q59, rfl⟩ := dep hD 17 rfl rfl rfl rfl
      obtain ⟨_, qg, rfl⟩ := dep hD 14 rfl rfl rfl rfl
      clear hF hD
      refine want_yes rfl rfl rfl qg ?_
      go_simp
      exact hK _ _ hC (Below.refl _ _) rfl
    refine RegSteps.cons ?_ ?_
    · intro _ az wz hC hF hD _ K hK
      obtain ⟨_, q56, rfl⟩ := dep hD 14 rfl rfl rfl rfl
      obtain ⟨_, q60, rfl⟩ := dep hD 18 rfl rfl rfl rfl
      clear hF hD
      refine want_none rfl ?_
      go_simp
      exact hK _ _ hC (Below.refl _ _) rfl
    exact RegSteps.nil
  intro w8 hC8
  rintro _ rfl _ rfl _ rfl _ rfl _ rfl _ rfl _ rfl _ rfl _ rfl _ rfl _ rfl _ rfl _ rfl _ rfl _ rfl _ rfl _ rfl _ rfl _ rfl _ rfl
  simp only [FinOK, Act.put, List.setIfInBounds_toArray, List.set_cons_zero, List.set_cons_succ]
  have hP := hP.on hC8
  have hQ := hQ.on hC8
  have hOm := hOm.on hC8
  have hm := hm.on hC8
  clear hOn hn HRM HSm HC0
  go_wp2_with fail
  refine wp_region_specs w8 [Spec.eq (.agg #[.int .i64 X, .int .i64 Y, .int .i64 D]), sP p1 p2 p3 p4, Spec.eq (.agg #[.bool m.x.p.neg, .slice m.x.p.A m.x.p.n m.x.p.c, .bool m.x.l.neg, .slice m.x.l.A m.x.l.n m.x.l.c, .bool m.y.p.neg, .slice m.y.p.A m.y.p.n m.y.p.c, .bool m.y.l.neg, .slice m.y.l.A m.y.l.n m.y.l.c]), Spec.eq (.int .i64 c), Spec.eq (.int .i64 c)]
      (by kernel_rfl) (by kernel_rfl) rfl (by kernel_rfl) (Below.drew (Below.refl _ _)) ?_ ?_
  ·
    refine RegSteps.cons ?_ ?_
    · intro _ az wz hC hF hD _ K hK
      have q5 : az.tmps[5]? = some (.pointer (some ⟨w2.heap.size, 0, none⟩)) := hF 5 rfl
      obtain ⟨l0, l1, l2, _⟩ := (hP.on hC).all3
      clear hF hD
      refine want_none rfl ?_
      go_simp
      exact hK _ _ hC (Below.refl _ _) rfl
    refine RegSteps.cons ?_ ?_
    · intro _ az wz hC hF hD _ K hK
      obtain ⟨_, q62, rfl⟩ := dep hD 0 rfl rfl rfl rfl
      clear hF hD
      refine want_none rfl ?_
      go_simp
      refine (HRp.out _).mono ?_
      rintro e wy ⟨x, rfl, k, hx⟩
      exact hK _ _ (Below.call hC k) k ⟨x, rfl, hx⟩
    refine RegSteps.cons ?_ ?_
    · intro _ az wz hC hF hD _ K hK
      have q7 : az.tmps[7]? = some (.pointer (some ⟨gm, 0, none⟩)) := hF 7 rfl
      obtain ⟨l0, l1, l2, l3, l4, l5, l6, l7, _⟩ := (hOm.on hC).all8
      clear hF hD
      refine want_none rfl ?_
      go_simp
      exact hK _ _ hC (Below.refl _ _) rfl
    refine RegSteps.cons ?_ ?_
    · intro _ az wz hC hF hD _ K hK
      obtain ⟨_, q63, x63, rfl, hx63⟩ := dep hD 1 rfl rfl rfl rfl
      obtain ⟨_, q64, rfl⟩ := dep hD 2 rfl rfl rfl rfl
      clear hF hD
      refine want_none rfl ?_
      go_simp
      refine (HC1.out _ _ _ hx63 (hm.on hC)).mono ?_
      rintro e wy ⟨rfl, k⟩
      exact hK _ _ (Below.call hC k) k rfl
    refine RegSteps.cons ?_ ?_
    · intro _ az wz hC hF hD _ K hK
      obtain ⟨_, q65, rfl⟩ := dep hD 3 rfl rfl rfl rfl
      clear hF hD
      refine want_none rfl ?_
      go_simp
      exact hK _ _ hC (Below.refl _ _) rfl
    exact RegSteps.nil
  intro w9 hC9
  rintro _ rfl _ ⟨y63, rfl, _⟩ _ rfl _ rfl _ rfl
  simp only [FinOK, Act.put, List.setIfInBounds_toArray, List.set_cons_zero, List.set_cons_succ]
  have hP := hP.on hC9
  have hQ := hQ.on hC9
  have hOm := hOm.on hC9
  have hm := hm.on hC9
  go_wp2_with fail
  refine wp_region_specs w9 [Spec.eq (.int .i64 c), Spec.eq (.agg #[.bool m.x.p.neg, .slice m.x.p.A m.x.p.n m.x.p.c, .bool m.x.l.neg, .slice m.x.l.A m.x.l.n m.x.l.c, .bool m.y.p.neg, .slice m.y.p.A m.y.p.n m.y.p.c, .bool m.y.l.neg, .slice m.y.l.A m.y.l.n m.y.l.c]), Spec.eq (.agg #[.int .i64 X', .int .i64 Y', .int .i64 D']), sP q1 q2 q3 q4, Spec.eq (.int .i64 c), Spec.eq (.bool false), Spec.eq (.bool false), Spec.eq (.int .i64 c), Spec.eq (.agg #[.int .i64 X, .int .i64 Y, .int .i64 D]), sP p1 p2 p3 p4, Spec.eq (.agg #[.int .i64 X', .int .i64 Y', .int .i64 D']), sP q1 q2 q3 q4, Spec.eq (.int .i64 c), Spec.eq (.bool false), Spec.eq (.bool false)]
      (by kernel_rfl) (by kernel_rfl) rfl (by kernel_rfl) (Below.drew (Below.refl _ _)) ?_ ?_
  ·
    refine RegSteps.cons ?_ ?_
    · intro _ az wz hC hF hD _ K hK
      have q11 : az.tmps[11]? = some (.int .i64 c) := hF 11 rfl
      clear hF hD
      refine want_none rfl ?_
      go_simp
      exact hK _ _ hC (Below.refl _ _) rfl
    refine RegSteps.cons ?_ ?_
    · intro _ az wz hC hF hD _ K hK
      have q7 : az.tmps[7]? = some (.pointer (some ⟨gm, 0, none⟩)) := hF 7 rfl
      obtain ⟨l0, l1, l2, l3, l4, l5, l6, l7, _⟩ := (hOm.on hC).all8
      clear hF hD
      refine want_none rfl ?_
      go_simp
      exact hK _ _ hC (Below.refl _ _) rfl
    refine RegSteps.cons ?_ ?_
    · intro _ az wz hC hF hD _ K hK
      have q6 : az.tmps[6]? = some (.pointer (some ⟨w4.heap.size, 0, none⟩)) := hF 6 rfl
      obtain ⟨l0, l1, l2, _⟩ := (hQ.on hC).all3
      clear hF hD
      refine want_none rfl ?_
      go_simp
      exact hK _ _ hC (Below.refl _ _) rfl
    refine RegSteps.cons ?_ ?_
    · intro _ az wz hC hF hD _ K hK
      obtain ⟨_, q68, rfl⟩ := dep hD 2 rfl rfl rfl rfl
      clear hF hD
      refine want_none rfl ?_
      go_simp
      refine (HRq.out _).mono ?_
      rintro e wy ⟨x, rfl, k, hx⟩
      exact hK _ _ (Below.call hC k) k ⟨x, rfl, hx⟩
    refine RegSteps.cons ?_ ?_
    · intro _ az wz hC hF hD _ K hK
      obtain ⟨_, q67, rfl⟩ := dep hD 1 rfl rfl rfl rfl
      obtain ⟨_, q69, x69, rfl, hx69⟩ := dep hD 3 rfl rfl rfl rfl
      clear hF hD
      refine want_none rfl ?_
      go_simp
      refine (HC2.out _ _ _ (hm.on hC) hx69).mono ?_
      rintro e wy ⟨rfl, k⟩
      exact hK _ _ (Below.call hC k) k rfl
    refine RegSteps.cons ?_ ?_
    · intro _ az wz hC hF hD _ K hK
      obtain ⟨_, q66, rfl⟩ := dep hD 0 rfl rfl rfl rfl
      obtain ⟨_, q70, rfl⟩ := dep hD 4 rfl rfl rfl rfl
      clear hF hD
      refine want_none rfl ?_
      go_simp
      exact hK _ _ hC (Below.refl _ _) rfl
    refine RegSteps.cons ?_ ?_
    · intro _ az wz hC hF hD _ K hK
      obtain ⟨_, q71, rfl⟩ := dep hD 5 rfl rfl rfl rfl
      clear hF hD
      refine want_none rfl ?_
      go_simp
      exact hK _ _ hC (Below.refl _ _) rfl
    refine RegSteps.cons ?_ ?_
    · intro _ az wz hC hF hD _ K hK
      have q11 : az.tmps[11]? = some (.int .i64 c) := hF 11 rfl
      obtain ⟨_, qg, rfl⟩ := dep hD 6 rfl rfl rfl rfl
      clear hF hD
      refine want_yes rfl rfl rfl qg ?_
      go_simp
      exact hK _ _ hC (Below.refl _ _) rfl
    refine RegSteps.cons ?_ ?_
    · intro _ az wz hC hF hD _ K hK
      have q5 : az.tmps[5]? = some (.pointer (some ⟨w2.heap.size, 0, none⟩)) := hF 5 rfl
      obtain ⟨_, qg, rfl⟩ := dep hD 6 rfl rfl rfl rfl
      obtain ⟨l0, l1, l2, _⟩ := (hP.on hC).all3
      clear hF hD
      refine want_yes rfl rfl rfl qg ?_
      go_simp
      exact hK _ _ hC (Below.refl _ _) rfl
    refine RegSteps.cons ?_ ?_
    · intro _ az wz hC hF hD _ K hK
      obtain ⟨_, q74, rfl⟩ := dep hD 8 rfl rfl rfl rfl
      obtain ⟨_, qg, rfl⟩ := dep hD 6 rfl rfl rfl rfl
      clear hF hD
      refine want_yes rfl rfl rfl qg ?_
      go_simp
      refine (HRp.out _).mono ?_
      rintro e wy ⟨x, rfl, k, hx⟩
      exact hK _ _ (Below.call hC k) k ⟨x, rfl, hx⟩
    refine RegSteps.cons ?_ ?_
    · intro _ az wz hC hF hD _ K hK
      have q6 : az.tmps[6]? = some (.pointer (some ⟨w4.heap.size, 0, none⟩)) := hF 6 rfl
      obtain ⟨_, qg, rfl⟩ := dep hD 6 rfl rfl rfl rfl
      obtain ⟨l0, l1, l2, _⟩ := (hQ.on hC).all3
      clear hF hD
      refine want_yes rfl rfl rfl qg ?_
      go_simp
      exact hK _ _ hC (Below.refl _ _) rfl
    refine RegSteps.cons ?_ ?_
    · intro _ az wz hC hF hD _ K hK
      obtain ⟨_, q76, rfl⟩ := dep hD 10 rfl rfl rfl rfl
      obtain ⟨_, qg, rfl⟩ := dep hD 6 rfl rfl rfl rfl
      clear hF hD
      refine want_yes rfl rfl rfl qg ?_
      go_simp
      refine (HRq.out _).mono ?_
      rintro e wy ⟨x, rfl, k, hx⟩
      exact hK _ _ (Below.call hC k) k ⟨x, rfl, hx⟩
    refine RegSteps.cons ?_ ?_
    · intro _ az wz hC hF hD _ K hK
      obtain ⟨_, q75, x75, rfl, hx75⟩ := dep hD 9 rfl rfl rfl rfl
      obtain ⟨_, q77, x77, rfl, hx77⟩ := dep hD 11 rfl rfl rfl rfl
      obtain ⟨_, qg, rfl⟩ := dep hD 6 rfl rfl rfl rfl
      clear hF hD
      refine want_yes rfl rfl rfl qg ?_
      go_simp
      refine (HC3.out _ _ _ hx75 hx77).mono ?_
      rintro e wy ⟨rfl, k⟩
      exact hK _ _ (Below.call hC k) k rfl
    refine RegSteps.cons ?_ ?_
    · intro _ az wz hC hF hD _ K hK
      obtain ⟨_, q73, rfl⟩ := dep hD 7 rfl rfl rfl rfl
      obtain ⟨_, q78, rfl⟩ := dep hD 12 rfl rfl rfl rfl
      obtain ⟨_, qg, rfl⟩ := dep hD 6 rfl rfl rfl rfl
      clear hF hD
      refine want_yes rfl rfl rfl qg ?_
      go_simp
      exact hK _ _ hC (Below.refl _ _) rfl
    refine RegSteps.cons ?_ ?_
    · intro _ az wz hC hF hD _ K hK
      obtain ⟨_, q72, rfl⟩ := dep hD 6 rfl rfl rfl rfl
      obtain ⟨_, q79, rfl⟩ := dep hD 13 rfl rfl rfl rfl
      clear hF hD
      refine want_none rfl ?_
      go_simp
      exact hK _ _ hC (Below.refl _ _) rfl
    exact RegSteps.nil
  intro w10 hC10
  rintro _ rfl _ rfl _ rfl _ ⟨y69, rfl, _⟩ _ rfl _ rfl _ rfl _ rfl _ rfl _ ⟨y75, rfl, _⟩ _ rfl _ ⟨y77, rfl, _⟩ _ rfl _ rfl _ rfl
  simp only [FinOK, Act.put, List.setIfInBounds_toArray, List.set_cons_zero, List.set_cons_succ]
  have hOm := hOm.on hC10
  have hm := hm.on hC10
  have hB10 := Below.call (Below.call (Below.call hB7 hC8) hC9) hC10
  have ht10 := ht.on hB10
  clear hP hQ HRp HRq HC1 HC2 HC3
  have hW := Below.refl w10.heap.size w10
  obtain ⟨l0, l1, l2, l3, l4, l5, l6, l7⟩ := hOm.rules8
  go_wp2_with fail
  refine (HRd.out m _ hm).mono ?_
  rintro e w11 ⟨rfl, k11⟩
  go_upto_region 11 with fail
  refine wp_new1 fun wa hR ka => ?_
  go_wp2_with fail
  refine (HOh.out _).mono ?_
  rintro e w12 ⟨fh, rfl, k12, hfh⟩
  go_upto_region 12 with fail
  refine wp_new1 fun w13 hOh k13 => ?_
  clear l0 l1 l2 l3 l4 l5 l6 l7
  have j13 := Below.call (Below.call (Below.call k11 ka) k12) k13
  have hR := hR.on (Below.call k12 k13)
  have hOm := hOm.on j13
  have hm := hm.on j13
  have hfh := hfh.on k13
  have hB13 := Below.call hB10 j13
  refine wp_region_boxes w13 [Spec.eq (.agg #[.int .i64 N, .int .i64 M]), sP N 1 M 1, sF N 1, Spec.eq (.pointer (some ⟨gm, 0, none⟩)), Spec.eq (.agg #[.bool m.x.p.neg, .slice m.x.p.A m.x.p.n m.x.p.c, .bool m.x.l.neg, .slice m.x.l.A m.x.l.n m.x.l.c]), sFE x1 x2 0, sFE x1 x2 0, sF x1 x2, Spec.eq (.int .i64 0), Spec.any, Spec.any, Spec.eq (.int .i64 0)]
      [{ A := 9, j := 10, t := 16, T := 29, zs := [.bool false, .slice none 0 0, .bool false, .slice none 0 0], X := fun us w => ∃ x : FV, us = [.bool x.p.neg, .slice x.p.A x.p.n x.p.c, .bool x.l.neg, .slice x.l.A x.l.n x.l.c] ∧ x.is w x1 x2, up := fun ⟨x, e, hx⟩ k => ⟨x, e, hx.keeps k⟩ }]
      (by kernel_rfl) (by kernel_rfl) rfl (by kernel_rfl) rfl (Below.drew (Below.refl _ _)) ?_ ?_ ⟨rfl, rfl, trivial⟩ ?_
  ·
    refine RegSteps.cons ?_ ?_
    · intro _ az wz hC hF hD _ K hK
      have q12 : az.tmps[12]? = some (.pointer (some ⟨w11.heap.size, 0, none⟩)) := hF 12 rfl
      obtain ⟨l0, l1, _⟩ := (hR.on hC).all2
      clear hF hD
      refine want_none rfl ?_
      go_simp
      exact hK _ _ hC (Below.refl _ _) rfl
    refine RegSteps.cons ?_ ?_
    · intro _ az wz hC hF hD _ K hK
      obtain ⟨_, q91, rfl⟩ := dep hD 0 rfl rfl rfl rfl
      clear hF hD
      refine want_none rfl ?_
      go_simp
      refine (HOf.out _).mono ?_
      rintro e wy ⟨x, rfl, k, hx⟩
      exact hK _ _ (Below.call hC k) k ⟨x, rfl, hx⟩
    refine RegSteps.cons ?_ ?_
    · intro _ az wz hC hF hD _ K hK
      obtain ⟨_, q92, x92, rfl, hx92⟩ := dep hD 1 rfl rfl rfl rfl
      clear hF hD
      refine want_none rfl ?_
      go_simp
      exact hK _ _ hC (Below.refl _ _) ⟨x92.x, rfl, hx92.x⟩
    refine RegSteps.cons ?_ ?_
    · intro _ az wz hC hF hD _ K hK
      have q7 : az.tmps[7]? = some (.pointer (some ⟨gm, 0, none⟩)) := hF 7 rfl
      clear hF hD
      refine want_none rfl ?_
      go_simp
      exact hK _ _ hC (Below.refl _ _) rfl
    refine RegSteps.cons ?_ ?_
    · intro _ az wz hC hF hD _ K hK
      obtain ⟨_, q94, rfl⟩ := dep hD 3 rfl rfl rfl rfl
      obtain ⟨l0, l1, l2, l3, l4, l5, l6, l7, _⟩ := (hOm.on hC).all8
      clear hF hD
      refine want_none rfl ?_
      go_simp
      exact hK _ _ hC (Below.refl _ _) rfl
    refine RegSteps.cons ?_ ?_
    · intro _ az wz hC hF hD _ K hK
      obtain ⟨_, q93, x93, rfl, hx93⟩ := dep hD 2 rfl rfl rfl rfl
      obtain ⟨_, q95, rfl⟩ := dep hD 4 rfl rfl rfl rfl
      clear hF hD
      refine want_none rfl ?_
      go_simp
      refine (HSx.out _ _ _ hx93 (hm.x.on hC)).mono ?_
      rintro e wy ⟨x, rfl, k, hx⟩
      exact hK _ _ (Below.call hC k) k ⟨x, rfl, hx⟩
    refine RegSteps.cons ?_ ?_
    · intro _ az wz hC hF hD _ K hK
      obtain ⟨_, q96, x96, rfl, hx96⟩ := dep hD 5 rfl rfl rfl rfl
      clear hF hD
      refine want_none rfl ?_
      go_simp
      exact hK _ _ hC (Below.refl _ _) ⟨x96, rfl, hx96⟩
    refine RegSteps.cons ?_ ?_
    · intro _ az wz hC hF hD _ K hK
      obtain ⟨_, q90, x90, rfl, hx90⟩ := dep hD 6 rfl rfl rfl rfl
      clear hF hD
      refine want_none rfl ?_
      go_simp
      exact hK _ _ hC (Below.refl _ _) ⟨x90, rfl, hx90⟩
    refine RegSteps.cons ?_ ?_
    · intro _ az wz hC hF hD _ K hK
      obtain ⟨_, q90, x90, rfl, hx90⟩ := dep hD 6 rfl rfl rfl rfl
      clear hF hD
      refine want_none rfl ?_
      go_simp
      exact hK _ _ hC (Below.refl _ _) rfl
    refine RegSteps.cons ?_ ?_
    · exact fun h => by cases h
    refine RegSteps.cons ?_ ?_
    · exact fun h => by cases h
    refine RegSteps.cons ?_ ?_
    · intro _ az wz hC hF hD _ K hK
      obtain ⟨_, q98, rfl⟩ := dep hD 8 rfl rfl rfl rfl
      clear hF hD
      refine want_none rfl ?_
      go_simp
      exact hK _ _ hC (Below.refl _ _) rfl
    exact RegSteps.nil
  · refine ⟨?_, trivial⟩
    · refine ⟨⟨_, rfl, rfl, rfl, fun az wz K hK => by go_simp; exact hK⟩, ⟨_, rfl, rfl, rfl, ?_⟩, by simp [Word], by simp⟩
      intro az wz gz cs hC hF hD hA K hK
      obtain ⟨p1, p2, p3, p4, p5⟩ := hA
      obtain ⟨_, q97, x, rfl, hx⟩ := dep hD 7 rfl rfl rfl rfl
      obtain ⟨c0, c1, c2, c3, rfl⟩ := list_4 (l := cs) p4
      have z0 := p3.c0
      have z1 := p3.c1
      have z2 := p3.c2
      have z3 := p3.c3
      have f0 := p3.frozen 0
      have f1 := p3.frozen 1
      have f2 := p3.frozen 2
      have f3 := p3.frozen 3
      clear hF hD p3 p5
      refine want_none rfl ?_
      go_simp
      exact hK [.bool x.p.neg, .slice x.p.A x.p.n x.p.c, .bool x.l.neg, .slice x.l.A x.l.n x.l.c] rfl (by simp [Word]) ⟨x, rfl, hx⟩
  intro w14 gs hC14 hgl hbf
  obtain ⟨gx, rfl⟩ := list_1 hgl
  obtain ⟨⟨hg0, us0, hOb0, ⟨fx, rfl, hfx⟩⟩, _⟩ := hbf
  rintro _ rfl _ ⟨y92, rfl, _⟩ _ ⟨y93, rfl, _⟩ _ rfl _ rfl _ ⟨y96, rfl, _⟩ _ ⟨y90, rfl, _⟩ _ ⟨y97, rfl, _⟩ _ rfl _ rfl _ _ _ rfl
  simp only [FinOK, Act.put, List.setIfInBounds_toArray, List.set_cons_zero, List.set_cons_succ]
  have hOx := hOb0
  clear hOb0
  have hR := hR.on hC14
  have hOm := hOm.on hC14
  have hm := hm.on hC14
  go_wp2_with fail
  refine wp_region_boxes w14 [Spec.eq (.agg #[.int .i64 N, .int .i64 M]), sP N 1 M 1, sF M 1, Spec.eq (.pointer (some ⟨gm, 4, none⟩)), Spec.eq (.agg #[.bool m.y.p.neg, .slice m.y.p.A m.y.p.n m.y.p.c, .bool m.y.l.neg, .slice m.y.l.A m.y.l.n m.y.l.c]), sFE y1 y2 0, sFE y1 y2 0, sF y1 y2, Spec.eq (.int .i64 0), Spec.any, Spec.any, Spec.eq (.int .i64 0)]
      [{ A := 9, j := 10, t := 18, T := 29, zs := [.bool false, .slice none 0 0, .bool false, .slice none 0 0], X := fun us w => ∃ x : FV, us = [.bool x.p.neg, .slice x.p.A x.p.n x.p.c, .bool x.l.neg, .slice x.l.A x.l.n x.l.c] ∧ x.is w y1 y2, up := fun ⟨x, e, hx⟩ k => ⟨x, e, hx.keeps k⟩ }]
      (by kernel_rfl) (by kernel_rfl) rfl (by kernel_rfl) rfl (Below.drew (Below.refl _ _)) ?_ ?_ ⟨rfl, rfl, trivial⟩ ?_
  ·
    refine RegSteps.cons ?_ ?_
    · intro _ az wz hC hF hD _ K hK
      have q12 : az.tmps[12]? = some (.pointer (some ⟨w11.heap.size, 0, none⟩)) := hF 12 rfl
      obtain ⟨l0, l1, _⟩ := (hR.on hC).all2
      clear hF hD
      refine want_none rfl ?_
      go_simp
      exact hK _ _ hC (Below.refl _ _) rfl
    refine RegSteps.cons ?_ ?_
    · intro _ az wz hC hF hD _ K hK
      obtain ⟨_, q100, rfl⟩ := dep hD 0 rfl rfl rfl rfl
      clear hF hD
      refine want_none rfl ?_
      go_simp
      refine (HOf.out _).mono ?_
      rintro e wy ⟨x, rfl, k, hx⟩
      exact hK _ _ (Below.call hC k) k ⟨x, rfl, hx⟩
    refine RegSteps.cons ?_ ?_
    · intro _ az wz hC hF hD _ K hK
      obtain ⟨_, q101, x101, rfl, hx101⟩ := dep hD 1 rfl rfl rfl rfl
      clear hF hD
      refine want_none rfl ?_
      go_simp
      exact hK _ _ hC (Below.refl _ _) ⟨x101.y, rfl, hx101.y⟩
    refine RegSteps.cons ?_ ?_
    · intro _ az wz hC hF hD _ K hK
      have q7 : az.tmps[7]? = some (.pointer (some ⟨gm, 0, none⟩)) := hF 7 rfl
      clear hF hD
      refine want_none rfl ?_
      go_simp
      exact hK _ _ hC (Below.refl _ _) rfl
    refine RegSteps.cons ?_ ?_
    · intro _ az wz hC hF hD _ K hK
      obtain ⟨_, q103, rfl⟩ := dep hD 3 rfl rfl rfl rfl
      obtain ⟨l0, l1, l2, l3, l4, l5, l6, l7, _⟩ := (hOm.on hC).all8
      clear hF hD
      refine want_none rfl ?_
      go_simp
      exact hK _ _ hC (Below.refl _ _) rfl
    refine RegSteps.cons ?_ ?_
    · intro _ az wz hC hF hD _ K hK
      obtain ⟨_, q102, x102, rfl, hx102⟩ := dep hD 2 rfl rfl rfl rfl
      obtain ⟨_, q104, rfl⟩ := dep hD 4 rfl rfl rfl rfl
      clear hF hD
      refine want_none rfl ?_
      go_simp
      refine (HSy.out _ _ _ hx102 (hm.y.on hC)).mono ?_
      rintro e wy ⟨x, rfl, k, hx⟩
      exact hK _ _ (Below.call hC k) k ⟨x, rfl, hx⟩
    refine RegSteps.cons ?_ ?_
    · intro _ az wz hC hF hD _ K hK
      obtain ⟨_, q105, x105, rfl, hx105⟩ := dep hD 5 rfl rfl rfl rfl
      clear hF hD
      refine want_none rfl ?_
      go_simp
      exact hK _ _ hC (Below.refl _ _) ⟨x105, rfl, hx105⟩
    refine RegSteps.cons ?_ ?_
    · intro _ az wz hC hF hD _ K hK
      obtain ⟨_, q99, x99, rfl, hx99⟩ := dep hD 6 rfl rfl rfl rfl
      clear hF hD
      refine want_none rfl ?_
      go_simp
      exact hK _ _ hC (Below.refl _ _) ⟨x99, rfl, hx99⟩
    refine RegSteps.cons ?_ ?_
    · intro _ az wz hC hF hD _ K hK
      obtain ⟨_, q99, x99, rfl, hx99⟩ := dep hD 6 rfl rfl rfl rfl
      clear hF hD
      refine want_none rfl ?_
      go_simp
      exact hK _ _ hC (Below.refl _ _) rfl
    refine RegSteps.cons ?_ ?_
    · exact fun h => by cases h
    refine RegSteps.cons ?_ ?_
    · exact fun h => by cases h
    refine RegSteps.cons ?_ ?_
    · intro _ az wz hC hF hD _ K hK
      obtain ⟨_, q107, rfl⟩ := dep hD 8 rfl rfl rfl rfl
      clear hF hD
      refine want_none rfl ?_
      go_simp
      exact hK _ _ hC (Below.refl _ _) rfl
    exact RegSteps.nil
  · refine ⟨?_, trivial⟩
    · refine ⟨⟨_, rfl, rfl, rfl, fun az wz K hK => by go_simp; exact hK⟩, ⟨_, rfl, rfl, rfl, ?_⟩, by simp [Word], by simp⟩
      intro az wz gz cs hC hF hD hA K hK
      obtain ⟨p1, p2, p3, p4, p5⟩ := hA
      obtain ⟨_, q106, x, rfl, hx⟩ := dep hD 7 rfl rfl rfl rfl
      obtain ⟨c0, c1, c2, c3, rfl⟩ := list_4 (l := cs) p4
      have z0 := p3.c0
      have z1 := p3.c1
      have z2 := p3.c2
      have z3 := p3.c3
      have f0 := p3.frozen 0
      have f1 := p3.frozen 1
      have f2 := p3.frozen 2
      have f3 := p3.frozen 3
      clear hF hD p3 p5
      refine want_none rfl ?_
      go_simp
      exact hK [.bool x.p.neg, .slice x.p.A x.p.n x.p.c, .bool x.l.neg, .slice x.l.A x.l.n x.l.c] rfl (by simp [Word]) ⟨x, rfl, hx⟩
  intro w15 gs hC15 hgl hbf
  obtain ⟨gy, rfl⟩ := list_1 hgl
  obtain ⟨⟨hg0, us0, hOb0, ⟨fy, rfl, hfy⟩⟩, _⟩ := hbf
  rintro _ rfl _ ⟨y101, rfl, _⟩ _ ⟨y102, rfl, _⟩ _ rfl _ rfl _ ⟨y105, rfl, _⟩ _ ⟨y99, rfl, _⟩ _ ⟨y106, rfl, _⟩ _ rfl _ rfl _ _ _ rfl
  simp only [FinOK, Act.put, List.setIfInBounds_toArray, List.set_cons_zero, List.set_cons_succ]
  have hOy := hOb0
  clear hOb0
  have hOx := hOx.on hC15
  have hfx := hfx.on hC15
  have hOh := hOh.on (Below.call hC14 hC15)
  have hfh := hfh.on (Below.call hC14 hC15)
  have hB15 := Below.call (Below.call hB13 hC14) hC15
  clear hOm hm hR
  go_wp2_with fail
  refine (HOl.out _).mono ?_
  rintro e w16 ⟨fl, rfl, k16, hfl⟩
  go_upto_region 15 with fail
  refine wp_new1 fun w17 hOl k17 => ?_
  have j17 := Below.call k16 k17
  have hOx := hOx.on j17
  have hfx := hfx.on j17
  have hOy := hOy.on j17
  have hfy := hfy.on j17
  have hOh := hOh.on j17
  have hfh := hfh.on j17
  have hfl := hfl.on k17
  have hB17 := Below.call hB15 j17
  have ht17 := ht.on hB17
  obtain ⟨x0, x1', x2', x3⟩ := hOx.rules4
  obtain ⟨y0, y1', y2', y3⟩ := hOy.rules4
  obtain ⟨l0, l1, l2, l3⟩ := hOl.rules4
  obtain ⟨t0, t1, t2, t3⟩ := hOh.rules4
  have hW := Below.refl w17.heap.size w17
  clear hOx hOy hOl hOh
  go_wp2_with fail
  refine (HH1.out _ _ _ hfx hfh).mono ?_
  rintro e w18 ⟨rfl, k18⟩
  go_wp2_with fail
  refine (HH2.out _ _ _ (hfy.on k18) (hfh.on k18)).mono ?_
  rintro e w19 ⟨rfl, k19⟩
  have k19 := Below.call k18 k19
  go_wp2_with fail
  refine (HH3.out _ _ _ (hfx.on k19) (hfl.on k19)).mono ?_
  rintro e w20 ⟨rfl, k20⟩
  have k20 := Below.call k19 k20
  go_wp2_with fail
  refine (HH4.out _ _ _ (hfy.on k20) (hfl.on k20)).mono ?_
  rintro e w21 ⟨rfl, k21⟩
  have k21 := Below.call k20 k21
  go_wp2_with fail
  refine (lives_any _ (ht17.on k21)).mono ?_
  rintro e w22 ⟨rfl, k22⟩
  have hB22 := Below.call hB17 (Below.call k21 k22)
  go_wp2
  go_returns
  exact ⟨rfl, hB22⟩
end Go.Proofs.YthcpaagfgkbjaaaDoor
