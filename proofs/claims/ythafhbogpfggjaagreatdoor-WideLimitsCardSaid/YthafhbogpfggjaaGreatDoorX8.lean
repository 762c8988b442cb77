/-
  The law WideLimits: the walk.
-/
import Derived.Test.YthafhbogpfggjaaGreatDoorX9
import Derived.Test.YthafhbogpfggjaaGreatDoorE13
import Derived.Test.YthafhbogpfggjaaGreatDoorT3
namespace Go.Proofs.YthafhbogpfggjaaGreatDoor
open Go.RowKit Mag

theorem pow_32 (n : Nat) : 4294967296 ^ n = 2 ^ (32 * n) := by rw [Nat.pow_mul]
theorem top_two (k : Nat) (hk : 32 * topW = k) : top = 2 ^ k := by rw [top_eq, pow_32, hk]
theorem near_sm {e j : Nat} {k z : Int} (he : e ≤ 13 * j) (hz : z = ((2 ^ e : Nat) : Int) + k ∨ z = -(((2 ^ e : Nat) : Int) + k)) (h0 : -4 ≤ k) (h1 : k ≤ 4) : Sm (j + 2) z := by
  have h2 := two_lt (b := 13 * (j + 1)) (j := j + 1) (Nat.le_refl _)
  have h3 : (2 : Nat) ^ (13 * (j + 1)) = 2 ^ (13 * j) * 8192 := by rw [show 13 * (j + 1) = 13 * j + 13 by omega, Nat.pow_add]
  have h4 : (2 : Nat) ^ e ≤ 2 ^ (13 * j) := Nat.pow_le_pow_right (by omega) he
  have h5 : 1 ≤ (2 : Nat) ^ (13 * j) := Nat.one_le_two_pow
  rw [h3] at h2
  unfold Sm
  have h6 : j + 1 + 1 = j + 2 := rfl
  rw [h6] at h2
  generalize (2 : Nat) ^ e = P at *
  generalize (2 : Nat) ^ (13 * j) = Q at *
  generalize 10000 ^ (j + 2) = R at *
  omega
theorem Near_a (n : Int) (hn : in64 n) (w : World) : Calls Tryz.prog 40 #[.int .i64 n] w (fun e w' => ∃ z : Int, Sm 1263 z ∧ RetN w z e w') :=
  (rNear_any n hn w).mono fun _ _ ⟨z, hz, h⟩ => ⟨z, by
    obtain ⟨d0, d1⟩ := around_bd n (m := 28) (by omega)
    have he : nearE (around n 28 % 4).toNat ≤ 13 * 1261 := by unfold nearE; split <;> omega
    exact near_sm he hz (by omega) (by omega), h⟩
theorem Near_c (m : Int) (h0 : 0 ≤ m) (h1 : m < 7) (w : World) : Calls Tryz.prog 40 #[.int .i64 (4 * m + 2)] w (fun e w' => ∃ z : Int, Sm 633 z ∧ RetN w z e w') :=
  (rNear_any (4 * m + 2) (by unfold in64; omega) w).mono fun _ _ ⟨z, hz, h⟩ => ⟨z, by
    have har : around (4 * m + 2) 28 = 4 * m + 2 := by rw [around_pos (by omega)]; omega
    rw [har] at hz
    have he : nearE ((4 * m + 2) % 4).toNat = 8192 := by rw [show (4 * m + 2) % 4 = 2 by omega]; rfl
    unfold nearV at hz
    rw [he] at hz
    exact near_sm (j := 631) (by omega) hz (by omega) (by omega), h⟩
theorem sign_zero_ {x : IV} {w : World} {a : Int} (hx : x.is w a) (h : a = 0) : Calls Tryz.prog 55 #[.agg #[.bool x.neg, .slice x.A x.n x.c]] w (RetInt w 0) := by
  have := sign_iv hx
  rwa [cmpI_eq h] at this
theorem num_text (z : Int) : Txt.num top (Lib.itoa z) = (clip z, lim z) := by
  by_cases h : z.natAbs < top
  · rw [Txt.num_itoa h (itoa_5000 h), clip_in h, lim_in h]
  · rw [Txt.num_itoa_big (by omega), clip_out h, lim_out h]
theorem len_sm {k : Nat} {z : Int} (hk : 0 < k) (h : Sm k z) : (Lib.itoa z).length ≤ 4 * k + 1 := by
  refine Txt.itoa_len (by omega) ?_
  unfold Sm at h
  rwa [show (10000 : Nat) = 10 ^ 4 from rfl, ← Nat.pow_mul] at h
/-- What both Parse make of an integer's text. -/
theorem wParse_text {z : Int} {s : ByteArray} (hs : s.data.toList = Lib.itoa z) (hl : (Lib.itoa z).length ≤ 140737488355328) (w : World) : Calls Tryz.prog 32 #[.string s] w (IntE w (clip z) (lim z)) := by
  have := wParse_any s (by rw [str_size hs]; exact hl) w
  rw [hs, num_text] at this
  dsimp only at this
  exact this
theorem rParse_text {z : Int} {s : ByteArray} (hs : s.data.toList = Lib.itoa z) (hl : (Lib.itoa z).length ≤ 140737488355328) (w : World) : Calls Tryz.prog 33 #[.string s] w (RetNE w (clip z) (lim z)) := by
  have := rParse_any s (by rw [str_size hs]; exact hl) w
  rw [hs, ← top_two 16384 (by rw [topW_eq]), num_text] at this
  dsimp only at this
  exact this
/-- A slot that holds four N's. -/
def N4 (w : World) (g : Nat) (a b c d : Int) : Prop := ∃ x y z u : IV, Own w g 44 [.bool x.neg, .slice x.A x.n x.c, .bool y.neg, .slice y.A y.n y.c, .bool z.neg, .slice z.A z.n z.c, .bool u.neg, .slice u.A u.n u.c] ∧ NI x w a ∧ NI y w b ∧ NI z w c ∧ NI u w d
theorem N4.on {w w' : World} {g : Nat} {a b c d : Int} (h : N4 w g a b c d) (hb : Below w.heap.size w w') : N4 w' g a b c d := by
  obtain ⟨x, y, z, u, o, h1, h2, h3, h4⟩ := h
  exact ⟨x, y, z, u, o.on hb, h1.on hb, h2.on hb, h3.on hb, h4.on hb⟩
def sN4 (a b c d : Int) : Spec Bel := ⟨fun v w => ∃ g, v = .slice (some ⟨g, 0, none⟩) 4 4 ∧ N4 w g a b c d, fun ⟨g, e, h⟩ k => ⟨g, e, h.on k⟩⟩
theorem N4.mk {w : World} {x y z u : IV} {a b c d : Int} (h1 : NI x w a) (h2 : NI y w b) (h3 : NI z w c) (h4 : NI u w d) :
    N4 (w.alloc (.cells #[.bool x.neg, .slice x.A x.n x.c, .bool y.neg, .slice y.A y.n y.c, .bool z.neg, .slice z.A z.n z.c, .bool u.neg, .slice u.A u.n u.c] 44)) w.heap.size a b c d := by
  have hb := below_new w (.cells #[.bool x.neg, .slice x.A x.n x.c, .bool y.neg, .slice y.A y.n y.c, .bool z.neg, .slice z.A z.n z.c, .bool u.neg, .slice u.A u.n u.c] 44)
  exact ⟨x, y, z, u, Own.new w _ [.bool x.neg, .slice x.A x.n x.c, .bool y.neg, .slice y.A y.n y.c, .bool z.neg, .slice z.A z.n z.c, .bool u.neg, .slice u.A u.n u.c], h1.on hb, h2.on hb, h3.on hb, h4.on hb⟩
/-- What stands at a place of the three lists. -/
structure LimAt (w : World) (gg ge gw i : Nat) (g x : IV) (v : Int) : Prop where
  gi : g.is w (clip v)
  g0 : w.cell? ⟨gg, i * 2, none⟩ = some (.bool g.neg)
  g1 : w.cell? ⟨gg, i * 2 + 1, none⟩ = some (.slice g.A g.n g.c)
  e0 : w.cell? ⟨ge, i, none⟩ = some (.int .i64 (lim v))
  ni : NI x w v
  c0 : w.cell? ⟨gw, i * 2, none⟩ = some (.bool x.neg)
  c1 : w.cell? ⟨gw, i * 2 + 1, none⟩ = some (.slice x.A x.n x.c)
  lg : gg < w.heap.size
  le : ge < w.heap.size
  lw : gw < w.heap.size
theorem LimAt.on {w w' : World} {gg ge gw i : Nat} {g x : IV} {v : Int} (h : LimAt w gg ge gw i g x v) (hb : Below w.heap.size w w') : LimAt w' gg ge gw i g x v :=
  ⟨h.gi.on hb, (hb.cell (p := ⟨gg, i * 2, none⟩) h.lg).trans h.g0, (hb.cell (p := ⟨gg, i * 2 + 1, none⟩) h.lg).trans h.g1, (hb.cell (p := ⟨ge, i, none⟩) h.le).trans h.e0, h.ni.on hb,
    (hb.cell (p := ⟨gw, i * 2, none⟩) h.lw).trans h.c0, (hb.cell (p := ⟨gw, i * 2 + 1, none⟩) h.lw).trans h.c1, Nat.lt_of_lt_of_le h.lg hb.size, Nat.lt_of_lt_of_le h.le hb.size, Nat.lt_of_lt_of_le h.lw hb.size⟩
def LimList (w : World) (gg ge gw : Nat) : Prop := ∀ i, i < 4 → ∃ g x v, LimAt w gg ge gw i g x v
theorem LimList.on {w w' : World} {gg ge gw : Nat} (h : LimList w gg ge gw) (hb : Below w.heap.size w w') : LimList w' gg ge gw := fun i hi => by
  obtain ⟨g, x, v, hx⟩ := h i hi
  exact ⟨g, x, v, hx.on hb⟩
theorem LimList.mk {w : World} {gg ge gw : Nat} {t1 t2 : TypeId} {s t p r : IV} {a b c d : Int} (hg : Own w gg t1 [.bool s.neg, .slice s.A s.n s.c, .bool t.neg, .slice t.A t.n t.c, .bool p.neg, .slice p.A p.n p.c, .bool r.neg, .slice r.A r.n r.c]) (he : Own w ge t2 [.int .i64 (lim a), .int .i64 (lim b), .int .i64 (lim c), .int .i64 (lim d)]) (hw : N4 w gw a b c d)
    (h1 : s.is w (clip a)) (h2 : t.is w (clip b)) (h3 : p.is w (clip c)) (h4 : r.is w (clip d)) : LimList w gg ge gw := fun i hi => by
  obtain ⟨x, y, z, u, o, n1, n2, n3, n4⟩ := hw
  match i, hi with
  | 0, _ => exact ⟨s, x, a, h1, hg.cell 0, hg.cell 1, he.cell 0, n1, o.cell 0, o.cell 1, hg.lt, he.lt, o.lt⟩
  | 1, _ => exact ⟨t, y, b, h2, hg.cell 2, hg.cell 3, he.cell 1, n2, o.cell 2, o.cell 3, hg.lt, he.lt, o.lt⟩
  | 2, _ => exact ⟨p, z, c, h3, hg.cell 4, hg.cell 5, he.cell 2, n3, o.cell 4, o.cell 5, hg.lt, he.lt, o.lt⟩
  | 3, _ => exact ⟨r, u, d, h4, hg.cell 6, hg.cell 7, he.cell 3, n4, o.cell 6, o.cell 7, hg.lt, he.lt, o.lt⟩
set_option maxRecDepth 100000 in
set_option maxHeartbeats 6400000 in
theorem WideLimits_any {w : World} (n m k : Int) (hn : in64 n) (hm : in64 m) (hk : in64 k) (ht0 : Tab w) : Calls Tryz.prog 12 #[.int .i64 n, .int .i64 m, .int .i64 k] w (RetBool w true) := by
  have b1 := Below.refl w.heap.size w
  go_enter Tryz.func12, Tryz.ntmps12
  have hW := Below.refl w.heap.size w
  go_wp2_with fail
  refine (Near_a n hn _).mono ?_
  rintro e w1 ⟨X, bX,u, rfl, k_, hu⟩
  clear hW 
  go_upto_region 2 with fail
  refine wp_new1 fun w2 hU k2_ => ?_
  have kk_ := Below.call k_ k2_
  replace hu := hu.on k2_
  replace b1 := Below.call b1 kk_
  clear k_ k2_ kk_
  obtain ⟨B, hBe⟩ : ∃ B, B = around k 7 - 3 := ⟨_, rfl⟩
  have hB3 : -3 ≤ B ∧ B ≤ 3 := by
    obtain ⟨d0, d1⟩ := around_bd k (m := 7) (by omega)
    omega
  have HBd : Hid (∀ w, Calls Tryz.prog 51 #[.int .i64 k, .int .i64 3] w (RetInt w B)) := Lib.hid fun w => by
    rw [hBe]
    exact Bound_any k 3 w hk.1 hk.2 (by omega) (by omega)
  clear hBe
  go_wp2_with fail
  refine (HBd.out _).mono ?_
  rintro e w3 ⟨rfl, k1⟩
  replace b1 := Below.call b1 k1
  replace hu := hu.on k1
  replace hU := hU.on k1
  clear k1
  have hW := Below.refl w3.heap.size w3
  go_wp2_with fail
  refine (rOf_any B _ (by omega) (by omega)).mono ?_
  rintro e w4 ⟨v, rfl, k_, hv⟩
  clear hW 
  go_upto_region 3 with fail
  refine wp_new1 fun w5 hV k2_ => ?_
  have kk_ := Below.call k_ k2_
  replace hU := hU.on kk_
  replace hu := hu.on kk_
  replace hv := hv.on k2_
  replace b1 := Below.call b1 kk_
  clear k_ k2_ kk_
  obtain ⟨r, hr⟩ : ∃ r, r = around m 7 := ⟨_, rfl⟩
  have hr7 : 0 ≤ r ∧ r < 7 := by rw [hr]; exact around_bd m (by omega)
  have HAr : Hid (∀ w, Calls Tryz.prog 30 #[.int .i64 m, .int .i64 7] w (RetInt w r)) := Lib.hid fun w => by
    rw [hr]
    exact Around_any m 7 w hm.1 hm.2 (by omega) (by omega)
  clear hr
  go_wp2_with fail
  refine (HAr.out _).mono ?_
  rintro e w6 ⟨rfl, k1⟩
  replace b1 := Below.call b1 k1
  replace hu := hu.on k1
  replace hU := hU.on k1
  replace hv := hv.on k1
  replace hV := hV.on k1
  clear k1
  have hW := Below.refl w6.heap.size w6
  go_wp2_with fail
  refine (Near_c r hr7.1 hr7.2 _).mono ?_
  rintro e w7 ⟨Z, bZ,z, rfl, k_, hz⟩
  clear hW 
  go_upto_region 4 with fail
  refine wp_new1 fun w8 hZ k2_ => ?_
  have kk_ := Below.call k_ k2_
  replace hU := hU.on kk_
  replace hu := hu.on kk_
  replace hV := hV.on kk_
  replace hv := hv.on kk_
  replace hz := hz.on k2_
  replace b1 := Below.call b1 kk_
  clear k_ k2_ kk_
  have hnu := bX.len hu
  have hnv := NI.len hv (k := 1) (by omega)
  have hnz := bZ.len hz
  obtain ⟨st, hst⟩ : ∃ s : ByteArray, s = ⟨(Lib.itoa X).toArray⟩ := ⟨_, rfl⟩
  have hsd : st.data.toList = Lib.itoa X := by rw [hst]
  have hsl : (Lib.itoa X).length ≤ 140737488355328 := Nat.le_trans (len_sm (by omega) bX) (by omega)
  have HTX := Lib.hid (show ∀ w : World, NI u w X → Calls Tryz.prog 28 #[.agg #[.bool u.neg, .slice u.A u.n u.c]] w (fun e w' => e = .returned (.string st) ∧ Below w.heap.size w w') from fun _ h => by rw [hst]; exact rText_any h)
  have HWP := Lib.hid (wParse_text hsd hsl)
  have HRP := Lib.hid (rParse_text hsd hsl)
  clear hst hsd hsl HBd HAr
  obtain ⟨u0, u1⟩ := hU.rules2
  have hW := Below.refl w8.heap.size w8
  go_wp2_with fail
  refine (HTX.out _ hu).mono ?_
  rintro e w9 ⟨rfl, k1⟩
  clear u0 u1 hW
  replace b1 := Below.call b1 k1
  replace hu := hu.on k1
  replace hU := hU.on k1
  replace hv := hv.on k1
  replace hV := hV.on k1
  replace hz := hz.on k1
  replace hZ := hZ.on k1
  clear k1
  have hW := Below.refl w9.heap.size w9
  go_wp2_with fail
  refine (HWP.out _).mono ?_
  rintro e w10 ⟨x, rfl, k_, hx⟩
  clear hW 
  go_upto_region 5 with fail
  refine wp_new1 fun w11 hX k2_ => ?_
  have kk_ := Below.call k_ k2_
  replace hU := hU.on kk_
  replace hu := hu.on kk_
  replace hV := hV.on kk_
  replace hv := hv.on kk_
  replace hZ := hZ.on kk_
  replace hz := hz.on kk_
  replace hx := hx.on k2_
  replace b1 := Below.call b1 kk_
  clear k_ k2_ kk_
  obtain ⟨u0, u1⟩ := hU.rules2
  have hW := Below.refl w11.heap.size w11
  go_wp2_with fail
  refine (HTX.out _ hu).mono ?_
  rintro e w12 ⟨rfl, k1⟩
  clear u0 u1 hW
  replace b1 := Below.call b1 k1
  replace hu := hu.on k1
  replace hU := hU.on k1
  replace hv := hv.on k1
  replace hV := hV.on k1
  replace hz := hz.on k1
  replace hZ := hZ.on k1
  replace hx := hx.on k1
  replace hX := hX.on k1
  clear k1
  have hW := Below.refl w12.heap.size w12
  go_wp2_with fail
  refine (HRP.out _).mono ?_
  rintro e w13 ⟨f, rfl, k_, hf⟩
  clear hW 
  go_upto_region 6 with fail
  refine wp_new1 fun w14 hF k2_ => ?_
  have kk_ := Below.call k_ k2_
  replace hU := hU.on kk_
  replace hu := hu.on kk_
  replace hV := hV.on kk_
  replace hv := hv.on kk_
  replace hZ := hZ.on kk_
  replace hz := hz.on kk_
  replace hX := hX.on kk_
  replace hx := hx.on kk_
  replace hf := hf.on k2_
  replace b1 := Below.call b1 kk_
  clear k_ k2_ kk_
  clear hF hf
  obtain ⟨v0, v1⟩ := hV.rules2
  have hW := Below.refl w14.heap.size w14
  go_wp2_with fail
  refine (wider_any hv (Sm.top (k := 5) (Sm.small (by unfold in64; omega)) (by omega))).mono ?_
  rintro e w15 ⟨y, rfl, k_, hy⟩
  clear hW v0 v1
  go_upto_region 7 with fail
  refine wp_new1 fun w16 hY k2_ => ?_
  have kk_ := Below.call k_ k2_
  replace hU := hU.on kk_
  replace hu := hu.on kk_
  replace hV := hV.on kk_
  replace hv := hv.on kk_
  replace hZ := hZ.on kk_
  replace hz := hz.on kk_
  replace hX := hX.on kk_
  replace hx := hx.on kk_
  replace hy := hy.on k2_
  replace b1 := Below.call b1 kk_
  clear k_ k2_ kk_
  obtain ⟨z0, z1⟩ := hZ.rules2
  have hW := Below.refl w16.heap.size w16
  go_wp2_with fail
  refine (wider_any hz (bZ.top (by omega))).mono ?_
  rintro e w17 ⟨o, rfl, k_, ho⟩
  clear hW z0 z1
  go_upto_region 8 with fail
  refine wp_new1 fun w18 hO k2_ => ?_
  have kk_ := Below.call k_ k2_
  replace hU := hU.on kk_
  replace hu := hu.on kk_
  replace hV := hV.on kk_
  replace hv := hv.on kk_
  replace hZ := hZ.on kk_
  replace hz := hz.on kk_
  replace hX := hX.on kk_
  replace hx := hx.on kk_
  replace hY := hY.on kk_
  replace hy := hy.on kk_
  replace ho := ho.on k2_
  replace b1 := Below.call b1 kk_
  clear k_ k2_ kk_
  by_cases hfit : X.natAbs < top
  · rw [lim_in hfit]
    rw [clip_in hfit] at hx
    obtain ⟨x0, x1⟩ := hX.rules2
    obtain ⟨y0, y1⟩ := hY.rules2
    have hW := Below.refl w18.heap.size w18
    go_wp2_with fail
    refine (add_iv hx hy).mono ?_
    rintro e w19 ⟨s, rfl, k_, hs⟩
    clear hW x0 x1 y0 y1
    go_upto_region 13 with fail
    refine wp_new1 fun w20 hS k2_ => ?_
    have kk_ := Below.call k_ k2_
    replace hU := hU.on kk_
    replace hu := hu.on kk_
    replace hV := hV.on kk_
    replace hv := hv.on kk_
    replace hZ := hZ.on kk_
    replace hz := hz.on kk_
    replace hX := hX.on kk_
    replace hx := hx.on kk_
    replace hY := hY.on kk_
    replace hy := hy.on kk_
    replace hO := hO.on kk_
    replace ho := ho.on kk_
    replace hs := hs.on k2_
    replace b1 := Below.call b1 kk_
    clear k_ k2_ kk_
    obtain ⟨x0, x1⟩ := hX.rules2
    obtain ⟨y0, y1⟩ := hY.rules2
    have hW := Below.refl w20.heap.size w20
    go_wp2_with fail
    refine (sub_iv hx hy).mono ?_
    rintro e w21 ⟨t, rfl, k_, ht⟩
    clear hW x0 x1 y0 y1
    go_upto_region 14 with fail
    refine wp_new1 fun w22 hT k2_ => ?_
    have kk_ := Below.call k_ k2_
    replace hU := hU.on kk_
    replace hu := hu.on kk_
    replace hV := hV.on kk_
    replace hv := hv.on kk_
    replace hZ := hZ.on kk_
    replace hz := hz.on kk_
    replace hX := hX.on kk_
    replace hx := hx.on kk_
    replace hY := hY.on kk_
    replace hy := hy.on kk_
    replace hO := hO.on kk_
    replace ho := ho.on kk_
    replace hS := hS.on kk_
    replace hs := hs.on kk_
    replace ht := ht.on k2_
    replace b1 := Below.call b1 kk_
    clear k_ k2_ kk_
    obtain ⟨x0, x1⟩ := hX.rules2
    obtain ⟨y0, y1⟩ := hY.rules2
    have hW := Below.refl w22.heap.size w22
    go_wp2_with fail
    refine (mul_iv hx hy).mono ?_
    rintro e w23 ⟨p, rfl, k_, hp⟩
    clear hW x0 x1 y0 y1
    go_upto_region 15 with fail
    refine wp_new1 fun w24 hP k2_ => ?_
    have kk_ := Below.call k_ k2_
    replace hU := hU.on kk_
    replace hu := hu.on kk_
    replace hV := hV.on kk_
    replace hv := hv.on kk_
    replace hZ := hZ.on kk_
    replace hz := hz.on kk_
    replace hX := hX.on kk_
    replace hx := hx.on kk_
    replace hY := hY.on kk_
    replace hy := hy.on kk_
    replace hO := hO.on kk_
    replace ho := ho.on kk_
    replace hS := hS.on kk_
    replace hs := hs.on kk_
    replace hT := hT.on kk_
    replace ht := ht.on kk_
    replace hp := hp.on k2_
    replace b1 := Below.call b1 kk_
    clear k_ k2_ kk_
    obtain ⟨o0, o1⟩ := hO.rules2
    have hW := Below.refl w24.heap.size w24
    go_wp2_with fail
    refine (mul_iv ho ho).mono ?_
    rintro e w25 ⟨j, rfl, k_, hj⟩
    clear hW o0 o1
    go_upto_region 16 with fail
    refine wp_new1 fun w26 hJ k2_ => ?_
    have kk_ := Below.call k_ k2_
    replace hU := hU.on kk_
    replace hu := hu.on kk_
    replace hV := hV.on kk_
    replace hv := hv.on kk_
    replace hZ := hZ.on kk_
    replace hz := hz.on kk_
    replace hS := hS.on kk_
    replace hs := hs.on kk_
    replace hT := hT.on kk_
    replace ht := ht.on kk_
    replace hP := hP.on kk_
    replace hp := hp.on kk_
    replace hj := hj.on k2_
    replace b1 := Below.call b1 kk_
    clear k_ k2_ kk_
    obtain ⟨s0, s1⟩ := hS.rules2
    obtain ⟨t0, t1⟩ := hT.rules2
    obtain ⟨p0, p1⟩ := hP.rules2
    obtain ⟨j0, j1⟩ := hJ.rules2
    have hW := Below.refl w26.heap.size w26
    go_upto_region 18 with fail
    refine wp_new2 fun v5 hGG hGE kk => ?_
    clear s0 s1 t0 t1 p0 p1 j0 j1 hW
    replace b1 := Below.call b1 kk
    replace hu := hu.on kk
    replace hU := hU.on kk
    replace hv := hv.on kk
    replace hV := hV.on kk
    replace hz := hz.on kk
    replace hZ := hZ.on kk
    replace hs := hs.on kk
    replace ht := ht.on kk
    replace hp := hp.on kk
    replace hj := hj.on kk
    clear kk
    refine wp_region_specs v5 [Spec.eq (.agg #[.bool u.neg, .slice u.A u.n u.c]), Spec.eq (.agg #[.bool v.neg, .slice v.A v.n v.c]), sN (X + B), Spec.eq (.agg #[.bool u.neg, .slice u.A u.n u.c]), Spec.eq (.agg #[.bool v.neg, .slice v.A v.n v.c]), sN (X - B), Spec.eq (.agg #[.bool u.neg, .slice u.A u.n u.c]), Spec.eq (.agg #[.bool v.neg, .slice v.A v.n v.c]), sN (X * B), Spec.eq (.agg #[.bool z.neg, .slice z.A z.n z.c]), Spec.eq (.agg #[.bool z.neg, .slice z.A z.n z.c]), sN (Z * Z), sN4 (X + B) (X - B) (X * B) (Z * Z), sN4 (X + B) (X - B) (X * B) (Z * Z)]
        (by kernel_rfl) (by kernel_rfl) rfl (by kernel_rfl) (Below.drew (Below.refl _ _)) ?_ ?_
    ·
      refine RegSteps.cons ?_ ?_
      · intro _ az wz hC hF hD _ K hK
        have q7 : az.tmps[7]? = some (.pointer (some ⟨w1.heap.size, 0, none⟩)) := hF 7 rfl
        obtain ⟨l0, l1, _⟩ := (hU.on hC).all2
        clear hF hD
        refine want_none rfl ?_
        go_simp
        exact hK _ _ hC (Below.refl _ _) rfl
      refine RegSteps.cons ?_ ?_
      · intro _ az wz hC hF hD _ K hK
        have q8 : az.tmps[8]? = some (.pointer (some ⟨w4.heap.size, 0, none⟩)) := hF 8 rfl
        obtain ⟨l0, l1, _⟩ := (hV.on hC).all2
        clear hF hD
        refine want_none rfl ?_
        go_simp
        exact hK _ _ hC (Below.refl _ _) rfl
      refine RegSteps.cons ?_ ?_
      · intro _ az wz hC hF hD _ K hK
        obtain ⟨_, q116, rfl⟩ := dep hD 0 rfl rfl rfl rfl
        obtain ⟨_, q117, rfl⟩ := dep hD 1 rfl rfl rfl rfl
        clear hF hD
        refine want_none rfl ?_
        go_simp
        refine (rAdd_any (hu.on hC) (hv.on hC) (by unfold many; omega) (by unfold many; omega)).mono ?_
        rintro e wy ⟨x, rfl, k, hx⟩
        exact hK _ _ (Below.call hC k) k ⟨x, rfl, hx⟩
      refine RegSteps.cons ?_ ?_
      · intro _ az wz hC hF hD _ K hK
        have q7 : az.tmps[7]? = some (.pointer (some ⟨w1.heap.size, 0, none⟩)) := hF 7 rfl
        obtain ⟨l0, l1, _⟩ := (hU.on hC).all2
        clear hF hD
        refine want_none rfl ?_
        go_simp
        exact hK _ _ hC (Below.refl _ _) rfl
      refine RegSteps.cons ?_ ?_
      · intro _ az wz hC hF hD _ K hK
        have q8 : az.tmps[8]? = some (.pointer (some ⟨w4.heap.size, 0, none⟩)) := hF 8 rfl
        obtain ⟨l0, l1, _⟩ := (hV.on hC).all2
        clear hF hD
        refine want_none rfl ?_
        go_simp
        exact hK _ _ hC (Below.refl _ _) rfl
      refine RegSteps.cons ?_ ?_
      · intro _ az wz hC hF hD _ K hK
        obtain ⟨_, q119, rfl⟩ := dep hD 3 rfl rfl rfl rfl
        obtain ⟨_, q120, rfl⟩ := dep hD 4 rfl rfl rfl rfl
        clear hF hD
        refine want_none rfl ?_
        go_simp
        refine (rSub_any (hu.on hC) (hv.on hC) (by unfold many; omega) (by unfold many; omega)).mono ?_
        rintro e wy ⟨x, rfl, k, hx⟩
        exact hK _ _ (Below.call hC k) k ⟨x, rfl, hx⟩
      refine RegSteps.cons ?_ ?_
      · intro _ az wz hC hF hD _ K hK
        have q7 : az.tmps[7]? = some (.pointer (some ⟨w1.heap.size, 0, none⟩)) := hF 7 rfl
        obtain ⟨l0, l1, _⟩ := (hU.on hC).all2
        clear hF hD
        refine want_none rfl ?_
        go_simp
        exact hK _ _ hC (Below.refl _ _) rfl
      refine RegSteps.cons ?_ ?_
      · intro _ az wz hC hF hD _ K hK
        have q8 : az.tmps[8]? = some (.pointer (some ⟨w4.heap.size, 0, none⟩)) := hF 8 rfl
        obtain ⟨l0, l1, _⟩ := (hV.on hC).all2
        clear hF hD
        refine want_none rfl ?_
        go_simp
        exact hK _ _ hC (Below.refl _ _) rfl
      refine RegSteps.cons ?_ ?_
      · intro _ az wz hC hF hD _ K hK
        obtain ⟨_, q122, rfl⟩ := dep hD 6 rfl rfl rfl rfl
        obtain ⟨_, q123, rfl⟩ := dep hD 7 rfl rfl rfl rfl
        clear hF hD
        refine want_none rfl ?_
        go_simp
        refine (rMul_any (hu.on hC) (hv.on hC) (by unfold many; omega)).mono ?_
        rintro e wy ⟨x, rfl, k, hx⟩
        exact hK _ _ (Below.call hC k) k ⟨x, rfl, hx⟩
      refine RegSteps.cons ?_ ?_
      · intro _ az wz hC hF hD _ K hK
        have q9 : az.tmps[9]? = some (.pointer (some ⟨w7.heap.size, 0, none⟩)) := hF 9 rfl
        obtain ⟨l0, l1, _⟩ := (hZ.on hC).all2
        clear hF hD
        refine want_none rfl ?_
        go_simp
        exact hK _ _ hC (Below.refl _ _) rfl
      refine RegSteps.cons ?_ ?_
      · intro _ az wz hC hF hD _ K hK
        have q9 : az.tmps[9]? = some (.pointer (some ⟨w7.heap.size, 0, none⟩)) := hF 9 rfl
        obtain ⟨l0, l1, _⟩ := (hZ.on hC).all2
        clear hF hD
        refine want_none rfl ?_
        go_simp
        exact hK _ _ hC (Below.refl _ _) rfl
      refine RegSteps.cons ?_ ?_
      · intro _ az wz hC hF hD _ K hK
        obtain ⟨_, q125, rfl⟩ := dep hD 9 rfl rfl rfl rfl
        obtain ⟨_, q126, rfl⟩ := dep hD 10 rfl rfl rfl rfl
        clear hF hD
        refine want_none rfl ?_
        go_simp
        refine (rMul_any (hz.on hC) (hz.on hC) (by unfold many; omega)).mono ?_
        rintro e wy ⟨x, rfl, k, hx⟩
        exact hK _ _ (Below.call hC k) k ⟨x, rfl, hx⟩
      refine RegSteps.cons ?_ ?_
      · intro _ az wz hC hF hD _ K hK
        obtain ⟨_, q118, x118, rfl, hx118⟩ := dep hD 2 rfl rfl rfl rfl
        obtain ⟨_, q121, x121, rfl, hx121⟩ := dep hD 5 rfl rfl rfl rfl
        obtain ⟨_, q124, x124, rfl, hx124⟩ := dep hD 8 rfl rfl rfl rfl
        obtain ⟨_, q127, x127, rfl, hx127⟩ := dep hD 11 rfl rfl rfl rfl
        clear hF hD
        refine want_none rfl ?_
        go_simp
        exact hK _ _ (Below.alloc hC hC.size _) (below_new _ _) ⟨_, rfl, N4.mk hx118 hx121 hx124 hx127⟩
      refine RegSteps.cons ?_ ?_
      · intro _ az wz hC hF hD _ K hK
        obtain ⟨_, q128, x128, rfl, hx128⟩ := dep hD 12 rfl rfl rfl rfl
        clear hF hD
        refine want_none rfl ?_
        go_simp
        exact hK _ _ hC (Below.refl _ _) ⟨x128, rfl, hx128⟩
      exact RegSteps.nil
    intro v6 hC6
    rintro _ rfl _ rfl _ ⟨y118, rfl, _⟩ _ rfl _ rfl _ ⟨y121, rfl, _⟩ _ rfl _ rfl _ ⟨y124, rfl, _⟩ _ rfl _ rfl _ ⟨y127, rfl, _⟩ _ ⟨y128, rfl, _⟩ _ ⟨y28, rfl, hy28⟩
    simp only [FinOK, Act.put, List.setIfInBounds_toArray, List.set_cons_zero, List.set_cons_succ]
    have hLL := LimList.mk (hGG.on hC6) (hGE.on hC6) hy28 (hs.on hC6) (ht.on hC6) (hp.on hC6) (hj.on hC6)
    replace b1 := Below.call b1 hC6
    clear hGG hGE hy28 hs ht hp hj hC6 hu hU hv hV hz hZ hnu hnv hnz hS hT hP hJ HTX HWP HRP
    go_wp2_with fail
    go_loopw [29] (fun s wr => ∃ i : Nat, i ≤ 4 ∧ s = .int .i64 (i : Int) ∧ Below v6.heap.size v6 wr) (fun s _ => 4 - (intOf s).toNat)
    case atStart => exact ⟨0, by omega, rfl, Below.refl _ _⟩
    case round =>
      obtain ⟨i, hi, rfl, hbr⟩ := hrel
      replace hLL := hLL.on hbr
      rcases Nat.lt_or_eq_of_le hi with h3 | h3
      · obtain ⟨g, x, v, hL⟩ := hLL i h3
        have n0 : ∀ u, Below wr.heap.size wr u → u.cell? ⟨y28, i * 2, none⟩ = some (.bool x.neg) := fun u hu => (hL.on hu).c0
        have n1 : ∀ u, Below wr.heap.size wr u → u.cell? ⟨y28, i * 2 + 1, none⟩ = some (.slice x.A x.n x.c) := fun u hu => (hL.on hu).c1
        have hW := Below.refl wr.heap.size wr
        have i0 : (0 : Int) ≤ (i : Int) := by omega
        have i3 : (i : Int) < 4 := by omega
        clear hLL
        by_cases hv : v.natAbs < top
        ·
          have HFi := Lib.hid (show ∀ w : World, NI x w v → Calls Tryz.prog 59 #[.agg #[.bool x.neg, .slice x.A x.n x.c]] w (fun e w' => e = .returned (.bool true) ∧ Below w.heap.size w w') from fun w h => by
            have := rFits_any h
            rwa [← top_two 16384 (by rw [topW_eq]), decide_eq_true hv] at this)
          have HLM := Lib.hid (lim_in hv)
          have HCL := Lib.hid (show ∀ w : World, g.is w (clip v) → g.is w v from fun w h => by rwa [clip_in hv] at h)
          clear hv
          go_wp2_with fail
          refine (HFi.out _ hL.ni).mono ?_
          rintro e v9 ⟨rfl, k1⟩
          replace hL := hL.on k1
          replace hbr := Below.call hbr k1
          have hb2 := Below.call b1 hbr
          clear n0 n1 hW k1
          go_upto_region 23 with fail
          refine wp_region_specs v9 [Spec.eq (.bool true), Spec.eq (.slice (some ⟨w26.heap.size + 1, 0, none⟩) 4 4), Spec.eq (.int .i64 (i : Int)), Spec.eq (.pointer (some ⟨w26.heap.size + 1, i, none⟩)), Spec.eq (.int .i64 0), Spec.eq (.bool true), Spec.eq (.bool false), Spec.eq (.bool false), Spec.eq (.bool true), Spec.eq (.bool false), Spec.eq (.bool false), Spec.eq undef, Spec.eq undef, Spec.eq undef, Spec.eq undef, Spec.eq undef, Spec.eq undef, Spec.eq undef, Spec.eq undef, Spec.eq undef, Spec.eq undef, Spec.eq undef, Spec.eq undef, Spec.eq undef, Spec.eq (.bool false), Spec.eq (.bool false), Spec.eq (.bool false), Spec.eq (.bool true), Spec.eq (.bool true), Spec.eq (.slice (some ⟨w26.heap.size, 0, none⟩) 4 4), Spec.eq (.int .i64 (i : Int)), Spec.eq (.pointer (some ⟨w26.heap.size, i * 2, none⟩)), Spec.eq (.agg #[.bool g.neg, .slice g.A g.n g.c]), Spec.eq (.slice (some ⟨y28, 0, none⟩) 4 4), Spec.eq (.int .i64 (i : Int)), Spec.eq (.pointer (some ⟨y28, i * 2, none⟩)), Spec.eq (.agg #[.bool x.neg, .slice x.A x.n x.c]), Spec.eq (.bool true), Spec.eq (.bool false), Spec.eq (.bool false), Spec.eq (.bool false)]
              (by kernel_rfl) (by kernel_rfl) rfl (by kernel_rfl) (Below.drew (Below.refl _ _)) ?_ ?_
          ·
            refine RegSteps.cons ?_ ?_
            · intro _ az wz hC hF hD _ K hK
              have q30 : az.tmps[30]? = some (.bool true) := hF 30 rfl
              clear hF hD
              refine want_none rfl ?_
              go_simp
              exact hK _ _ hC (Below.refl _ _) rfl
            refine RegSteps.cons ?_ ?_
            · intro _ az wz hC hF hD _ K hK
              have q27 : az.tmps[27]? = some (.slice (some ⟨w26.heap.size + 1, 0, none⟩) 4 4) := hF 27 rfl
              clear hF hD
              refine want_none rfl ?_
              go_simp
              exact hK _ _ hC (Below.refl _ _) rfl
            refine RegSteps.cons ?_ ?_
            · intro _ az wz hC hF hD _ K hK
              have q29 : az.tmps[29]? = some (.int .i64 (i : Int)) := hF 29 rfl
              clear hF hD
              refine want_none rfl ?_
              go_simp
              exact hK _ _ hC (Below.refl _ _) rfl
            refine RegSteps.cons ?_ ?_
            · intro _ az wz hC hF hD _ K hK
              obtain ⟨_, q139, rfl⟩ := dep hD 1 rfl rfl rfl rfl
              obtain ⟨_, q140, rfl⟩ := dep hD 2 rfl rfl rfl rfl
              clear hF hD
              refine want_none rfl ?_
              go_simp
              exact hK _ _ hC (Below.refl _ _) rfl
            refine RegSteps.cons ?_ ?_
            · intro _ az wz hC hF hD _ K hK
              obtain ⟨_, q141, rfl⟩ := dep hD 3 rfl rfl rfl rfl
              have l0 := (hL.on hC).e0
              rw [HLM.out] at l0
              clear hF hD
              refine want_none rfl ?_
              go_simp
              exact hK _ _ hC (Below.refl _ _) rfl
            refine RegSteps.cons ?_ ?_
            · intro _ az wz hC hF hD _ K hK
              obtain ⟨_, q142, rfl⟩ := dep hD 4 rfl rfl rfl rfl
              clear hF hD
              refine want_none rfl ?_
              go_simp
              exact hK _ _ hC (Below.refl _ _) rfl
            refine RegSteps.cons ?_ ?_
            · intro _ az wz hC hF hD _ K hK
              obtain ⟨_, q138, rfl⟩ := dep hD 0 rfl rfl rfl rfl
              obtain ⟨_, q143, rfl⟩ := dep hD 5 rfl rfl rfl rfl
              clear hF hD
              refine want_none rfl ?_
              go_simp
              exact hK _ _ hC (Below.refl _ _) rfl
            refine RegSteps.cons ?_ ?_
            · intro _ az wz hC hF hD _ K hK
              obtain ⟨_, q144, rfl⟩ := dep hD 6 rfl rfl rfl rfl
              clear hF hD
              refine want_none rfl ?_
              go_simp
              exact hK _ _ hC (Below.refl _ _) rfl
            refine RegSteps.cons ?_ ?_
            · intro _ az wz hC hF hD _ K hK
              have q30 : az.tmps[30]? = some (.bool true) := hF 30 rfl
              obtain ⟨_, qg, rfl⟩ := dep hD 7 rfl rfl rfl rfl
              clear hF hD
              refine want_yes rfl rfl rfl qg ?_
              go_simp
              exact hK _ _ hC (Below.refl _ _) rfl
            refine RegSteps.cons ?_ ?_
            · intro _ az wz hC hF hD _ K hK
              obtain ⟨_, q146, rfl⟩ := dep hD 8 rfl rfl rfl rfl
              obtain ⟨_, qg, rfl⟩ := dep hD 7 rfl rfl rfl rfl
              clear hF hD
              refine want_yes rfl rfl rfl qg ?_
              go_simp
              exact hK _ _ hC (Below.refl _ _) rfl
            refine RegSteps.cons ?_ ?_
            · intro _ az wz hC hF hD _ K hK
              obtain ⟨_, q147, rfl⟩ := dep hD 9 rfl rfl rfl rfl
              obtain ⟨_, qg, rfl⟩ := dep hD 7 rfl rfl rfl rfl
              clear hF hD
              refine want_yes rfl rfl rfl qg ?_
              go_simp
              exact hK _ _ hC (Below.refl _ _) rfl
            refine RegSteps.cons ?_ ?_
            · exact fun _ => step_no (c := false) rfl rfl rfl rfl rfl (fun _ _ h => h) rfl (fun _ => rfl)
            refine RegSteps.cons ?_ ?_
            · exact fun _ => step_no (c := false) rfl rfl rfl rfl rfl (fun _ _ h => h) rfl (fun _ => rfl)
            refine RegSteps.cons ?_ ?_
            · exact fun _ => step_no (c := false) rfl rfl rfl rfl rfl (fun _ _ h => h) rfl (fun _ => rfl)
            refine RegSteps.cons ?_ ?_
            · exact fun _ => step_no (c := false) rfl rfl rfl rfl rfl (fun _ _ h => h) rfl (fun _ => rfl)
            refine RegSteps.cons ?_ ?_
            · exact fun _ => step_no (c := false) rfl rfl rfl rfl rfl (fun _ _ h => h) rfl (fun _ => rfl)
            refine RegSteps.cons ?_ ?_
            · exact fun _ => step_no (c := false) rfl rfl rfl rfl rfl (fun _ _ h => h) rfl (fun _ => rfl)
            refine RegSteps.cons ?_ ?_
            · exact fun _ => step_un rfl rfl rfl rfl rfl (fun _ _ h => h) (fun _ => rfl)
            refine RegSteps.cons ?_ ?_
            · exact fun _ => step_un rfl rfl rfl rfl rfl (fun _ _ h => h) (fun _ => rfl)
            refine RegSteps.cons ?_ ?_
            · exact fun _ => step_un rfl rfl rfl rfl rfl (fun _ _ h => h) (fun _ => rfl)
            refine RegSteps.cons ?_ ?_
            · exact fun _ => step_un rfl rfl rfl rfl rfl (fun _ _ h => h) (fun _ => rfl)
            refine RegSteps.cons ?_ ?_
            · exact fun _ => step_un rfl rfl rfl rfl rfl (fun _ _ h => h) (fun _ => rfl)
            refine RegSteps.cons ?_ ?_
            · exact fun _ => step_un rfl rfl rfl rfl rfl (fun _ _ h => h) (fun _ => rfl)
            refine RegSteps.cons ?_ ?_
            · exact fun _ => step_no (c := false) rfl rfl rfl rfl rfl (fun _ _ h => h) rfl (fun _ => rfl)
            refine RegSteps.cons ?_ ?_
            · intro _ az wz hC hF hD _ K hK
              obtain ⟨_, q148, rfl⟩ := dep hD 10 rfl rfl rfl rfl
              obtain ⟨_, q161, rfl⟩ := dep hD 23 rfl rfl rfl rfl
              obtain ⟨_, qg, rfl⟩ := dep hD 7 rfl rfl rfl rfl
              clear hF hD
              refine want_yes rfl rfl rfl qg ?_
              go_simp
              exact hK _ _ hC (Below.refl _ _) rfl
            refine RegSteps.cons ?_ ?_
            · intro _ az wz hC hF hD _ K hK
              obtain ⟨_, q145, rfl⟩ := dep hD 7 rfl rfl rfl rfl
              obtain ⟨_, q162, rfl⟩ := dep hD 24 rfl rfl rfl rfl
              clear hF hD
              refine want_none rfl ?_
              go_simp
              exact hK _ _ hC (Below.refl _ _) rfl
            refine RegSteps.cons ?_ ?_
            · intro _ az wz hC hF hD _ K hK
              obtain ⟨_, q163, rfl⟩ := dep hD 25 rfl rfl rfl rfl
              clear hF hD
              refine want_none rfl ?_
              go_simp
              exact hK _ _ hC (Below.refl _ _) rfl
            refine RegSteps.cons ?_ ?_
            · intro _ az wz hC hF hD _ K hK
              have q30 : az.tmps[30]? = some (.bool true) := hF 30 rfl
              obtain ⟨_, qg, rfl⟩ := dep hD 26 rfl rfl rfl rfl
              clear hF hD
              refine want_yes rfl rfl rfl qg ?_
              go_simp
              exact hK _ _ hC (Below.refl _ _) rfl
            refine RegSteps.cons ?_ ?_
            · intro _ az wz hC hF hD _ K hK
              obtain ⟨_, q165, rfl⟩ := dep hD 27 rfl rfl rfl rfl
              obtain ⟨_, qg, rfl⟩ := dep hD 26 rfl rfl rfl rfl
              clear hF hD
              refine want_yes rfl rfl rfl qg ?_
              go_simp
              exact hK _ _ hC (Below.refl _ _) rfl
            refine RegSteps.cons ?_ ?_
            · intro _ az wz hC hF hD _ K hK
              have q26 : az.tmps[26]? = some (.slice (some ⟨w26.heap.size, 0, none⟩) 4 4) := hF 26 rfl
              obtain ⟨_, qg, rfl⟩ := dep hD 28 rfl rfl rfl rfl
              clear hF hD
              refine want_yes rfl rfl rfl qg ?_
              go_simp
              exact hK _ _ hC (Below.refl _ _) rfl
            refine RegSteps.cons ?_ ?_
            · intro _ az wz hC hF hD _ K hK
              have q29 : az.tmps[29]? = some (.int .i64 (i : Int)) := hF 29 rfl
              obtain ⟨_, qg, rfl⟩ := dep hD 28 rfl rfl rfl rfl
              clear hF hD
              refine want_yes rfl rfl rfl qg ?_
              go_simp
              exact hK _ _ hC (Below.refl _ _) rfl
            refine RegSteps.cons ?_ ?_
            · intro _ az wz hC hF hD _ K hK
              obtain ⟨_, q167, rfl⟩ := dep hD 29 rfl rfl rfl rfl
              obtain ⟨_, q168, rfl⟩ := dep hD 30 rfl rfl rfl rfl
              obtain ⟨_, qg, rfl⟩ := dep hD 28 rfl rfl rfl rfl
              clear hF hD
              refine want_yes rfl rfl rfl qg ?_
              go_simp
              exact hK _ _ hC (Below.refl _ _) rfl
            refine RegSteps.cons ?_ ?_
            · intro _ az wz hC hF hD _ K hK
              obtain ⟨_, q169, rfl⟩ := dep hD 31 rfl rfl rfl rfl
              obtain ⟨_, qg, rfl⟩ := dep hD 28 rfl rfl rfl rfl
              have l0 := (hL.on hC).g0
              have l1 := (hL.on hC).g1
              clear hF hD
              refine want_yes rfl rfl rfl qg ?_
              go_simp
              exact hK _ _ hC (Below.refl _ _) rfl
            refine RegSteps.cons ?_ ?_
            · intro _ az wz hC hF hD _ K hK
              have q28 : az.tmps[28]? = some (.slice (some ⟨y28, 0, none⟩) 4 4) := hF 28 rfl
              obtain ⟨_, qg, rfl⟩ := dep hD 28 rfl rfl rfl rfl
              clear hF hD
              refine want_yes rfl rfl rfl qg ?_
              go_simp
              exact hK _ _ hC (Below.refl _ _) rfl
            refine RegSteps.cons ?_ ?_
            · intro _ az wz hC hF hD _ K hK
              have q29 : az.tmps[29]? = some (.int .i64 (i : Int)) := hF 29 rfl
              obtain ⟨_, qg, rfl⟩ := dep hD 28 rfl rfl rfl rfl
              clear hF hD
              refine want_yes rfl rfl rfl qg ?_
              go_simp
              exact hK _ _ hC (Below.refl _ _) rfl
            refine RegSteps.cons ?_ ?_
            · intro _ az wz hC hF hD _ K hK
              obtain ⟨_, q171, rfl⟩ := dep hD 33 rfl rfl rfl rfl
              obtain ⟨_, q172, rfl⟩ := dep hD 34 rfl rfl rfl rfl
              obtain ⟨_, qg, rfl⟩ := dep hD 28 rfl rfl rfl rfl
              clear hF hD
              refine want_yes rfl rfl rfl qg ?_
              go_simp
              exact hK _ _ hC (Below.refl _ _) rfl
            refine RegSteps.cons ?_ ?_
            · intro _ az wz hC hF hD _ K hK
              obtain ⟨_, q173, rfl⟩ := dep hD 35 rfl rfl rfl rfl
              obtain ⟨_, qg, rfl⟩ := dep hD 28 rfl rfl rfl rfl
              have l0 := (hL.on hC).c0
              have l1 := (hL.on hC).c1
              clear hF hD
              refine want_yes rfl rfl rfl qg ?_
              go_simp
              exact hK _ _ hC (Below.refl _ _) rfl
            refine RegSteps.cons ?_ ?_
            · intro _ az wz hC hF hD _ K hK
              obtain ⟨_, q170, rfl⟩ := dep hD 32 rfl rfl rfl rfl
              obtain ⟨_, q174, rfl⟩ := dep hD 36 rfl rfl rfl rfl
              obtain ⟨_, qg, rfl⟩ := dep hD 28 rfl rfl rfl rfl
              clear hF hD
              refine want_yes rfl rfl rfl qg ?_
              go_simp
              refine (equal_same (HCL.out _ (hL.on hC).gi) (hL.on hC).ni ((ht0.on hb2).on hC)).mono ?_
              rintro e wy ⟨rfl, k⟩
              exact hK _ _ (Below.call hC k) k rfl
            refine RegSteps.cons ?_ ?_
            · intro _ az wz hC hF hD _ K hK
              obtain ⟨_, q175, rfl⟩ := dep hD 37 rfl rfl rfl rfl
              obtain ⟨_, qg, rfl⟩ := dep hD 28 rfl rfl rfl rfl
              clear hF hD
              refine want_yes rfl rfl rfl qg ?_
              go_simp
              exact hK _ _ hC (Below.refl _ _) rfl
            refine RegSteps.cons ?_ ?_
            · intro _ az wz hC hF hD _ K hK
              obtain ⟨_, q166, rfl⟩ := dep hD 28 rfl rfl rfl rfl
              obtain ⟨_, q176, rfl⟩ := dep hD 38 rfl rfl rfl rfl
              obtain ⟨_, qg, rfl⟩ := dep hD 26 rfl rfl rfl rfl
              clear hF hD
              refine want_yes rfl rfl rfl qg ?_
              go_simp
              exact hK _ _ hC (Below.refl _ _) rfl
            refine RegSteps.cons ?_ ?_
            · intro _ az wz hC hF hD _ K hK
              obtain ⟨_, q164, rfl⟩ := dep hD 26 rfl rfl rfl rfl
              obtain ⟨_, q177, rfl⟩ := dep hD 39 rfl rfl rfl rfl
              clear hF hD
              refine want_none rfl ?_
              go_simp
              exact hK _ _ hC (Below.refl _ _) rfl
            exact RegSteps.nil
          intro v10 hC10
          rintro _ rfl _ rfl _ rfl _ rfl _ rfl _ rfl _ rfl _ rfl _ rfl _ rfl _ rfl _ rfl _ rfl _ rfl _ rfl _ rfl _ rfl _ rfl _ rfl _ rfl _ rfl _ rfl _ rfl _ rfl _ rfl _ rfl _ rfl _ rfl _ rfl _ rfl _ rfl _ rfl _ rfl _ rfl _ rfl _ rfl _ rfl _ rfl _ rfl _ rfl _ rfl
          simp only [FinOK, Act.put, List.setIfInBounds_toArray, List.set_cons_zero, List.set_cons_succ]
          have hb9 := Below.call hbr hC10
          go_wp2_with fail
          go_roundw
          case rel => exact ⟨i + 1, by omega, by go_num, hb9⟩
          case measure => simp [intOf]; omega

        ·
          have HFi := Lib.hid (show ∀ w : World, NI x w v → Calls Tryz.prog 59 #[.agg #[.bool x.neg, .slice x.A x.n x.c]] w (fun e w' => e = .returned (.bool false) ∧ Below w.heap.size w w') from fun w h => by
            have := rFits_any h
            rwa [← top_two 16384 (by rw [topW_eq]), decide_eq_false hv] at this)
          have HLM := Lib.hid (lim_out hv)
          have HCL := Lib.hid (show ∀ w : World, g.is w (clip v) → g.is w 0 from fun w h => by rwa [clip_out hv] at h)
          clear hv
          go_wp2_with fail
          refine (HFi.out _ hL.ni).mono ?_
          rintro e v9 ⟨rfl, k1⟩
          replace hL := hL.on k1
          replace hbr := Below.call hbr k1
          have hb2 := Below.call b1 hbr
          clear n0 n1 hW k1
          go_upto_region 23 with fail
          refine wp_region_specs v9 [Spec.eq (.bool false), Spec.eq (.slice (some ⟨w26.heap.size + 1, 0, none⟩) 4 4), Spec.eq (.int .i64 (i : Int)), Spec.eq (.pointer (some ⟨w26.heap.size + 1, i, none⟩)), Spec.eq (.int .i64 4), Spec.eq (.bool false), Spec.eq (.bool false), Spec.eq (.bool false), Spec.eq (.bool false), Spec.eq (.bool true), Spec.eq (.bool true), Spec.eq (.slice (some ⟨w26.heap.size + 1, 0, none⟩) 4 4), Spec.eq (.int .i64 (i : Int)), Spec.eq (.pointer (some ⟨w26.heap.size + 1, i, none⟩)), Spec.eq (.int .i64 4), Spec.eq (.bool false), Spec.eq (.bool false), Spec.eq (.slice (some ⟨w26.heap.size, 0, none⟩) 4 4), Spec.eq (.int .i64 (i : Int)), Spec.eq (.pointer (some ⟨w26.heap.size, i * 2, none⟩)), Spec.eq (.agg #[.bool g.neg, .slice g.A g.n g.c]), Spec.eq (.int .i64 0), Spec.eq (.bool false), Spec.eq (.bool false), Spec.eq (.bool false), Spec.eq (.bool false), Spec.eq (.bool false), Spec.eq (.bool false), Spec.eq (.bool false), Spec.eq undef, Spec.eq undef, Spec.eq undef, Spec.eq undef, Spec.eq undef, Spec.eq undef, Spec.eq undef, Spec.eq undef, Spec.eq undef, Spec.eq undef, Spec.eq (.bool false), Spec.eq (.bool false)]
              (by kernel_rfl) (by kernel_rfl) rfl (by kernel_rfl) (Below.drew (Below.refl _ _)) ?_ ?_
          ·
            refine RegSteps.cons ?_ ?_
            · intro _ az wz hC hF hD _ K hK
              have q30 : az.tmps[30]? = some (.bool false) := hF 30 rfl
              clear hF hD
              refine want_none rfl ?_
              go_simp
              exact hK _ _ hC (Below.refl _ _) rfl
            refine RegSteps.cons ?_ ?_
            · intro _ az wz hC hF hD _ K hK
              have q27 : az.tmps[27]? = some (.slice (some ⟨w26.heap.size + 1, 0, none⟩) 4 4) := hF 27 rfl
              clear hF hD
              refine want_none rfl ?_
              go_simp
              exact hK _ _ hC (Below.refl _ _) rfl
            refine RegSteps.cons ?_ ?_
            · intro _ az wz hC hF hD _ K hK
              have q29 : az.tmps[29]? = some (.int .i64 (i : Int)) := hF 29 rfl
              clear hF hD
              refine want_none rfl ?_
              go_simp
              exact hK _ _ hC (Below.refl _ _) rfl
            refine RegSteps.cons ?_ ?_
            · intro _ az wz hC hF hD _ K hK
              obtain ⟨_, q139, rfl⟩ := dep hD 1 rfl rfl rfl rfl
              obtain ⟨_, q140, rfl⟩ := dep hD 2 rfl rfl rfl rfl
              clear hF hD
              refine want_none rfl ?_
              go_simp
              exact hK _ _ hC (Below.refl _ _) rfl
            refine RegSteps.cons ?_ ?_
            · intro _ az wz hC hF hD _ K hK
              obtain ⟨_, q141, rfl⟩ := dep hD 3 rfl rfl rfl rfl
              have l0 := (hL.on hC).e0
              rw [HLM.out] at l0
              clear hF hD
              refine want_none rfl ?_
              go_simp
              exact hK _ _ hC (Below.refl _ _) rfl
            refine RegSteps.cons ?_ ?_
            · intro _ az wz hC hF hD _ K hK
              obtain ⟨_, q142, rfl⟩ := dep hD 4 rfl rfl rfl rfl
              clear hF hD
              refine want_none rfl ?_
              go_simp
              exact hK _ _ hC (Below.refl _ _) rfl
            refine RegSteps.cons ?_ ?_
            · intro _ az wz hC hF hD _ K hK
              obtain ⟨_, q138, rfl⟩ := dep hD 0 rfl rfl rfl rfl
              obtain ⟨_, q143, rfl⟩ := dep hD 5 rfl rfl rfl rfl
              clear hF hD
              refine want_none rfl ?_
              go_simp
              exact hK _ _ hC (Below.refl _ _) rfl
            refine RegSteps.cons ?_ ?_
            · intro _ az wz hC hF hD _ K hK
              obtain ⟨_, q144, rfl⟩ := dep hD 6 rfl rfl rfl rfl
              clear hF hD
              refine want_none rfl ?_
              go_simp
              exact hK _ _ hC (Below.refl _ _) rfl
            refine RegSteps.cons ?_ ?_
            · intro _ az wz hC hF hD _ K hK
              have q30 : az.tmps[30]? = some (.bool false) := hF 30 rfl
              obtain ⟨_, qg, rfl⟩ := dep hD 7 rfl rfl rfl rfl
              clear hF hD
              refine want_yes rfl rfl rfl qg ?_
              go_simp
              exact hK _ _ hC (Below.refl _ _) rfl
            refine RegSteps.cons ?_ ?_
            · intro _ az wz hC hF hD _ K hK
              obtain ⟨_, q146, rfl⟩ := dep hD 8 rfl rfl rfl rfl
              obtain ⟨_, qg, rfl⟩ := dep hD 7 rfl rfl rfl rfl
              clear hF hD
              refine want_yes rfl rfl rfl qg ?_
              go_simp
              exact hK _ _ hC (Below.refl _ _) rfl
            refine RegSteps.cons ?_ ?_
            · intro _ az wz hC hF hD _ K hK
              obtain ⟨_, q147, rfl⟩ := dep hD 9 rfl rfl rfl rfl
              obtain ⟨_, qg, rfl⟩ := dep hD 7 rfl rfl rfl rfl
              clear hF hD
              refine want_yes rfl rfl rfl qg ?_
              go_simp
              exact hK _ _ hC (Below.refl _ _) rfl
            refine RegSteps.cons ?_ ?_
            · intro _ az wz hC hF hD _ K hK
              have q27 : az.tmps[27]? = some (.slice (some ⟨w26.heap.size + 1, 0, none⟩) 4 4) := hF 27 rfl
              obtain ⟨_, qg, rfl⟩ := dep hD 10 rfl rfl rfl rfl
              clear hF hD
              refine want_yes rfl rfl rfl qg ?_
              go_simp
              exact hK _ _ hC (Below.refl _ _) rfl
            refine RegSteps.cons ?_ ?_
            · intro _ az wz hC hF hD _ K hK
              have q29 : az.tmps[29]? = some (.int .i64 (i : Int)) := hF 29 rfl
              obtain ⟨_, qg, rfl⟩ := dep hD 10 rfl rfl rfl rfl
              clear hF hD
              refine want_yes rfl rfl rfl qg ?_
              go_simp
              exact hK _ _ hC (Below.refl _ _) rfl
            refine RegSteps.cons ?_ ?_
            · intro _ az wz hC hF hD _ K hK
              obtain ⟨_, q149, rfl⟩ := dep hD 11 rfl rfl rfl rfl
              obtain ⟨_, q150, rfl⟩ := dep hD 12 rfl rfl rfl rfl
              obtain ⟨_, qg, rfl⟩ := dep hD 10 rfl rfl rfl rfl
              clear hF hD
              refine want_yes rfl rfl rfl qg ?_
              go_simp
              exact hK _ _ hC (Below.refl _ _) rfl
            refine RegSteps.cons ?_ ?_
            · intro _ az wz hC hF hD _ K hK
              obtain ⟨_, q151, rfl⟩ := dep hD 13 rfl rfl rfl rfl
              obtain ⟨_, qg, rfl⟩ := dep hD 10 rfl rfl rfl rfl
              have l0 := (hL.on hC).e0
              rw [HLM.out] at l0
              clear hF hD
              refine want_yes rfl rfl rfl qg ?_
              go_simp
              exact hK _ _ hC (Below.refl _ _) rfl
            refine RegSteps.cons ?_ ?_
            · intro _ az wz hC hF hD _ K hK
              obtain ⟨_, q152, rfl⟩ := dep hD 14 rfl rfl rfl rfl
              obtain ⟨_, qg, rfl⟩ := dep hD 10 rfl rfl rfl rfl
              clear hF hD
              refine want_yes rfl rfl rfl qg ?_
              go_simp
              exact hK _ _ hC (Below.refl _ _) rfl
            refine RegSteps.cons ?_ ?_
            · intro _ az wz hC hF hD _ K hK
              obtain ⟨_, q153, rfl⟩ := dep hD 15 rfl rfl rfl rfl
              obtain ⟨_, qg, rfl⟩ := dep hD 10 rfl rfl rfl rfl
              clear hF hD
              refine want_yes rfl rfl rfl qg ?_
              go_simp
              exact hK _ _ hC (Below.refl _ _) rfl
            refine RegSteps.cons ?_ ?_
            · intro _ az wz hC hF hD _ K hK
              have q26 : az.tmps[26]? = some (.slice (some ⟨w26.heap.size, 0, none⟩) 4 4) := hF 26 rfl
              obtain ⟨_, qg, rfl⟩ := dep hD 16 rfl rfl rfl rfl
              clear hF hD
              refine want_yes rfl rfl rfl qg ?_
              go_simp
              exact hK _ _ hC (Below.refl _ _) rfl
            refine RegSteps.cons ?_ ?_
            · intro _ az wz hC hF hD _ K hK
              have q29 : az.tmps[29]? = some (.int .i64 (i : Int)) := hF 29 rfl
              obtain ⟨_, qg, rfl⟩ := dep hD 16 rfl rfl rfl rfl
              clear hF hD
              refine want_yes rfl rfl rfl qg ?_
              go_simp
              exact hK _ _ hC (Below.refl _ _) rfl
            refine RegSteps.cons ?_ ?_
            · intro _ az wz hC hF hD _ K hK
              obtain ⟨_, q155, rfl⟩ := dep hD 17 rfl rfl rfl rfl
              obtain ⟨_, q156, rfl⟩ := dep hD 18 rfl rfl rfl rfl
              obtain ⟨_, qg, rfl⟩ := dep hD 16 rfl rfl rfl rfl
              clear hF hD
              refine want_yes rfl rfl rfl qg ?_
              go_simp
              exact hK _ _ hC (Below.refl _ _) rfl
            refine RegSteps.cons ?_ ?_
            · intro _ az wz hC hF hD _ K hK
              obtain ⟨_, q157, rfl⟩ := dep hD 19 rfl rfl rfl rfl
              obtain ⟨_, qg, rfl⟩ := dep hD 16 rfl rfl rfl rfl
              have l0 := (hL.on hC).g0
              have l1 := (hL.on hC).g1
              clear hF hD
              refine want_yes rfl rfl rfl qg ?_
              go_simp
              exact hK _ _ hC (Below.refl _ _) rfl
            refine RegSteps.cons ?_ ?_
            · intro _ az wz hC hF hD _ K hK
              obtain ⟨_, q158, rfl⟩ := dep hD 20 rfl rfl rfl rfl
              obtain ⟨_, qg, rfl⟩ := dep hD 16 rfl rfl rfl rfl
              clear hF hD
              refine want_yes rfl rfl rfl qg ?_
              go_simp
              refine (sign_zero_ (HCL.out _ (hL.on hC).gi) rfl).mono ?_
              rintro e wy ⟨rfl, k⟩
              exact hK _ _ (Below.call hC k) k rfl
            refine RegSteps.cons ?_ ?_
            · intro _ az wz hC hF hD _ K hK
              obtain ⟨_, q159, rfl⟩ := dep hD 21 rfl rfl rfl rfl
              obtain ⟨_, qg, rfl⟩ := dep hD 16 rfl rfl rfl rfl
              clear hF hD
              refine want_yes rfl rfl rfl qg ?_
              go_simp
              exact hK _ _ hC (Below.refl _ _) rfl
            refine RegSteps.cons ?_ ?_
            · intro _ az wz hC hF hD _ K hK
              obtain ⟨_, q154, rfl⟩ := dep hD 16 rfl rfl rfl rfl
              obtain ⟨_, q160, rfl⟩ := dep hD 22 rfl rfl rfl rfl
              obtain ⟨_, qg, rfl⟩ := dep hD 10 rfl rfl rfl rfl
              clear hF hD
              refine want_yes rfl rfl rfl qg ?_
              go_simp
              exact hK _ _ hC (Below.refl _ _) rfl
            refine RegSteps.cons ?_ ?_
            · intro _ az wz hC hF hD _ K hK
              obtain ⟨_, q148, rfl⟩ := dep hD 10 rfl rfl rfl rfl
              obtain ⟨_, q161, rfl⟩ := dep hD 23 rfl rfl rfl rfl
              obtain ⟨_, qg, rfl⟩ := dep hD 7 rfl rfl rfl rfl
              clear hF hD
              refine want_yes rfl rfl rfl qg ?_
              go_simp
              exact hK _ _ hC (Below.refl _ _) rfl
            refine RegSteps.cons ?_ ?_
            · intro _ az wz hC hF hD _ K hK
              obtain ⟨_, q145, rfl⟩ := dep hD 7 rfl rfl rfl rfl
              obtain ⟨_, q162, rfl⟩ := dep hD 24 rfl rfl rfl rfl
              clear hF hD
              refine want_none rfl ?_
              go_simp
              exact hK _ _ hC (Below.refl _ _) rfl
            refine RegSteps.cons ?_ ?_
            · intro _ az wz hC hF hD _ K hK
              obtain ⟨_, q163, rfl⟩ := dep hD 25 rfl rfl rfl rfl
              clear hF hD
              refine want_none rfl ?_
              go_simp
              exact hK _ _ hC (Below.refl _ _) rfl
            refine RegSteps.cons ?_ ?_
            · intro _ az wz hC hF hD _ K hK
              have q30 : az.tmps[30]? = some (.bool false) := hF 30 rfl
              obtain ⟨_, qg, rfl⟩ := dep hD 26 rfl rfl rfl rfl
              clear hF hD
              refine want_yes rfl rfl rfl qg ?_
              go_simp
              exact hK _ _ hC (Below.refl _ _) rfl
            refine RegSteps.cons ?_ ?_
            · intro _ az wz hC hF hD _ K hK
              obtain ⟨_, q165, rfl⟩ := dep hD 27 rfl rfl rfl rfl
              obtain ⟨_, qg, rfl⟩ := dep hD 26 rfl rfl rfl rfl
              clear hF hD
              refine want_yes rfl rfl rfl qg ?_
              go_simp
              exact hK _ _ hC (Below.refl _ _) rfl
            refine RegSteps.cons ?_ ?_
            · exact fun _ => step_no (c := false) rfl rfl rfl rfl rfl (fun _ _ h => h) rfl (fun _ => rfl)
            refine RegSteps.cons ?_ ?_
            · exact fun _ => step_no (c := false) rfl rfl rfl rfl rfl (fun _ _ h => h) rfl (fun _ => rfl)
            refine RegSteps.cons ?_ ?_
            · exact fun _ => step_no (c := false) rfl rfl rfl rfl rfl (fun _ _ h => h) rfl (fun _ => rfl)
            refine RegSteps.cons ?_ ?_
            · exact fun _ => step_no (c := false) rfl rfl rfl rfl rfl (fun _ _ h => h) rfl (fun _ => rfl)
            refine RegSteps.cons ?_ ?_
            · exact fun _ => step_no (c := false) rfl rfl rfl rfl rfl (fun _ _ h => h) rfl (fun _ => rfl)
            refine RegSteps.cons ?_ ?_
            · exact fun _ => step_no (c := false) rfl rfl rfl rfl rfl (fun _ _ h => h) rfl (fun _ => rfl)
            refine RegSteps.cons ?_ ?_
            · exact fun _ => step_no (c := false) rfl rfl rfl rfl rfl (fun _ _ h => h) rfl (fun _ => rfl)
            refine RegSteps.cons ?_ ?_
            · exact fun _ => step_no (c := false) rfl rfl rfl rfl rfl (fun _ _ h => h) rfl (fun _ => rfl)
            refine RegSteps.cons ?_ ?_
            · exact fun _ => step_no (c := false) rfl rfl rfl rfl rfl (fun _ _ h => h) rfl (fun _ => rfl)
            refine RegSteps.cons ?_ ?_
            · exact fun _ => step_no (c := false) rfl rfl rfl rfl rfl (fun _ _ h => h) rfl (fun _ => rfl)
            refine RegSteps.cons ?_ ?_
            · intro _ az wz hC hF hD _ K hK
              obtain ⟨_, q166, rfl⟩ := dep hD 28 rfl rfl rfl rfl
              obtain ⟨_, q176, rfl⟩ := dep hD 38 rfl rfl rfl rfl
              obtain ⟨_, qg, rfl⟩ := dep hD 26 rfl rfl rfl rfl
              clear hF hD
              refine want_yes rfl rfl rfl qg ?_
              go_simp
              exact hK _ _ hC (Below.refl _ _) rfl
            refine RegSteps.cons ?_ ?_
            · intro _ az wz hC hF hD _ K hK
              obtain ⟨_, q164, rfl⟩ := dep hD 26 rfl rfl rfl rfl
              obtain ⟨_, q177, rfl⟩ := dep hD 39 rfl rfl rfl rfl
              clear hF hD
              refine want_none rfl ?_
              go_simp
              exact hK _ _ hC (Below.refl _ _) rfl
            exact RegSteps.nil
          intro v10 hC10
          rintro _ rfl _ rfl _ rfl _ rfl _ rfl _ rfl _ rfl _ rfl _ rfl _ rfl _ rfl _ rfl _ rfl _ rfl _ rfl _ rfl _ rfl _ rfl _ rfl _ rfl _ rfl _ rfl _ rfl _ rfl _ rfl _ rfl _ rfl _ rfl _ rfl _ rfl _ rfl _ rfl _ rfl _ rfl _ rfl _ rfl _ rfl _ rfl _ rfl _ rfl _ rfl
          simp only [FinOK, Act.put, List.setIfInBounds_toArray, List.set_cons_zero, List.set_cons_succ]
          have hb9 := Below.call hbr hC10
          go_wp2_with fail
          go_roundw
          case rel => exact ⟨i + 1, by omega, by go_num, hb9⟩
          case measure => simp [intOf]; omega

      · subst h3
        have hb2 := Below.call b1 hbr
        have ht := ht0.on hb2
        go_wp2_with fail
        refine (lives3_any _ ht).mono ?_
        rintro e v9 ⟨rfl, k1⟩
        have HB := Lib.hid (Below.call hb2 k1)
        go_wp2
        go_returns
        exact ⟨rfl, HB.out⟩
  · rw [lim_out hfit]
    rw [clip_out hfit] at hx
    have ht := ht0.on b1
    obtain ⟨x0, x1⟩ := hX.rules2
    have hW := Below.refl w18.heap.size w18
    go_wp2_with fail
    refine (equal_same (y := nZero) hx (NI.zero _) ht).mono ?_
    rintro e w19 ⟨rfl, k1⟩
    go_wp2_with fail
    refine (lives3_any _ (ht.on k1)).mono ?_
    rintro e w20 ⟨rfl, k2⟩
    have HB := Lib.hid (Below.call (Below.call b1 k1) k2)
    go_wp2
    go_returns
    exact ⟨rfl, HB.out⟩
end Go.Proofs.YthafhbogpfggjaaGreatDoor
