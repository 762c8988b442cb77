/-
  Chapter 05: PointScaled.
-/
import Derived.Test.YthcpaagfgkbjaaaDoorQ2
import Derived.Test.YthcpaagfgkbjaaaDoorW15
namespace Go.Proofs.YthcpaagfgkbjaaaDoor
open Go.RowKit Mag

set_option maxRecDepth 100000 in
theorem RScaled_any (X Y K U V : Int) (w : World) (x0 : 0 ≤ X) (x1 : X ≤ 32) (y0 : 0 ≤ Y) (y1 : Y ≤ 32) (k0 : 0 ≤ K) (k1 : K ≤ 16777216) (u0 : -268435456 ≤ U) (u1 : U ≤ 268435456) (v0 : -268435456 ≤ V) (v1 : V ≤ 268435456) :
    Calls Tryd.prog 22 #[.agg #[.int .i64 X, .int .i64 Y], .int .i64 K, .agg #[.int .i64 U, .int .i64 V]] w (RetG w (K * X + U) (K * Y + V)) := by
  have m1 := Int.mul_le_mul k1 x1 x0 (by omega)
  have m2 := Int.mul_le_mul k1 y1 y0 (by omega)
  have m3 := Int.mul_nonneg k0 x0
  have m4 := Int.mul_nonneg k0 y0
  go_enter Tryd.func22, Tryd.ntmps22
  go_upto_region 1 with fail
  refine wp_new3 fun W hS hT hO hB => ?_
  obtain ⟨l0, l1, _⟩ := hS.all2
  obtain ⟨r0, r1, _⟩ := hT.all2
  obtain ⟨z0, z1, f0, f1⟩ := hO.all2
  have hO3 := hO.put2 (.int .i64 (K * X + U)) (.int .i64 (K * Y + V))
  obtain ⟨q0, q1, _⟩ := hO3.all2
  have HB := Lib.hid (Below.put2 hB (by omega : w.heap.size ≤ w.heap.size + 1 + 1) (.int .i64 (K * X + U)) (.int .i64 (K * Y + V)))
  clear hO3
  go_wp2
  exact bodyPost_ret (v := .agg #[.int .i64 (K * X + U), .int .i64 (K * Y + V)]) (by simp [results, Tryd.results22, go_sem, q0, q1]) rfl ⟨rfl, HB.out⟩

/-! ### The plain law -/
theorem mul_le_iff {N a c : Int} (b : Int) (hN : 0 < N) : (N * a + b ≤ N * c + b) ↔ a ≤ c := by
  have h1 : N * a ≤ N * c ↔ a ≤ c := ⟨fun h => Int.le_of_mul_le_mul_left h hN, fun h => Int.mul_le_mul_of_nonneg_left h (by omega)⟩
  omega
theorem max_lin {N a c : Int} (b : Int) (hN : 0 < N) : max (N * a + b) (N * c + b) = N * max a c + b := by
  have h := mul_le_iff (a := a) (c := c) b hN
  by_cases hac : a ≤ c
  · rw [Int.max_eq_right hac, Int.max_eq_right (h.2 hac)]
  · rw [Int.max_eq_left (by omega), Int.max_eq_left (by omega)]
theorem min_lin {N a c : Int} (b : Int) (hN : 0 < N) : min (N * a + b) (N * c + b) = N * min a c + b := by
  have h := mul_le_iff (a := a) (c := c) b hN
  by_cases hac : a ≤ c
  · rw [Int.min_eq_left hac, Int.min_eq_left (h.2 hac)]
  · rw [Int.min_eq_right (by omega), Int.min_eq_right (by omega)]
theorem cmp_lin {N a c : Int} (b : Int) (hN : 0 < N) : cmpI (N * a + b) (N * c + b) = cmpI a c := by
  have h1 := mul_le_iff (a := a) (c := c) b hN
  have h2 := mul_le_iff (a := c) (c := a) b hN
  rcases Int.lt_trichotomy a c with h | h | h
  · rw [cmpI_lt h, cmpI_lt (by omega)]
  · rw [cmpI_eq h, cmpI_eq (by omega)]
  · rw [cmpI_gt h, cmpI_gt (by omega)]
theorem cmpPt_lin {N a c d e : Int} (b f : Int) (hN : 0 < N) : cmpPt (N * a + b) 1 (N * d + f) 1 (N * c + b) 1 (N * e + f) 1 = cmpPt a 1 d 1 c 1 e 1 := by
  unfold cmpPt
  simp only [Int.mul_one]
  rw [cmp_lin b hN, cmp_lin f hN]
theorem inB_lin {N a b c d x y : Int} (u v : Int) (hN : 0 < N) : inB (N * a + u) (N * b + v) (N * c + u) (N * d + v) (N * x + u) 1 (N * y + v) 1 = inB a b c d x 1 y 1 := by
  unfold inB
  simp only [Int.mul_one]
  rw [decide_eq_decide.2 (mul_le_iff u hN), decide_eq_decide.2 (mul_le_iff u hN), decide_eq_decide.2 (mul_le_iff v hN), decide_eq_decide.2 (mul_le_iff v hN)]
theorem meets_lin {N a b c d a' b' c' d' : Int} (u v : Int) (hN : 0 < N) : meets (N * a + u) (N * b + v) (N * c + u) (N * d + v) (N * a' + u) (N * b' + v) (N * c' + u) (N * d' + v) = meets a b c d a' b' c' d' := by
  unfold meets
  rw [max_lin u hN, max_lin v hN, min_lin u hN, min_lin v hN, decide_eq_decide.2 (mul_le_iff u hN), decide_eq_decide.2 (mul_le_iff v hN)]
/-- One of four. -/
def of4 (a b c d : Int) : Nat → Int
  | 0 => a | 1 => b | 2 => c | _ => d
def list4 (f g : Nat → Int) : List Value := [.int .i64 (f 0), .int .i64 (g 0), .int .i64 (f 1), .int .i64 (g 1), .int .i64 (f 2), .int .i64 (g 2), .int .i64 (f 3), .int .i64 (g 3)]
theorem list4_at (f g : Nat → Int) {k : Nat} (hk : k < 4) : (list4 f g)[k * 2]? = some (.int .i64 (f k)) ∧ (list4 f g)[k * 2 + 1]? = some (.int .i64 (g k)) := by
  rcases (by omega : k = 0 ∨ k = 1 ∨ k = 2 ∨ k = 3) with rfl | rfl | rfl | rfl
  all_goals exact ⟨rfl, rfl⟩
theorem list4_take (f g : Nat → Int) {k : Nat} (hk : k < 4) : (list4 f g).take (k * 2) ++ [.int .i64 (f k), .int .i64 (g k)] = (list4 f g).take ((k + 1) * 2) := by
  rcases (by omega : k = 0 ∨ k = 1 ∨ k = 2 ∨ k = 3) with rfl | rfl | rfl | rfl
  all_goals rfl
theorem of4_bd {a b c d lo hi : Int} (ha : lo ≤ a ∧ a ≤ hi) (hb : lo ≤ b ∧ b ≤ hi) (hc : lo ≤ c ∧ c ≤ hi) (hd : lo ≤ d ∧ d ≤ hi) (k : Nat) : lo ≤ of4 a b c d k ∧ of4 a b c d k ≤ hi := by
  match k with
  | 0 => exact ha
  | 1 => exact hb
  | 2 => exact hc
  | k + 3 => exact hd
theorem pt_info : (Tryd.prog.info? 40).map (fun i => (i.zero, i.size, i.bytes)) = some (some (.agg #[.int .i64 0, .int .i64 0]), 2, 16) := by kernel_rfl

/-! ### The walk -/
theorem PValid_e {x y v : Int} {w : World} (h : goodV x y = v) : Calls Tryd.prog 23 #[.agg #[.int .i64 x, .int .i64 y]] w (RetInt w v) := h ▸ PValid_any x y w
theorem own_news {w : World} {g : Nat} {t : TypeId} {xs : List Value} (h : Own w g t xs) : ∀ j u, xs[j]? = some u → w.cell? ((⟨g, 0, none⟩ : Addr).add j) = some u := by
  intro j u hu
  have hadd : (⟨g, 0, none⟩ : Addr).add j = ⟨g, j, none⟩ := by unfold Addr.add; split <;> simp_all
  rw [hadd, h.cell, hu]
theorem row_some {w : World} {base : Nat} {e : TypeId} {size n : Nat} {v : Value} {xs : List Value} (h : w.ownsRow base e size v (n + 1) xs) : ∃ g cap, v = .slice (some ⟨g, 0, none⟩) (n + 1) cap ∧ base ≤ g ∧ n + 1 ≤ cap ∧ cap ≤ maxLen := by
  rcases h.2 with ⟨_, h0⟩ | ⟨g, cap, cur, rfl, hb, _, h1, h2, _⟩
  · omega
  · exact ⟨g, cap, rfl, hb, h1, h2⟩
theorem below_row {B : Nat} {a w w' : World} {v : Value} {e : TypeId} {size n : Nat} {xs : List Value} (h : Below B a w) (ho : w.ownsRow B e size v n xs) (hg : w.grownBy w' v.ownBlock) (hs : B ≤ w.heap.size) : Below B a w' :=
  Below.grown h hg hs fun k hk => (ho.lt k hk).1
set_option maxRecDepth 100000 in
set_option maxHeartbeats 12800000 in
theorem PointScaled_any (a b c d k x y : Int) (w : World) (ha : in64 a) (hb : in64 b) (hc : in64 c) (hd : in64 d) (hk : in64 k) (hx : in64 x) (hy : in64 y) (ht : Tab w) : Calls Tryd.prog 4 #[.int .i64 a, .int .i64 b, .int .i64 c, .int .i64 d, .int .i64 k, .int .i64 x, .int .i64 y] w (RetB w true) := by
  have bk := around_bd k (m := 16777216) (by omega)
  have bx' := around_bd x (m := 536870912) (by omega)
  have by' := around_bd y (m := 536870912) (by omega)
  have HAk : Hid (∀ u, Calls Tryd.prog 20 #[.int .i64 k, .int .i64 16777216] u (RetInt u (around k 16777216))) := Lib.hid fun u => Around_any k 16777216 u hk.1 hk.2 (by omega) (by omega)
  have HAx : Hid (∀ u, Calls Tryd.prog 20 #[.int .i64 x, .int .i64 536870912] u (RetInt u (around x 536870912))) := Lib.hid fun u => Around_any x 536870912 u hx.1 hx.2 (by omega) (by omega)
  have HAy : Hid (∀ u, Calls Tryd.prog 20 #[.int .i64 y, .int .i64 536870912] u (RetInt u (around y 536870912))) := Lib.hid fun u => Around_any y 536870912 u hy.1 hy.2 (by omega) (by omega)
  generalize around k 16777216 = nk at *
  generalize around x 536870912 = nx at *
  generalize around y 536870912 = ny at *
  have HGa : Hid (∀ u, Calls Tryd.prog 21 #[.int .i64 a] u (RetG u (gX (around a 1048576)) (gY (around a 1048576)))) := Lib.hid fun u => Grid_any a u ha.1 ha.2
  have HGb : Hid (∀ u, Calls Tryd.prog 21 #[.int .i64 b] u (RetG u (gX (around b 1048576)) (gY (around b 1048576)))) := Lib.hid fun u => Grid_any b u hb.1 hb.2
  have HGc : Hid (∀ u, Calls Tryd.prog 21 #[.int .i64 c] u (RetG u (gX (around c 1048576)) (gY (around c 1048576)))) := Lib.hid fun u => Grid_any c u hc.1 hc.2
  have HGd : Hid (∀ u, Calls Tryd.prog 21 #[.int .i64 d] u (RetG u (gX (around d 1048576)) (gY (around d 1048576)))) := Lib.hid fun u => Grid_any d u hd.1 hd.2
  have qa := gX_bd (around a 1048576)
  have qa' := gY_bd (around a 1048576)
  have qb := gX_bd (around b 1048576)
  have qb' := gY_bd (around b 1048576)
  have qc := gX_bd (around c 1048576)
  have qc' := gY_bd (around c 1048576)
  have qd := gX_bd (around d 1048576)
  have qd' := gY_bd (around d 1048576)
  generalize gX (around a 1048576) = a0 at *
  generalize gY (around a 1048576) = a1 at *
  generalize gX (around b 1048576) = b0 at *
  generalize gY (around b 1048576) = b1 at *
  generalize gX (around c 1048576) = e0 at *
  generalize gY (around c 1048576) = e1 at *
  generalize gX (around d 1048576) = f0 at *
  generalize gY (around d 1048576) = f1 at *
  obtain ⟨lx, hlx⟩ : ∃ f, f = of4 a0 b0 e0 f0 := ⟨_, rfl⟩
  obtain ⟨ly, hly⟩ : ∃ f, f = of4 a1 b1 e1 f1 := ⟨_, rfl⟩
  have blx : ∀ k, 0 ≤ lx k ∧ lx k ≤ 32 := fun k => hlx ▸ of4_bd qa qb qc qd k
  have bly : ∀ k, 0 ≤ ly k ∧ ly k ≤ 32 := fun k => hly ▸ of4_bd qa' qb' qc' qd' k
  have hN : 0 < 1 + nk := by omega
  obtain ⟨mx, hmx⟩ : ∃ f : Nat → Int, f = fun k => (1 + nk) * lx k + (nx - 268435456) := ⟨_, rfl⟩
  obtain ⟨my, hmy⟩ : ∃ f : Nat → Int, f = fun k => (1 + nk) * ly k + (ny - 268435456) := ⟨_, rfl⟩
  have bmx : ∀ k, -1073741824 ≤ mx k ∧ mx k ≤ 1073741824 := fun k => by
    have h1 := Int.mul_le_mul (show 1 + nk ≤ 16777216 by omega) (blx k).2 (blx k).1 (by omega)
    have h2 := Int.mul_nonneg (show 0 ≤ 1 + nk by omega) (blx k).1
    rw [hmx]
    dsimp only
    omega
  have bmy : ∀ k, -1073741824 ≤ my k ∧ my k ≤ 1073741824 := fun k => by
    have h1 := Int.mul_le_mul (show 1 + nk ≤ 16777216 by omega) (bly k).2 (bly k).1 (by omega)
    have h2 := Int.mul_nonneg (show 0 ≤ 1 + nk by omega) (bly k).1
    rw [hmy]
    dsimp only
    omega
  have HLX := Lib.hid hlx
  have HLY := Lib.hid hly
  have HMX := Lib.hid hmx
  have HMY := Lib.hid hmy
  have HBL := Lib.hid blx
  have HBL' := Lib.hid bly
  have HBM := Lib.hid bmx
  have HBM' := Lib.hid bmy
  clear hlx hly hmx hmy blx bly bmx bmy
  go_enter Tryd.func4, Tryd.ntmps4
  go_wp2_with fail
  refine (HAk.out _).mono ?_
  rintro e w1 ⟨rfl, k1⟩
  go_wp2_with fail
  refine (HAx.out _).mono ?_
  rintro e w2 ⟨rfl, k2⟩
  go_wp2_with fail
  refine (HAy.out _).mono ?_
  rintro e w3 ⟨rfl, k3⟩
  go_upto_region 3 with fail
  refine wp_new1 fun w4 hBy k4 => ?_
  go_wp2_with fail
  refine (HGa.out _).mono ?_
  rintro e w5 ⟨rfl, k5⟩
  go_wp2_with fail
  refine (HGb.out _).mono ?_
  rintro e w6 ⟨rfl, k6⟩
  go_wp2_with fail
  refine (HGc.out _).mono ?_
  rintro e w7 ⟨rfl, k7⟩
  go_wp2_with fail
  refine (HGd.out _).mono ?_
  rintro e w8 ⟨rfl, k8⟩
  go_upto_region 4 with fail
  refine wp_new1 fun W hL k9 => ?_
  have j9 := Below.call (Below.call (Below.call (Below.call k5 k6) k7) k8) k9
  have hB := Below.call (Below.call (Below.call (Below.call k1 k2) k3) k4) j9
  have hBW := hBy.on j9
  have hL : Own W w8.heap.size 40 (list4 lx ly) := by rw [HLX.out, HLY.out]; exact hL
  generalize w8.heap.size = gl at hL ⊢
  generalize w3.heap.size = bY at hBW ⊢
  clear HAk HAx HAy HGa HGb HGc HGd hBy qa qa' qb qb' qc qc' qd qd'
  have hglb := hL.lt
  go_wp2_with fail
  go_loopw [18, 19] (fun s18 i wr => ∃ (k : Nat) (v : Value), k ≤ 4 ∧ i = .int .i64 k ∧ s18 = v ∧ wr.ownsRow W.heap.size 40 2 v k ((list4 mx my).take (k * 2)) ∧ Below W.heap.size W wr) (fun _ i _ => 4 - (intOf i).toNat)
  case atStart => exact ⟨0, _, by omega, rfl, rfl, World.ownsRow_nil _ _ _ _, Below.refl _ _⟩
  case round =>
    obtain ⟨k, v, hk4, rfl, hv, hown, hbk⟩ := hrel
    have hv' := hv.symm
    subst hv'
    by_cases hlt : k < 4
    · have hBr := hBW.on hbk
      have hLr := hL.on hbk
      obtain ⟨LX, hLX⟩ : ∃ v, v = lx k := ⟨_, rfl⟩
      obtain ⟨LY, hLY⟩ : ∃ v, v = ly k := ⟨_, rfl⟩
      obtain ⟨MX, hMX⟩ : ∃ v, v = mx k := ⟨_, rfl⟩
      obtain ⟨MY, hMY⟩ : ∃ v, v = my k := ⟨_, rfl⟩
      have c1 := HBL.out k
      have c2 := HBL'.out k
      have c3 := HBM.out k
      have c4 := HBM'.out k
      have HSc : Hid (∀ u, Calls Tryd.prog 22 #[.agg #[.int .i64 LX, .int .i64 LY], .int .i64 (1 + nk), .agg #[.int .i64 (nx - 268435456), .int .i64 (ny - 268435456)]] u (RetG u MX MY)) := Lib.hid fun u => by
        rw [hMX, hMY, HMX.out, HMY.out, hLX, hLY]
        exact RScaled_any _ _ _ _ _ u c1.1 c1.2 c2.1 c2.2 (by omega) (by omega) (by omega) (by omega) (by omega) (by omega)
      have hg0 : goodV MX MY = 0 := by rw [hMX, hMY]; simp [goodV, goodC]; omega
      have HVa : Hid (∀ u, Calls Tryd.prog 23 #[.agg #[.int .i64 MX, .int .i64 MY]] u (RetInt u 0)) := Lib.hid fun u => PValid_e hg0
      have rlk : ∀ wz, Below wr.heap.size wr wz → wz.cell? ⟨gl, k * 2, none⟩ = some (.int .i64 LX) ∧ wz.cell? ⟨gl, k * 2 + 1, none⟩ = some (.int .i64 LY) := fun wz hwz => by
        rw [(hLr.on hwz).cell, (hLr.on hwz).cell, hLX, hLY]
        exact list4_at lx ly hlt
      have htk : (list4 mx my).take (k * 2) ++ [.int .i64 MX, .int .i64 MY] = (list4 mx my).take ((k + 1) * 2) := by rw [hMX, hMY]; exact list4_take mx my hlt
      have HTK := Lib.hid htk
      have HMM := Lib.hid (And.intro hMX hMY)
      clear hLX hLY hMX hMY hg0 htk c1 c2 c3 c4
      have m0 : (0 : Int) ≤ (k : Int) := by omega
      have m4 : (k : Int) < 4 := by omega
      go_wp2_with fail
      refine wp_region_suffix (R := Bel) wr 9 [Spec.eq v, Spec.eq (.slice (some ⟨gl, 0, none⟩) 4 4), Spec.eq (.int .i64 (k : Int)), Spec.eq (.pointer (some ⟨gl, k * 2, none⟩)), Spec.eq (.agg #[.int .i64 LX, .int .i64 LY]), Spec.eq (.int .i64 (1 + nk)), Spec.eq (.agg #[.int .i64 (nx - 268435456), .int .i64 (ny - 268435456)]), Spec.eq (.agg #[.int .i64 MX, .int .i64 MY]), sOwn wr.heap.size 1 40 ([.int .i64 MX, .int .i64 MY])]
          (by kernel_rfl) (by kernel_rfl) rfl (by kernel_rfl) (by kernel_rfl) (Below.drew (Below.refl _ _)) ?_ ?_
      ·
        refine RegSteps.cons ?_ ?_
        · intro _ az wz hC hF hD _ K hK
          have q18 : az.tmps[18]? = some v := hF 18 rfl
          clear hF hD
          refine want_none rfl ?_
          go_simp
          exact hK _ _ hC (Below.refl _ _) rfl
        refine RegSteps.cons ?_ ?_
        · intro _ az wz hC hF hD _ K hK
          have q17 : az.tmps[17]? = some (.slice (some ⟨gl, 0, none⟩) 4 4) := hF 17 rfl
          clear hF hD
          refine want_none rfl ?_
          go_simp
          exact hK _ _ hC (Below.refl _ _) rfl
        refine RegSteps.cons ?_ ?_
        · intro _ az wz hC hF hD _ K hK
          have q19 : az.tmps[19]? = some (.int .i64 (k : Int)) := hF 19 rfl
          clear hF hD
          refine want_none rfl ?_
          go_simp
          exact hK _ _ hC (Below.refl _ _) rfl
        refine RegSteps.cons ?_ ?_
        · intro _ az wz hC hF hD _ K hK
          obtain ⟨_, q48, rfl⟩ := dep hD 1 rfl rfl rfl rfl
          obtain ⟨_, q49, rfl⟩ := dep hD 2 rfl rfl rfl rfl
          clear hF hD
          refine want_none rfl ?_
          go_simp
          exact hK _ _ hC (Below.refl _ _) rfl
        refine RegSteps.cons ?_ ?_
        · intro _ az wz hC hF hD _ K hK
          obtain ⟨_, q50, rfl⟩ := dep hD 3 rfl rfl rfl rfl
          obtain ⟨l0, l1⟩ := rlk _ hC
          clear hF hD
          refine want_none rfl ?_
          go_simp
          exact hK _ _ hC (Below.refl _ _) rfl
        refine RegSteps.cons ?_ ?_
        · intro _ az wz hC hF hD _ K hK
          have q15 : az.tmps[15]? = some (.int .i64 (1 + nk)) := hF 15 rfl
          clear hF hD
          refine want_none rfl ?_
          go_simp
          exact hK _ _ hC (Below.refl _ _) rfl
        refine RegSteps.cons ?_ ?_
        · intro _ az wz hC hF hD _ K hK
          have q16 : az.tmps[16]? = some (.pointer (some ⟨bY, 0, none⟩)) := hF 16 rfl
          obtain ⟨l0, l1, _⟩ := (hBr.on hC).all2
          clear hF hD
          refine want_none rfl ?_
          go_simp
          exact hK _ _ hC (Below.refl _ _) rfl
        refine RegSteps.cons ?_ ?_
        · intro _ az wz hC hF hD _ K hK
          obtain ⟨_, q51, rfl⟩ := dep hD 4 rfl rfl rfl rfl
          obtain ⟨_, q52, rfl⟩ := dep hD 5 rfl rfl rfl rfl
          obtain ⟨_, q53, rfl⟩ := dep hD 6 rfl rfl rfl rfl
          clear hF hD
          refine want_none rfl ?_
          go_simp
          refine (HSc.out _).mono ?_
          rintro e wy ⟨rfl, k⟩
          exact hK _ _ (Below.call hC k) k rfl
        refine RegSteps.cons ?_ ?_
        · intro _ az wz hC hF hD _ K hK
          obtain ⟨_, q54, rfl⟩ := dep hD 7 rfl rfl rfl rfl
          clear hF hD
          refine want_none rfl ?_
          go_simp
          exact hK _ _ (Below.alloc hC hC.size _) (below_new _ _) ⟨_, rfl, hC.size, Own.new wz 40 [.int .i64 MX, .int .i64 MY]⟩
        exact RegSteps.nil
      intro w10 hC10
      rintro v rfl _ rfl _ rfl _ rfl _ rfl _ rfl _ rfl _ rfl _ ⟨y55, rfl, hy55⟩
      simp only [List.take, FinOK, Act.put, List.setIfInBounds_toArray, List.set_cons_zero, List.set_cons_succ]
      simp only [List.drop, TailOK]
      have hown2 := owns_on hown hC10
      have hb10 := Below.call hbk hC10
      intro K hK
      refine want_none rfl ?_
      obtain ⟨i0, hi, hz0, hz1, hz2⟩ := info_parts pt_info
      refine wp_append_own w10 (Operand.tmp 47) (Operand.tmp 55) 52 rfl W.heap.size 40 i0 (.agg #[.int .i64 0, .int .i64 0]) 2 16 Tryd.underlying52 hi hz0 hz1 hz2 rfl (by decide) v k _ rfl hown2 ⟨y55, 0, none⟩ 1 1 [.int .i64 MX, .int .i64 MY] rfl rfl (own_news hy55.2) ?_ ?_ ?_ ?_ ?_
      · simp [Value.oneCell']
      · unfold maxLen; omega
      · omega
      · exact hb10.size
      intro v' w' hown' hgrow _
      refine hK _ _ ?_
      clear hK K
      intro K hK
      refine want_none rfl ?_
      simp only [Act.put, List.setIfInBounds_toArray, List.set_cons_zero, List.set_cons_succ]
      go_simp
      refine hK _ _ ?_
      clear hK K hi hz0 hz1 hz2 i0
      have hbw := below_row hb10 hown2 hgrow hb10.size
      rw [HTK.out] at hown'
      obtain ⟨gm, cap, hv, hgm, hcap, hcapm⟩ := row_some hown'
      rw [hv] at hown' ⊢
      have hcl := list4_at mx my hlt
      have x0 : w'.cell? ⟨gm, k * 2, none⟩ = some (.int .i64 MX) := by
        rw [hown'.cellAt (k * 2) (by omega), HMM.out.1, List.getElem?_take_of_lt (by omega)]
        exact hcl.1
      have x1 : w'.cell? ⟨gm, k * 2 + 1, none⟩ = some (.int .i64 MY) := by
        rw [hown'.cellAt (k * 2 + 1) (by omega), HMM.out.2, List.getElem?_take_of_lt (by omega)]
        exact hcl.2
      have HO := Lib.hid hown'
      have HB := Lib.hid hbw
      clear hv hown' hbw hcl hown hown2 hgrow rlk hBr hLr hC10 hb10 hy55
      have m5 : (k : Int) < (k : Int) + 1 := by omega
      go_wp2_with fail
      refine (HVa.out _).mono ?_
      rintro e w12 ⟨rfl, k12⟩
      clear x0 x1
      go_wp2_with fail
      go_roundw
      case rel => exact ⟨k + 1, _, by omega, by go_num, by go_num, owns_on HO.out k12, Below.call HB.out k12⟩
      case measure => simp [intOf]; omega
    · obtain rfl : k = 4 := by omega
      clear hlt hk4
      obtain ⟨gm, cap, hv, hgm, hcap, hcapm⟩ := row_some hown
      rw [hv] at hown ⊢
      clear hv
      have rL : ∀ wz, Below W.heap.size W wz → ∀ j, j < 4 → wz.cell? ⟨gl, j * 2, none⟩ = some (.int .i64 (lx j)) ∧ wz.cell? ⟨gl, j * 2 + 1, none⟩ = some (.int .i64 (ly j)) := fun wz hwz j hj => by
        rw [(hL.on hwz).cell, (hL.on hwz).cell]
        exact list4_at lx ly hj
      have rM : ∀ wz, Below wr.heap.size wr wz → ∀ j, j < 4 → wz.cell? ⟨gm, j * 2, none⟩ = some (.int .i64 (mx j)) ∧ wz.cell? ⟨gm, j * 2 + 1, none⟩ = some (.int .i64 (my j)) := fun wz hwz j hj => by
        have h := owns_on hown hwz
        rw [h.cellAt (j * 2) (by omega), h.cellAt (j * 2 + 1) (by omega), List.getElem?_take_of_lt (by omega), List.getElem?_take_of_lt (by omega)]
        exact list4_at mx my hj
      obtain ⟨w0, hw0⟩ : ∃ w0 : World, w0 = wr := ⟨_, rfl⟩
      have RL : Hid (∀ wz, Below w0.heap.size w0 wz → ∀ j, j < 4 → wz.cell? ⟨gl, j * 2, none⟩ = some (.int .i64 (lx j)) ∧ wz.cell? ⟨gl, j * 2 + 1, none⟩ = some (.int .i64 (ly j))) := Lib.hid fun wz hwz => rL wz (Below.call hbk (hw0 ▸ hwz))
      have RM : Hid (∀ wz, Below w0.heap.size w0 wz → ∀ j, j < 4 → wz.cell? ⟨gm, j * 2, none⟩ = some (.int .i64 (mx j)) ∧ wz.cell? ⟨gm, j * 2 + 1, none⟩ = some (.int .i64 (my j))) := Lib.hid fun wz hwz => rM wz (hw0 ▸ hwz)
      have HB0 : Below w.heap.size w w0 := hw0 ▸ Below.call hB hbk
      have htw := ht.on HB0
      have HB00 : Below w0.heap.size w0 wr := hw0 ▸ Below.refl _ _
      clear rL rM hown hbk hL hBW hgm hw0
      go_wp2_with fail
      obtain ⟨wo, rfl⟩ : ∃ wo : World, wo = wr := ⟨_, rfl⟩
      go_loopw [20] (fun i wr => ∃ k : Nat, k ≤ 4 ∧ i = .int .i64 k ∧ Below w0.heap.size w0 wr) (fun i _ => 4 - (intOf i).toNat)
      case atStart => exact ⟨0, by omega, rfl, HB00⟩
      case round =>
        obtain ⟨k, hk4, rfl, hbk⟩ := hrel
        by_cases hlt : k < 4
        · have k0' : (0 : Int) ≤ (k : Int) := by omega
          have k4' : (k : Int) < 4 := by omega
          go_wp2_with fail
          obtain ⟨wp, rfl⟩ : ∃ wp : World, wp = wr := ⟨_, rfl⟩
          go_loopw [21] (fun i wr => ∃ m : Nat, m ≤ 4 ∧ i = .int .i64 m ∧ Below w0.heap.size w0 wr) (fun i _ => 4 - (intOf i).toNat)
          case atStart => exact ⟨0, by omega, rfl, hbk⟩
          case round =>
            obtain ⟨m, hm4, rfl, hbm⟩ := hrel
            by_cases hmlt : m < 4
            · have m0' : (0 : Int) ≤ (m : Int) := by omega
              have m4' : (m : Int) < 4 := by omega
              have c1 := HBL.out
              have c2 := HBL'.out
              have c3 := HBM.out
              have c4 := HBM'.out
              have eX := HMX.out
              have eY := HMY.out
              have gx : ∀ j, mx j = (1 + nk) * lx j + (nx - 268435456) := fun j => by rw [eX]
              have gy : ∀ j, my j = (1 + nk) * ly j + (ny - 268435456) := fun j => by rw [eY]
              obtain ⟨c, ec⟩ : ∃ c, c = cmpPt (lx k) 1 (ly k) 1 (lx m) 1 (ly m) 1 := ⟨_, rfl⟩
              obtain ⟨bi, eb1⟩ : ∃ c, c = inB (lx k) (ly k) (lx m) (ly m) (lx 0) 1 (ly 0) 1 := ⟨_, rfl⟩
              obtain ⟨bm, eb2⟩ : ∃ c, c = meets (lx k) (ly k) (lx m) (ly m) (lx 0) (ly 0) (lx 1) (ly 1) := ⟨_, rfl⟩
              have HC1 : Hid (∀ (s t : PV) u, s.is u (lx k) 1 (ly k) 1 → t.is u (lx m) 1 (ly m) 1 → Calls Tryd.prog 13 #[.agg #[.bool s.x.p.neg, .slice s.x.p.A s.x.p.n s.x.p.c, .bool s.x.l.neg, .slice s.x.l.A s.x.l.n s.x.l.c, .bool s.y.p.neg, .slice s.y.p.A s.y.p.n s.y.p.c, .bool s.y.l.neg, .slice s.y.l.A s.y.l.n s.y.l.c], .agg #[.bool t.x.p.neg, .slice t.x.p.A t.x.p.n t.x.p.c, .bool t.x.l.neg, .slice t.x.l.A t.x.l.n t.x.l.c, .bool t.y.p.neg, .slice t.y.p.A t.y.p.n t.y.p.c, .bool t.y.l.neg, .slice t.y.l.A t.y.l.n t.y.l.c]] u (RetInt u c)) := Lib.hid fun s t u hs ht => ec ▸ PCompare_any hs ht
              have HC2 : Hid (∀ (s t : PV) u, s.is u (mx k) 1 (my k) 1 → t.is u (mx m) 1 (my m) 1 → Calls Tryd.prog 13 #[.agg #[.bool s.x.p.neg, .slice s.x.p.A s.x.p.n s.x.p.c, .bool s.x.l.neg, .slice s.x.l.A s.x.l.n s.x.l.c, .bool s.y.p.neg, .slice s.y.p.A s.y.p.n s.y.p.c, .bool s.y.l.neg, .slice s.y.l.A s.y.l.n s.y.l.c], .agg #[.bool t.x.p.neg, .slice t.x.p.A t.x.p.n t.x.p.c, .bool t.x.l.neg, .slice t.x.l.A t.x.l.n t.x.l.c, .bool t.y.p.neg, .slice t.y.p.A t.y.p.n t.y.p.c, .bool t.y.l.neg, .slice t.y.l.A t.y.l.n t.y.l.c]] u (RetInt u c)) := Lib.hid fun s t u hs ht => by
                have h := PCompare_any hs ht
                rw [gx, gy, gx, gy, cmpPt_lin _ _ hN, ← ec] at h
                exact h
              have hin : ∀ f : Nat → Int, (∀ j, 0 ≤ f j ∧ f j ≤ 32) → ∀ j, Hid (in64 (f j)) := fun f h j => Lib.hid ⟨by have := h j; omega, by have := h j; omega⟩
              have him : ∀ f : Nat → Int, (∀ j, -1073741824 ≤ f j ∧ f j ≤ 1073741824) → ∀ j, Hid (in64 (f j)) := fun f h j => Lib.hid ⟨by have := h j; omega, by have := h j; omega⟩
              have HI1 : Hid (∀ (s : PV) u, s.is u (lx 0) 1 (ly 0) 1 → Calls Tryd.prog 24 #[.agg #[.int .i64 (lx k), .int .i64 (ly k), .int .i64 (lx m), .int .i64 (ly m)], .agg #[.bool s.x.p.neg, .slice s.x.p.A s.x.p.n s.x.p.c, .bool s.x.l.neg, .slice s.x.l.A s.x.l.n s.x.l.c, .bool s.y.p.neg, .slice s.y.p.A s.y.p.n s.y.p.c, .bool s.y.l.neg, .slice s.y.l.A s.y.l.n s.y.l.c]] u (RetB u bi)) := Lib.hid fun s u hs => eb1 ▸ PIn_any hs (hin lx c1 k) (hin ly c2 k) (hin lx c1 m) (hin ly c2 m)
              have HI2 : Hid (∀ (s : PV) u, s.is u (mx 0) 1 (my 0) 1 → Calls Tryd.prog 24 #[.agg #[.int .i64 (mx k), .int .i64 (my k), .int .i64 (mx m), .int .i64 (my m)], .agg #[.bool s.x.p.neg, .slice s.x.p.A s.x.p.n s.x.p.c, .bool s.x.l.neg, .slice s.x.l.A s.x.l.n s.x.l.c, .bool s.y.p.neg, .slice s.y.p.A s.y.p.n s.y.p.c, .bool s.y.l.neg, .slice s.y.l.A s.y.l.n s.y.l.c]] u (RetB u bi)) := Lib.hid fun s u hs => by
                have h := PIn_any hs (him mx c3 k) (him my c4 k) (him mx c3 m) (him my c4 m)
                have e : inB (mx k) (my k) (mx m) (my m) (mx 0) 1 (my 0) 1 = bi := by rw [gx, gy, gx, gy, gx, gy, inB_lin _ _ hN, eb1]
                rw [e] at h
                exact h
              have HM1 : Hid (∀ u, Calls Tryd.prog 25 #[.agg #[.int .i64 (lx k), .int .i64 (ly k), .int .i64 (lx m), .int .i64 (ly m)], .agg #[.int .i64 (lx 0), .int .i64 (ly 0), .int .i64 (lx 1), .int .i64 (ly 1)]] u (RetB u bm)) := Lib.hid fun u => eb2 ▸ PMeets_any _ _ _ _ _ _ _ _ u
              have HM2 : Hid (∀ u, Calls Tryd.prog 25 #[.agg #[.int .i64 (mx k), .int .i64 (my k), .int .i64 (mx m), .int .i64 (my m)], .agg #[.int .i64 (mx 0), .int .i64 (my 0), .int .i64 (mx 1), .int .i64 (my 1)]] u (RetB u bm)) := Lib.hid fun u => by
                have h := PMeets_any (mx k) (my k) (mx m) (my m) (mx 0) (my 0) (mx 1) (my 1) u
                have e : meets (mx k) (my k) (mx m) (my m) (mx 0) (my 0) (mx 1) (my 1) = bm := by rw [gx, gy, gx, gy, gx, gy, gx, gy, meets_lin _ _ hN, eb2]
                rw [e] at h
                exact h
              have ho : ∀ X Y : Int, Hid (in64 X) → Hid (in64 Y) → Hid (∀ u, Calls Tryd.prog 17 #[.agg #[.int .i64 X, .int .i64 Y]] u (RetP u X 1 Y 1)) := fun X Y hX hY => Lib.hid fun u => POf_any X Y u hX.out.1 hX.out.2 hY.out.1 hY.out.2
              have HO1 := ho (lx k) (ly k) (hin lx c1 k) (hin ly c2 k)
              have HO2 := ho (lx m) (ly m) (hin lx c1 m) (hin ly c2 m)
              have HO3 := ho (mx k) (my k) (him mx c3 k) (him my c4 k)
              have HO4 := ho (mx m) (my m) (him mx c3 m) (him my c4 m)
              have HOl := ho (lx 0) (ly 0) (hin lx c1 0) (hin ly c2 0)
              have HOm := ho (mx 0) (my 0) (him mx c3 0) (him my c4 0)
              have rlk := fun wz h => RL.out wz h k hlt
              have rlm := fun wz h => RL.out wz h m hmlt
              have rl0 : ∀ wz, Below w0.heap.size w0 wz → wz.cell? ⟨gl, 0, none⟩ = some (.int .i64 (lx 0)) ∧ wz.cell? ⟨gl, 1, none⟩ = some (.int .i64 (ly 0)) := fun wz h => RL.out wz h 0 (by omega)
              have rl1 : ∀ wz, Below w0.heap.size w0 wz → wz.cell? ⟨gl, 2, none⟩ = some (.int .i64 (lx 1)) ∧ wz.cell? ⟨gl, 3, none⟩ = some (.int .i64 (ly 1)) := fun wz h => RL.out wz h 1 (by omega)
              have rmk := fun wz h => RM.out wz h k hlt
              have rmm := fun wz h => RM.out wz h m hmlt
              have rm0 : ∀ wz, Below w0.heap.size w0 wz → wz.cell? ⟨gm, 0, none⟩ = some (.int .i64 (mx 0)) ∧ wz.cell? ⟨gm, 1, none⟩ = some (.int .i64 (my 0)) := fun wz h => RM.out wz h 0 (by omega)
              have rm1 : ∀ wz, Below w0.heap.size w0 wz → wz.cell? ⟨gm, 2, none⟩ = some (.int .i64 (mx 1)) ∧ wz.cell? ⟨gm, 3, none⟩ = some (.int .i64 (my 1)) := fun wz h => RM.out wz h 1 (by omega)
              clear ec eb1 eb2 gx gy eX eY hin him ho c1 c2 c3 c4
              generalize lx k = LX at HC1 HI1 HM1 HO1 rlk
              generalize ly k = LY at HC1 HI1 HM1 HO1 rlk
              generalize lx m = LX2 at HC1 HI1 HM1 HO2 rlm
              generalize ly m = LY2 at HC1 HI1 HM1 HO2 rlm
              generalize lx 0 = a0 at HI1 HM1 HOl rl0
              generalize ly 0 = a1 at HI1 HM1 HOl rl0
              generalize lx 1 = b0 at HM1 rl1
              generalize ly 1 = b1 at HM1 rl1
              generalize mx k = MX at HC2 HI2 HM2 HO3 rmk
              generalize my k = MY at HC2 HI2 HM2 HO3 rmk
              generalize mx m = MX2 at HC2 HI2 HM2 HO4 rmm
              generalize my m = MY2 at HC2 HI2 HM2 HO4 rmm
              generalize mx 0 = c0 at HI2 HM2 HOm rm0
              generalize my 0 = c1 at HI2 HM2 HOm rm0
              generalize mx 1 = d0 at HM2 rm1
              generalize my 1 = d1 at HM2 rm1
              go_wp2_with fail
              refine wp_region_boxes wr [Spec.eq (.slice (some ⟨gl, 0, none⟩) 4 4), Spec.eq (.int .i64 (k : Int)), Spec.eq (.pointer (some ⟨gl, k * 2, none⟩)), Spec.eq (.agg #[.int .i64 LX, .int .i64 LY]), Spec.eq (.slice (some ⟨gl, 0, none⟩) 4 4), Spec.eq (.int .i64 (m : Int)), Spec.eq (.pointer (some ⟨gl, m * 2, none⟩)), Spec.eq (.agg #[.int .i64 LX2, .int .i64 LY2]), Spec.eq (.agg #[.int .i64 LX, .int .i64 LY, .int .i64 LX2, .int .i64 LY2]), Spec.any, Spec.any]
                  [{ A := 9, j := 10, t := 22, T := 56, zs := [.int .i64 0, .int .i64 0, .int .i64 0, .int .i64 0], X := fun us _ => us = [.int .i64 LX, .int .i64 LY, .int .i64 LX2, .int .i64 LY2], up := fun e _ => e }]
                  (by kernel_rfl) (by kernel_rfl) rfl (by kernel_rfl) rfl (Below.drew (Below.refl _ _)) ?_ ?_ ⟨rfl, rfl, trivial⟩ ?_
              ·
                refine RegSteps.cons ?_ ?_
                · intro _ az wz hC hF hD _ K hK
                  have q17 : az.tmps[17]? = some (.slice (some ⟨gl, 0, none⟩) 4 4) := hF 17 rfl
                  clear hF hD
                  refine want_none rfl ?_
                  go_simp
                  exact hK _ _ hC (Below.refl _ _) rfl
                refine RegSteps.cons ?_ ?_
                · intro _ az wz hC hF hD _ K hK
                  have q20 : az.tmps[20]? = some (.int .i64 (k : Int)) := hF 20 rfl
                  clear hF hD
                  refine want_none rfl ?_
                  go_simp
                  exact hK _ _ hC (Below.refl _ _) rfl
                refine RegSteps.cons ?_ ?_
                · intro _ az wz hC hF hD _ K hK
                  obtain ⟨_, q71, rfl⟩ := dep hD 0 rfl rfl rfl rfl
                  obtain ⟨_, q72, rfl⟩ := dep hD 1 rfl rfl rfl rfl
                  clear hF hD
                  refine want_none rfl ?_
                  go_simp
                  exact hK _ _ hC (Below.refl _ _) rfl
                refine RegSteps.cons ?_ ?_
                · intro _ az wz hC hF hD _ K hK
                  obtain ⟨_, q73, rfl⟩ := dep hD 2 rfl rfl rfl rfl
                  obtain ⟨l0, l1⟩ := rlk _ (Below.call hbm hC)
                  clear hF hD
                  refine want_none rfl ?_
                  go_simp
                  exact hK _ _ hC (Below.refl _ _) rfl
                refine RegSteps.cons ?_ ?_
                · intro _ az wz hC hF hD _ K hK
                  have q17 : az.tmps[17]? = some (.slice (some ⟨gl, 0, none⟩) 4 4) := hF 17 rfl
                  clear hF hD
                  refine want_none rfl ?_
                  go_simp
                  exact hK _ _ hC (Below.refl _ _) rfl
                refine RegSteps.cons ?_ ?_
                · intro _ az wz hC hF hD _ K hK
                  have q21 : az.tmps[21]? = some (.int .i64 (m : Int)) := hF 21 rfl
                  clear hF hD
                  refine want_none rfl ?_
                  go_simp
                  exact hK _ _ hC (Below.refl _ _) rfl
                refine RegSteps.cons ?_ ?_
                · intro _ az wz hC hF hD _ K hK
                  obtain ⟨_, q75, rfl⟩ := dep hD 4 rfl rfl rfl rfl
                  obtain ⟨_, q76, rfl⟩ := dep hD 5 rfl rfl rfl rfl
                  clear hF hD
                  refine want_none rfl ?_
                  go_simp
                  exact hK _ _ hC (Below.refl _ _) rfl
                refine RegSteps.cons ?_ ?_
                · intro _ az wz hC hF hD _ K hK
                  obtain ⟨_, q77, rfl⟩ := dep hD 6 rfl rfl rfl rfl
                  obtain ⟨l0, l1⟩ := rlm _ (Below.call hbm hC)
                  clear hF hD
                  refine want_none rfl ?_
                  go_simp
                  exact hK _ _ hC (Below.refl _ _) rfl
                refine RegSteps.cons ?_ ?_
                · intro _ az wz hC hF hD _ K hK
                  obtain ⟨_, q74, rfl⟩ := dep hD 3 rfl rfl rfl rfl
                  obtain ⟨_, q78, rfl⟩ := dep hD 7 rfl rfl rfl rfl
                  clear hF hD
                  refine want_none rfl ?_
                  go_simp
                  exact hK _ _ hC (Below.refl _ _) rfl
                refine RegSteps.cons ?_ ?_
                · exact fun h => by cases h
                refine RegSteps.cons ?_ ?_
                · exact fun h => by cases h
                exact RegSteps.nil
              · refine ⟨?_, trivial⟩
                · refine ⟨⟨_, rfl, rfl, rfl, fun az wz K hK => by go_simp; exact hK⟩, ⟨_, rfl, rfl, rfl, ?_⟩, by simp [Word], by simp⟩
                  intro az wz gz cs hC hF hD hA K hK
                  obtain ⟨p1, p2, p3, p4, p5⟩ := hA
                  obtain ⟨_, q79, rfl⟩ := dep hD 8 rfl rfl rfl rfl
                  obtain ⟨c0, c1, c2, c3, rfl⟩ := list_4 (l := cs) p4
                  have z0 := p3.c0
                  have z1 := p3.c1
                  have z2 := p3.c2
                  have z3 := p3.c3
                  have f0 := p3.frozen 0
                  have f1 := p3.frozen 1
                  have f2 := p3.frozen 2
                  have f3 := p3.frozen 3
                  clear hF hD p3 p5
                  refine want_none rfl ?_
                  go_simp
                  exact hK [.int .i64 LX, .int .i64 LY, .int .i64 LX2, .int .i64 LY2] rfl (by simp [Word]) rfl
              intro w10 gs hC10 hgl hbf
              obtain ⟨gu, rfl⟩ := list_1 hgl
              obtain ⟨⟨hg0, us0, hOb0, rfl⟩, _⟩ := hbf
              rintro _ rfl _ rfl _ rfl _ rfl _ rfl _ rfl _ rfl _ rfl _ rfl _ rfl _ _
              simp only [FinOK, Act.put, List.setIfInBounds_toArray, List.set_cons_zero, List.set_cons_succ]
              have hb10 := Below.call hbm hC10
              have hU := hOb0
              clear hOb0
              go_wp2_with fail
              refine wp_region_boxes w10 [Spec.eq (.slice (some ⟨gm, 0, none⟩) 4 cap), Spec.eq (.int .i64 (k : Int)), Spec.eq (.pointer (some ⟨gm, k * 2, none⟩)), Spec.eq (.agg #[.int .i64 MX, .int .i64 MY]), Spec.eq (.slice (some ⟨gm, 0, none⟩) 4 cap), Spec.eq (.int .i64 (m : Int)), Spec.eq (.pointer (some ⟨gm, m * 2, none⟩)), Spec.eq (.agg #[.int .i64 MX2, .int .i64 MY2]), Spec.eq (.agg #[.int .i64 MX, .int .i64 MY, .int .i64 MX2, .int .i64 MY2]), Spec.any, Spec.any]
                  [{ A := 9, j := 10, t := 23, T := 56, zs := [.int .i64 0, .int .i64 0, .int .i64 0, .int .i64 0], X := fun us _ => us = [.int .i64 MX, .int .i64 MY, .int .i64 MX2, .int .i64 MY2], up := fun e _ => e }]
                  (by kernel_rfl) (by kernel_rfl) rfl (by kernel_rfl) rfl (Below.drew (Below.refl _ _)) ?_ ?_ ⟨rfl, rfl, trivial⟩ ?_
              ·
                refine RegSteps.cons ?_ ?_
                · intro _ az wz hC hF hD _ K hK
                  have q18 : az.tmps[18]? = some (.slice (some ⟨gm, 0, none⟩) 4 cap) := hF 18 rfl
                  clear hF hD
                  refine want_none rfl ?_
                  go_simp
                  exact hK _ _ hC (Below.refl _ _) rfl
                refine RegSteps.cons ?_ ?_
                · intro _ az wz hC hF hD _ K hK
                  have q20 : az.tmps[20]? = some (.int .i64 (k : Int)) := hF 20 rfl
                  clear hF hD
                  refine want_none rfl ?_
                  go_simp
                  exact hK _ _ hC (Below.refl _ _) rfl
                refine RegSteps.cons ?_ ?_
                · intro _ az wz hC hF hD _ K hK
                  obtain ⟨_, q80, rfl⟩ := dep hD 0 rfl rfl rfl rfl
                  obtain ⟨_, q81, rfl⟩ := dep hD 1 rfl rfl rfl rfl
                  clear hF hD
                  refine want_none rfl ?_
                  go_simp
                  exact hK _ _ hC (Below.refl _ _) rfl
                refine RegSteps.cons ?_ ?_
                · intro _ az wz hC hF hD _ K hK
                  obtain ⟨_, q82, rfl⟩ := dep hD 2 rfl rfl rfl rfl
                  obtain ⟨l0, l1⟩ := rmk _ (Below.call hb10 hC)
                  clear hF hD
                  refine want_none rfl ?_
                  go_simp
                  exact hK _ _ hC (Below.refl _ _) rfl
                refine RegSteps.cons ?_ ?_
                · intro _ az wz hC hF hD _ K hK
                  have q18 : az.tmps[18]? = some (.slice (some ⟨gm, 0, none⟩) 4 cap) := hF 18 rfl
                  clear hF hD
                  refine want_none rfl ?_
                  go_simp
                  exact hK _ _ hC (Below.refl _ _) rfl
                refine RegSteps.cons ?_ ?_
                · intro _ az wz hC hF hD _ K hK
                  have q21 : az.tmps[21]? = some (.int .i64 (m : Int)) := hF 21 rfl
                  clear hF hD
                  refine want_none rfl ?_
                  go_simp
                  exact hK _ _ hC (Below.refl _ _) rfl
                refine RegSteps.cons ?_ ?_
                · intro _ az wz hC hF hD _ K hK
                  obtain ⟨_, q84, rfl⟩ := dep hD 4 rfl rfl rfl rfl
                  obtain ⟨_, q85, rfl⟩ := dep hD 5 rfl rfl rfl rfl
                  clear hF hD
                  refine want_none rfl ?_
                  go_simp
                  exact hK _ _ hC (Below.refl _ _) rfl
                refine RegSteps.cons ?_ ?_
                · intro _ az wz hC hF hD _ K hK
                  obtain ⟨_, q86, rfl⟩ := dep hD 6 rfl rfl rfl rfl
                  obtain ⟨l0, l1⟩ := rmm _ (Below.call hb10 hC)
                  clear hF hD
                  refine want_none rfl ?_
                  go_simp
                  exact hK _ _ hC (Below.refl _ _) rfl
                refine RegSteps.cons ?_ ?_
                · intro _ az wz hC hF hD _ K hK
                  obtain ⟨_, q83, rfl⟩ := dep hD 3 rfl rfl rfl rfl
                  obtain ⟨_, q87, rfl⟩ := dep hD 7 rfl rfl rfl rfl
                  clear hF hD
                  refine want_none rfl ?_
                  go_simp
                  exact hK _ _ hC (Below.refl _ _) rfl
                refine RegSteps.cons ?_ ?_
                · exact fun h => by cases h
                refine RegSteps.cons ?_ ?_
                · exact fun h => by cases h
                exact RegSteps.nil
              · refine ⟨?_, trivial⟩
                · refine ⟨⟨_, rfl, rfl, rfl, fun az wz K hK => by go_simp; exact hK⟩, ⟨_, rfl, rfl, rfl, ?_⟩, by simp [Word], by simp⟩
                  intro az wz gz cs hC hF hD hA K hK
                  obtain ⟨p1, p2, p3, p4, p5⟩ := hA
                  obtain ⟨_, q88, rfl⟩ := dep hD 8 rfl rfl rfl rfl
                  obtain ⟨c0, c1, c2, c3, rfl⟩ := list_4 (l := cs) p4
                  have z0 := p3.c0
                  have z1 := p3.c1
                  have z2 := p3.c2
                  have z3 := p3.c3
                  have f0 := p3.frozen 0
                  have f1 := p3.frozen 1
                  have f2 := p3.frozen 2
                  have f3 := p3.frozen 3
                  clear hF hD p3 p5
                  refine want_none rfl ?_
                  go_simp
                  exact hK [.int .i64 MX, .int .i64 MY, .int .i64 MX2, .int .i64 MY2] rfl (by simp [Word]) rfl
              intro w11 gs hC11 hgl hbf
              obtain ⟨gv, rfl⟩ := list_1 hgl
              obtain ⟨⟨hg0, us0, hOb0, rfl⟩, _⟩ := hbf
              rintro _ rfl _ rfl _ rfl _ rfl _ rfl _ rfl _ rfl _ rfl _ rfl _ rfl _ _
              simp only [FinOK, Act.put, List.setIfInBounds_toArray, List.set_cons_zero, List.set_cons_succ]
              have hb11 := Below.call hb10 hC11
              have hV := hOb0
              have hU := hU.on hC11
              clear hOb0
              go_wp2_with fail
              refine wp_region_specs w11 [Spec.eq (.slice (some ⟨gl, 0, none⟩) 4 4), Spec.eq (.int .i64 (k : Int)), Spec.eq (.pointer (some ⟨gl, k * 2, none⟩)), Spec.eq (.agg #[.int .i64 LX, .int .i64 LY]), sP LX 1 LY 1, Spec.eq (.slice (some ⟨gl, 0, none⟩) 4 4), Spec.eq (.int .i64 (m : Int)), Spec.eq (.pointer (some ⟨gl, m * 2, none⟩)), Spec.eq (.agg #[.int .i64 LX2, .int .i64 LY2]), sP LX2 1 LY2 1, Spec.eq (.int .i64 c), Spec.eq (.slice (some ⟨gm, 0, none⟩) 4 cap), Spec.eq (.int .i64 (k : Int)), Spec.eq (.pointer (some ⟨gm, k * 2, none⟩)), Spec.eq (.agg #[.int .i64 MX, .int .i64 MY]), sP MX 1 MY 1, Spec.eq (.slice (some ⟨gm, 0, none⟩) 4 cap), Spec.eq (.int .i64 (m : Int)), Spec.eq (.pointer (some ⟨gm, m * 2, none⟩)), Spec.eq (.agg #[.int .i64 MX2, .int .i64 MY2]), sP MX2 1 MY2 1, Spec.eq (.int .i64 c), Spec.eq (.bool false), Spec.eq (.bool false), Spec.eq (.agg #[.int .i64 LX, .int .i64 LY, .int .i64 LX2, .int .i64 LY2]), Spec.eq (.slice (some ⟨gl, 0, none⟩) 4 4), Spec.eq (.pointer (some ⟨gl, 0, none⟩)), Spec.eq (.agg #[.int .i64 a0, .int .i64 a1]), sP a0 1 a1 1, Spec.eq (.bool bi), Spec.eq (.agg #[.int .i64 MX, .int .i64 MY, .int .i64 MX2, .int .i64 MY2]), Spec.eq (.slice (some ⟨gm, 0, none⟩) 4 cap), Spec.eq (.pointer (some ⟨gm, 0, none⟩)), Spec.eq (.agg #[.int .i64 c0, .int .i64 c1]), sP c0 1 c1 1, Spec.eq (.bool bi), Spec.eq (.bool false), Spec.eq (.bool false)]
                  (by kernel_rfl) (by kernel_rfl) rfl (by kernel_rfl) (Below.drew (Below.refl _ _)) ?_ ?_
              ·
                refine RegSteps.cons ?_ ?_
                · intro _ az wz hC hF hD _ K hK
                  have q17 : az.tmps[17]? = some (.slice (some ⟨gl, 0, none⟩) 4 4) := hF 17 rfl
                  clear hF hD
                  refine want_none rfl ?_
                  go_simp
                  exact hK _ _ hC (Below.refl _ _) rfl
                refine RegSteps.cons ?_ ?_
                · intro _ az wz hC hF hD _ K hK
                  have q20 : az.tmps[20]? = some (.int .i64 (k : Int)) := hF 20 rfl
                  clear hF hD
                  refine want_none rfl ?_
                  go_simp
                  exact hK _ _ hC (Below.refl _ _) rfl
                refine RegSteps.cons ?_ ?_
                · intro _ az wz hC hF hD _ K hK
                  obtain ⟨_, q89, rfl⟩ := dep hD 0 rfl rfl rfl rfl
                  obtain ⟨_, q90, rfl⟩ := dep hD 1 rfl rfl rfl rfl
                  clear hF hD
                  refine want_none rfl ?_
                  go_simp
                  exact hK _ _ hC (Below.refl _ _) rfl
                refine RegSteps.cons ?_ ?_
                · intro _ az wz hC hF hD _ K hK
                  obtain ⟨_, q91, rfl⟩ := dep hD 2 rfl rfl rfl rfl
                  obtain ⟨l0, l1⟩ := rlk _ (Below.call hb11 hC)
                  clear hF hD
                  refine want_none rfl ?_
                  go_simp
                  exact hK _ _ hC (Below.refl _ _) rfl
                refine RegSteps.cons ?_ ?_
                · intro _ az wz hC hF hD _ K hK
                  obtain ⟨_, q92, rfl⟩ := dep hD 3 rfl rfl rfl rfl
                  clear hF hD
                  refine want_none rfl ?_
                  go_simp
                  refine (HO1.out _).mono ?_
                  rintro e wy ⟨x, rfl, k, hx⟩
                  exact hK _ _ (Below.call hC k) k ⟨x, rfl, hx⟩
                refine RegSteps.cons ?_ ?_
                · intro _ az wz hC hF hD _ K hK
                  have q17 : az.tmps[17]? = some (.slice (some ⟨gl, 0, none⟩) 4 4) := hF 17 rfl
                  clear hF hD
                  refine want_none rfl ?_
                  go_simp
                  exact hK _ _ hC (Below.refl _ _) rfl
                refine RegSteps.cons ?_ ?_
                · intro _ az wz hC hF hD _ K hK
                  have q21 : az.tmps[21]? = some (.int .i64 (m : Int)) := hF 21 rfl
                  clear hF hD
                  refine want_none rfl ?_
                  go_simp
                  exact hK _ _ hC (Below.refl _ _) rfl
                refine RegSteps.cons ?_ ?_
                · intro _ az wz hC hF hD _ K hK
                  obtain ⟨_, q94, rfl⟩ := dep hD 5 rfl rfl rfl rfl
                  obtain ⟨_, q95, rfl⟩ := dep hD 6 rfl rfl rfl rfl
                  clear hF hD
                  refine want_none rfl ?_
                  go_simp
                  exact hK _ _ hC (Below.refl _ _) rfl
                refine RegSteps.cons ?_ ?_
                · intro _ az wz hC hF hD _ K hK
                  obtain ⟨_, q96, rfl⟩ := dep hD 7 rfl rfl rfl rfl
                  obtain ⟨l0, l1⟩ := rlm _ (Below.call hb11 hC)
                  clear hF hD
                  refine want_none rfl ?_
                  go_simp
                  exact hK _ _ hC (Below.refl _ _) rfl
                refine RegSteps.cons ?_ ?_
                · intro _ az wz hC hF hD _ K hK
                  obtain ⟨_, q97, rfl⟩ := dep hD 8 rfl rfl rfl rfl
                  clear hF hD
                  refine want_none rfl ?_
                  go_simp
                  refine (HO2.out _).mono ?_
                  rintro e wy ⟨x, rfl, k, hx⟩
                  exact hK _ _ (Below.call hC k) k ⟨x, rfl, hx⟩
                refine RegSteps.cons ?_ ?_
                · intro _ az wz hC hF hD _ K hK
                  obtain ⟨_, q93, x93, rfl, hx93⟩ := dep hD 4 rfl rfl rfl rfl
                  obtain ⟨_, q98, x98, rfl, hx98⟩ := dep hD 9 rfl rfl rfl rfl
                  clear hF hD
                  refine want_none rfl ?_
                  go_simp
                  refine (HC1.out _ _ _ hx93 hx98).mono ?_
                  rintro e wy ⟨rfl, k⟩
                  exact hK _ _ (Below.call hC k) k rfl
                refine RegSteps.cons ?_ ?_
                · intro _ az wz hC hF hD _ K hK
                  have q18 : az.tmps[18]? = some (.slice (some ⟨gm, 0, none⟩) 4 cap) := hF 18 rfl
                  clear hF hD
                  refine want_none rfl ?_
                  go_simp
                  exact hK _ _ hC (Below.refl _ _) rfl
                refine RegSteps.cons ?_ ?_
                · intro _ az wz hC hF hD _ K hK
                  have q20 : az.tmps[20]? = some (.int .i64 (k : Int)) := hF 20 rfl
                  clear hF hD
                  refine want_none rfl ?_
                  go_simp
                  exact hK _ _ hC (Below.refl _ _) rfl
                refine RegSteps.cons ?_ ?_
                · intro _ az wz hC hF hD _ K hK
                  obtain ⟨_, q100, rfl⟩ := dep hD 11 rfl rfl rfl rfl
                  obtain ⟨_, q101, rfl⟩ := dep hD 12 rfl rfl rfl rfl
                  clear hF hD
                  refine want_none rfl ?_
                  go_simp
                  exact hK _ _ hC (Below.refl _ _) rfl
                refine RegSteps.cons ?_ ?_
                · intro _ az wz hC hF hD _ K hK
                  obtain ⟨_, q102, rfl⟩ := dep hD 13 rfl rfl rfl rfl
                  obtain ⟨l0, l1⟩ := rmk _ (Below.call hb11 hC)
                  clear hF hD
                  refine want_none rfl ?_
                  go_simp
                  exact hK _ _ hC (Below.refl _ _) rfl
                refine RegSteps.cons ?_ ?_
                · intro _ az wz hC hF hD _ K hK
                  obtain ⟨_, q103, rfl⟩ := dep hD 14 rfl rfl rfl rfl
                  clear hF hD
                  refine want_none rfl ?_
                  go_simp
                  refine (HO3.out _).mono ?_
                  rintro e wy ⟨x, rfl, k, hx⟩
                  exact hK _ _ (Below.call hC k) k ⟨x, rfl, hx⟩
                refine RegSteps.cons ?_ ?_
                · intro _ az wz hC hF hD _ K hK
                  have q18 : az.tmps[18]? = some (.slice (some ⟨gm, 0, none⟩) 4 cap) := hF 18 rfl
                  clear hF hD
                  refine want_none rfl ?_
                  go_simp
                  exact hK _ _ hC (Below.refl _ _) rfl
                refine RegSteps.cons ?_ ?_
                · intro _ az wz hC hF hD _ K hK
                  have q21 : az.tmps[21]? = some (.int .i64 (m : Int)) := hF 21 rfl
                  clear hF hD
                  refine want_none rfl ?_
                  go_simp
                  exact hK _ _ hC (Below.refl _ _) rfl
                refine RegSteps.cons ?_ ?_
                · intro _ az wz hC hF hD _ K hK
                  obtain ⟨_, q105, rfl⟩ := dep hD 16 rfl rfl rfl rfl
                  obtain ⟨_, q106, rfl⟩ := dep hD 17 rfl rfl rfl rfl
                  clear hF hD
                  refine want_none rfl ?_
                  go_simp
                  exact hK _ _ hC (Below.refl _ _) rfl
                refine RegSteps.cons ?_ ?_
                · intro _ az wz hC hF hD _ K hK
                  obtain ⟨_, q107, rfl⟩ := dep hD 18 rfl rfl rfl rfl
                  obtain ⟨l0, l1⟩ := rmm _ (Below.call hb11 hC)
                  clear hF hD
                  refine want_none rfl ?_
                  go_simp
                  exact hK _ _ hC (Below.refl _ _) rfl
                refine RegSteps.cons ?_ ?_
                · intro _ az wz hC hF hD _ K hK
                  obtain ⟨_, q108, rfl⟩ := dep hD 19 rfl rfl rfl rfl
                  clear hF hD
                  refine want_none rfl ?_
                  go_simp
                  refine (HO4.out _).mono ?_
                  rintro e wy ⟨x, rfl, k, hx⟩
                  exact hK _ _ (Below.call hC k) k ⟨x, rfl, hx⟩
                refine RegSteps.cons ?_ ?_
                · intro _ az wz hC hF hD _ K hK
                  obtain ⟨_, q104, x104, rfl, hx104⟩ := dep hD 15 rfl rfl rfl rfl
                  obtain ⟨_, q109, x109, rfl, hx109⟩ := dep hD 20 rfl rfl rfl rfl
                  clear hF hD
                  refine want_none rfl ?_
                  go_simp
                  refine (HC2.out _ _ _ hx104 hx109).mono ?_
                  rintro e wy ⟨rfl, k⟩
                  exact hK _ _ (Below.call hC k) k rfl
                refine RegSteps.cons ?_ ?_
                · intro _ az wz hC hF hD _ K hK
                  obtain ⟨_, q99, rfl⟩ := dep hD 10 rfl rfl rfl rfl
                  obtain ⟨_, q110, rfl⟩ := dep hD 21 rfl rfl rfl rfl
                  clear hF hD
                  refine want_none rfl ?_
                  go_simp
                  exact hK _ _ hC (Below.refl _ _) rfl
                refine RegSteps.cons ?_ ?_
                · intro _ az wz hC hF hD _ K hK
                  obtain ⟨_, q111, rfl⟩ := dep hD 22 rfl rfl rfl rfl
                  clear hF hD
                  refine want_none rfl ?_
                  go_simp
                  exact hK _ _ hC (Below.refl _ _) rfl
                refine RegSteps.cons ?_ ?_
                · intro _ az wz hC hF hD _ K hK
                  have q22 : az.tmps[22]? = some (.pointer (some ⟨gu, 0, none⟩)) := hF 22 rfl
                  obtain ⟨_, qg, rfl⟩ := dep hD 23 rfl rfl rfl rfl
                  obtain ⟨l0, l1, l2, l3, _⟩ := (hU.on hC).all4
                  clear hF hD
                  refine want_yes rfl rfl rfl qg ?_
                  go_simp
                  exact hK _ _ hC (Below.refl _ _) rfl
                refine RegSteps.cons ?_ ?_
                · intro _ az wz hC hF hD _ K hK
                  have q17 : az.tmps[17]? = some (.slice (some ⟨gl, 0, none⟩) 4 4) := hF 17 rfl
                  obtain ⟨_, qg, rfl⟩ := dep hD 23 rfl rfl rfl rfl
                  clear hF hD
                  refine want_yes rfl rfl rfl qg ?_
                  go_simp
                  exact hK _ _ hC (Below.refl _ _) rfl
                refine RegSteps.cons ?_ ?_
                · intro _ az wz hC hF hD _ K hK
                  obtain ⟨_, q114, rfl⟩ := dep hD 25 rfl rfl rfl rfl
                  obtain ⟨_, qg, rfl⟩ := dep hD 23 rfl rfl rfl rfl
                  clear hF hD
                  refine want_yes rfl rfl rfl qg ?_
                  go_simp
                  exact hK _ _ hC (Below.refl _ _) rfl
                refine RegSteps.cons ?_ ?_
                · intro _ az wz hC hF hD _ K hK
                  obtain ⟨_, q115, rfl⟩ := dep hD 26 rfl rfl rfl rfl
                  obtain ⟨_, qg, rfl⟩ := dep hD 23 rfl rfl rfl rfl
                  obtain ⟨l0, l1⟩ := rl0 _ (Below.call hb11 hC)
                  clear hF hD
                  refine want_yes rfl rfl rfl qg ?_
                  go_simp
                  exact hK _ _ hC (Below.refl _ _) rfl
                refine RegSteps.cons ?_ ?_
                · intro _ az wz hC hF hD _ K hK
                  obtain ⟨_, q116, rfl⟩ := dep hD 27 rfl rfl rfl rfl
                  obtain ⟨_, qg, rfl⟩ := dep hD 23 rfl rfl rfl rfl
                  clear hF hD
                  refine want_yes rfl rfl rfl qg ?_
                  go_simp
                  refine (HOl.out _).mono ?_
                  rintro e wy ⟨x, rfl, k, hx⟩
                  exact hK _ _ (Below.call hC k) k ⟨x, rfl, hx⟩
                refine RegSteps.cons ?_ ?_
                · intro _ az wz hC hF hD _ K hK
                  obtain ⟨_, q113, rfl⟩ := dep hD 24 rfl rfl rfl rfl
                  obtain ⟨_, q117, x117, rfl, hx117⟩ := dep hD 28 rfl rfl rfl rfl
                  obtain ⟨_, qg, rfl⟩ := dep hD 23 rfl rfl rfl rfl
                  clear hF hD
                  refine want_yes rfl rfl rfl qg ?_
                  go_simp
                  refine (HI1.out _ _ hx117).mono ?_
                  rintro e wy ⟨rfl, k⟩
                  exact hK _ _ (Below.call hC k) k rfl
                refine RegSteps.cons ?_ ?_
                · intro _ az wz hC hF hD _ K hK
                  have q23 : az.tmps[23]? = some (.pointer (some ⟨gv, 0, none⟩)) := hF 23 rfl
                  obtain ⟨_, qg, rfl⟩ := dep hD 23 rfl rfl rfl rfl
                  obtain ⟨l0, l1, l2, l3, _⟩ := (hV.on hC).all4
                  clear hF hD
                  refine want_yes rfl rfl rfl qg ?_
                  go_simp
                  exact hK _ _ hC (Below.refl _ _) rfl
                refine RegSteps.cons ?_ ?_
                · intro _ az wz hC hF hD _ K hK
                  have q18 : az.tmps[18]? = some (.slice (some ⟨gm, 0, none⟩) 4 cap) := hF 18 rfl
                  obtain ⟨_, qg, rfl⟩ := dep hD 23 rfl rfl rfl rfl
                  clear hF hD
                  refine want_yes rfl rfl rfl qg ?_
                  go_simp
                  exact hK _ _ hC (Below.refl _ _) rfl
                refine RegSteps.cons ?_ ?_
                · intro _ az wz hC hF hD _ K hK
                  obtain ⟨_, q120, rfl⟩ := dep hD 31 rfl rfl rfl rfl
                  obtain ⟨_, qg, rfl⟩ := dep hD 23 rfl rfl rfl rfl
                  clear hF hD
                  refine want_yes rfl rfl rfl qg ?_
                  go_simp
                  exact hK _ _ hC (Below.refl _ _) rfl
                refine RegSteps.cons ?_ ?_
                · intro _ az wz hC hF hD _ K hK
                  obtain ⟨_, q121, rfl⟩ := dep hD 32 rfl rfl rfl rfl
                  obtain ⟨_, qg, rfl⟩ := dep hD 23 rfl rfl rfl rfl
                  obtain ⟨l0, l1⟩ := rm0 _ (Below.call hb11 hC)
                  clear hF hD
                  refine want_yes rfl rfl rfl qg ?_
                  go_simp
                  exact hK _ _ hC (Below.refl _ _) rfl
                refine RegSteps.cons ?_ ?_
                · intro _ az wz hC hF hD _ K hK
                  obtain ⟨_, q122, rfl⟩ := dep hD 33 rfl rfl rfl rfl
                  obtain ⟨_, qg, rfl⟩ := dep hD 23 rfl rfl rfl rfl
                  clear hF hD
                  refine want_yes rfl rfl rfl qg ?_
                  go_simp
                  refine (HOm.out _).mono ?_
                  rintro e wy ⟨x, rfl, k, hx⟩
                  exact hK _ _ (Below.call hC k) k ⟨x, rfl, hx⟩
                refine RegSteps.cons ?_ ?_
                · intro _ az wz hC hF hD _ K hK
                  obtain ⟨_, q119, rfl⟩ := dep hD 30 rfl rfl rfl rfl
                  obtain ⟨_, q123, x123, rfl, hx123⟩ := dep hD 34 rfl rfl rfl rfl
                  obtain ⟨_, qg, rfl⟩ := dep hD 23 rfl rfl rfl rfl
                  clear hF hD
                  refine want_yes rfl rfl rfl qg ?_
                  go_simp
                  refine (HI2.out _ _ hx123).mono ?_
                  rintro e wy ⟨rfl, k⟩
                  exact hK _ _ (Below.call hC k) k rfl
                refine RegSteps.cons ?_ ?_
                · intro _ az wz hC hF hD _ K hK
                  obtain ⟨_, q118, rfl⟩ := dep hD 29 rfl rfl rfl rfl
                  obtain ⟨_, q124, rfl⟩ := dep hD 35 rfl rfl rfl rfl
                  obtain ⟨_, qg, rfl⟩ := dep hD 23 rfl rfl rfl rfl
                  clear hF hD
                  refine want_yes rfl rfl rfl qg ?_
                  go_simp
                  exact hK _ _ hC (Below.refl _ _) rfl
                refine RegSteps.cons ?_ ?_
                · intro _ az wz hC hF hD _ K hK
                  obtain ⟨_, q112, rfl⟩ := dep hD 23 rfl rfl rfl rfl
                  obtain ⟨_, q125, rfl⟩ := dep hD 36 rfl rfl rfl rfl
                  clear hF hD
                  refine want_none rfl ?_
                  go_simp
                  exact hK _ _ hC (Below.refl _ _) rfl
                exact RegSteps.nil
              intro w12 hC12
              rintro _ rfl _ rfl _ rfl _ rfl _ ⟨y93, rfl, _⟩ _ rfl _ rfl _ rfl _ rfl _ ⟨y98, rfl, _⟩ _ rfl _ rfl _ rfl _ rfl _ rfl _ ⟨y104, rfl, _⟩ _ rfl _ rfl _ rfl _ rfl _ ⟨y109, rfl, _⟩ _ rfl _ rfl _ rfl _ rfl _ rfl _ rfl _ rfl _ ⟨y117, rfl, _⟩ _ rfl _ rfl _ rfl _ rfl _ rfl _ ⟨y123, rfl, _⟩ _ rfl _ rfl _ rfl
              simp only [FinOK, Act.put, List.setIfInBounds_toArray, List.set_cons_zero, List.set_cons_succ]
              have hb12 := Below.call hb11 hC12
              have hV := hV.on hC12
              have hU := hU.on hC12
              clear HC1 HC2 HI1 HI2 HO1 HO2 HO3 HO4 HOl HOm
              go_wp2_with fail
              refine wp_region_specs w12 [Spec.eq (.agg #[.int .i64 LX, .int .i64 LY, .int .i64 LX2, .int .i64 LY2]), Spec.eq (.slice (some ⟨gl, 0, none⟩) 4 4), Spec.eq (.pointer (some ⟨gl, 0, none⟩)), Spec.eq (.agg #[.int .i64 a0, .int .i64 a1]), Spec.eq (.slice (some ⟨gl, 0, none⟩) 4 4), Spec.eq (.pointer (some ⟨gl, 2, none⟩)), Spec.eq (.agg #[.int .i64 b0, .int .i64 b1]), Spec.eq (.agg #[.int .i64 a0, .int .i64 a1, .int .i64 b0, .int .i64 b1]), Spec.eq (.bool bm), Spec.eq (.agg #[.int .i64 MX, .int .i64 MY, .int .i64 MX2, .int .i64 MY2]), Spec.eq (.slice (some ⟨gm, 0, none⟩) 4 cap), Spec.eq (.pointer (some ⟨gm, 0, none⟩)), Spec.eq (.agg #[.int .i64 c0, .int .i64 c1]), Spec.eq (.slice (some ⟨gm, 0, none⟩) 4 cap), Spec.eq (.pointer (some ⟨gm, 2, none⟩)), Spec.eq (.agg #[.int .i64 d0, .int .i64 d1]), Spec.eq (.agg #[.int .i64 c0, .int .i64 c1, .int .i64 d0, .int .i64 d1]), Spec.eq (.bool bm), Spec.eq (.bool false)]
                  (by kernel_rfl) (by kernel_rfl) rfl (by kernel_rfl) (Below.drew (Below.refl _ _)) ?_ ?_
              ·
                refine RegSteps.cons ?_ ?_
                · intro _ az wz hC hF hD _ K hK
                  have q22 : az.tmps[22]? = some (.pointer (some ⟨gu, 0, none⟩)) := hF 22 rfl
                  obtain ⟨l0, l1, l2, l3, _⟩ := (hU.on hC).all4
                  clear hF hD
                  refine want_none rfl ?_
                  go_simp
                  exact hK _ _ hC (Below.refl _ _) rfl
                refine RegSteps.cons ?_ ?_
                · intro _ az wz hC hF hD _ K hK
                  have q17 : az.tmps[17]? = some (.slice (some ⟨gl, 0, none⟩) 4 4) := hF 17 rfl
                  clear hF hD
                  refine want_none rfl ?_
                  go_simp
                  exact hK _ _ hC (Below.refl _ _) rfl
                refine RegSteps.cons ?_ ?_
                · intro _ az wz hC hF hD _ K hK
                  obtain ⟨_, q128, rfl⟩ := dep hD 1 rfl rfl rfl rfl
                  clear hF hD
                  refine want_none rfl ?_
                  go_simp
                  exact hK _ _ hC (Below.refl _ _) rfl
                refine RegSteps.cons ?_ ?_
                · intro _ az wz hC hF hD _ K hK
                  obtain ⟨_, q129, rfl⟩ := dep hD 2 rfl rfl rfl rfl
                  obtain ⟨l0, l1⟩ := rl0 _ (Below.call hb12 hC)
                  clear hF hD
                  refine want_none rfl ?_
                  go_simp
                  exact hK _ _ hC (Below.refl _ _) rfl
                refine RegSteps.cons ?_ ?_
                · intro _ az wz hC hF hD _ K hK
                  have q17 : az.tmps[17]? = some (.slice (some ⟨gl, 0, none⟩) 4 4) := hF 17 rfl
                  clear hF hD
                  refine want_none rfl ?_
                  go_simp
                  exact hK _ _ hC (Below.refl _ _) rfl
                refine RegSteps.cons ?_ ?_
                · intro _ az wz hC hF hD _ K hK
                  obtain ⟨_, q131, rfl⟩ := dep hD 4 rfl rfl rfl rfl
                  clear hF hD
                  refine want_none rfl ?_
                  go_simp
                  exact hK _ _ hC (Below.refl _ _) rfl
                refine RegSteps.cons ?_ ?_
                · intro _ az wz hC hF hD _ K hK
                  obtain ⟨_, q132, rfl⟩ := dep hD 5 rfl rfl rfl rfl
                  obtain ⟨l0, l1⟩ := rl1 _ (Below.call hb12 hC)
                  clear hF hD
                  refine want_none rfl ?_
                  go_simp
                  exact hK _ _ hC (Below.refl _ _) rfl
                refine RegSteps.cons ?_ ?_
                · intro _ az wz hC hF hD _ K hK
                  obtain ⟨_, q130, rfl⟩ := dep hD 3 rfl rfl rfl rfl
                  obtain ⟨_, q133, rfl⟩ := dep hD 6 rfl rfl rfl rfl
                  clear hF hD
                  refine want_none rfl ?_
                  go_simp
                  exact hK _ _ hC (Below.refl _ _) rfl
                refine RegSteps.cons ?_ ?_
                · intro _ az wz hC hF hD _ K hK
                  obtain ⟨_, q127, rfl⟩ := dep hD 0 rfl rfl rfl rfl
                  obtain ⟨_, q134, rfl⟩ := dep hD 7 rfl rfl rfl rfl
                  clear hF hD
                  refine want_none rfl ?_
                  go_simp
                  refine (HM1.out _).mono ?_
                  rintro e wy ⟨rfl, k⟩
                  exact hK _ _ (Below.call hC k) k rfl
                refine RegSteps.cons ?_ ?_
                · intro _ az wz hC hF hD _ K hK
                  have q23 : az.tmps[23]? = some (.pointer (some ⟨gv, 0, none⟩)) := hF 23 rfl
                  obtain ⟨l0, l1, l2, l3, _⟩ := (hV.on hC).all4
                  clear hF hD
                  refine want_none rfl ?_
                  go_simp
                  exact hK _ _ hC (Below.refl _ _) rfl
                refine RegSteps.cons ?_ ?_
                · intro _ az wz hC hF hD _ K hK
                  have q18 : az.tmps[18]? = some (.slice (some ⟨gm, 0, none⟩) 4 cap) := hF 18 rfl
                  clear hF hD
                  refine want_none rfl ?_
                  go_simp
                  exact hK _ _ hC (Below.refl _ _) rfl
                refine RegSteps.cons ?_ ?_
                · intro _ az wz hC hF hD _ K hK
                  obtain ⟨_, q137, rfl⟩ := dep hD 10 rfl rfl rfl rfl
                  clear hF hD
                  refine want_none rfl ?_
                  go_simp
                  exact hK _ _ hC (Below.refl _ _) rfl
                refine RegSteps.cons ?_ ?_
                · intro _ az wz hC hF hD _ K hK
                  obtain ⟨_, q138, rfl⟩ := dep hD 11 rfl rfl rfl rfl
                  obtain ⟨l0, l1⟩ := rm0 _ (Below.call hb12 hC)
                  clear hF hD
                  refine want_none rfl ?_
                  go_simp
                  exact hK _ _ hC (Below.refl _ _) rfl
                refine RegSteps.cons ?_ ?_
                · intro _ az wz hC hF hD _ K hK
                  have q18 : az.tmps[18]? = some (.slice (some ⟨gm, 0, none⟩) 4 cap) := hF 18 rfl
                  clear hF hD
                  refine want_none rfl ?_
                  go_simp
                  exact hK _ _ hC (Below.refl _ _) rfl
                refine RegSteps.cons ?_ ?_
                · intro _ az wz hC hF hD _ K hK
                  obtain ⟨_, q140, rfl⟩ := dep hD 13 rfl rfl rfl rfl
                  clear hF hD
                  refine want_none rfl ?_
                  go_simp
                  exact hK _ _ hC (Below.refl _ _) rfl
                refine RegSteps.cons ?_ ?_
                · intro _ az wz hC hF hD _ K hK
                  obtain ⟨_, q141, rfl⟩ := dep hD 14 rfl rfl rfl rfl
                  obtain ⟨l0, l1⟩ := rm1 _ (Below.call hb12 hC)
                  clear hF hD
                  refine want_none rfl ?_
                  go_simp
                  exact hK _ _ hC (Below.refl _ _) rfl
                refine RegSteps.cons ?_ ?_
                · intro _ az wz hC hF hD _ K hK
                  obtain ⟨_, q139, rfl⟩ := dep hD 12 rfl rfl rfl rfl
                  obtain ⟨_, q142, rfl⟩ := dep hD 15 rfl rfl rfl rfl
                  clear hF hD
                  refine want_none rfl ?_
                  go_simp
                  exact hK _ _ hC (Below.refl _ _) rfl
                refine RegSteps.cons ?_ ?_
                · intro _ az wz hC hF hD _ K hK
                  obtain ⟨_, q136, rfl⟩ := dep hD 9 rfl rfl rfl rfl
                  obtain ⟨_, q143, rfl⟩ := dep hD 16 rfl rfl rfl rfl
                  clear hF hD
                  refine want_none rfl ?_
                  go_simp
                  refine (HM2.out _).mono ?_
                  rintro e wy ⟨rfl, k⟩
                  exact hK _ _ (Below.call hC k) k rfl
                refine RegSteps.cons ?_ ?_
                · intro _ az wz hC hF hD _ K hK
                  obtain ⟨_, q135, rfl⟩ := dep hD 8 rfl rfl rfl rfl
                  obtain ⟨_, q144, rfl⟩ := dep hD 17 rfl rfl rfl rfl
                  clear hF hD
                  refine want_none rfl ?_
                  go_simp
                  exact hK _ _ hC (Below.refl _ _) rfl
                exact RegSteps.nil
              intro w13 hC13
              rintro _ rfl _ rfl _ rfl _ rfl _ rfl _ rfl _ rfl _ rfl _ rfl _ rfl _ rfl _ rfl _ rfl _ rfl _ rfl _ rfl _ rfl _ rfl _ rfl
              simp only [FinOK, Act.put, List.setIfInBounds_toArray, List.set_cons_zero, List.set_cons_succ]
              have hb13 := Below.call hb12 hC13
              clear HM1 HM2 rlk rlm rl0 rl1 rmk rmm rm0 rm1 hU hV
              go_wp2_with fail
              go_roundw
              case rel => exact ⟨m + 1, by omega, by go_num, hb13⟩
              case measure => simp [intOf]; omega
            · obtain rfl : m = 4 := by omega
              clear hmlt
              go_wp2_with fail
              go_roundw
              case rel => exact ⟨k + 1, by omega, by go_num, hbm⟩
              case measure => simp [intOf]; omega
        · obtain rfl : k = 4 := by omega
          clear hlt
          go_wp2_with fail
          refine (lives_any _ (htw.on hbk)).mono ?_
          rintro e w9 ⟨rfl, k9⟩
          have hB9 := Below.call (Below.call HB0 hbk) k9
          go_wp2
          go_returns
          exact ⟨by simp, hB9⟩
end Go.Proofs.YthcpaagfgkbjaaaDoor
