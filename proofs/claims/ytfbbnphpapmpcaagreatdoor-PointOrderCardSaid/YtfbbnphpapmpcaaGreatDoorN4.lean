/-
  The law PointOrder: the walk.
-/
import Derived.Test.YtfbbnphpapmpcaaGreatDoorN2
namespace Go.Proofs.YtfbbnphpapmpcaaGreatDoor
open Go.RowKit Mag

def sBI (l : List Nat) : Spec Bel := ⟨fun v w => ∃ p : Option Addr × Nat, v = .slice p.1 l.length p.2 ∧ BIs w w.heap.size p.1 p.2 l, fun ⟨p, e, h⟩ k => ⟨p, e, (h.on k).mono k.size⟩⟩
/-- One of four numbers. -/
def o4 (a b c d : Int) : Nat → Int
  | 0 => a | 1 => b | 2 => c | _ => d
def oList (x y d : Nat → Int) : List Value := [.int .i64 (x 0), .int .i64 (y 0), .int .i64 (d 0), .int .i64 (x 1), .int .i64 (y 1), .int .i64 (d 1), .int .i64 (x 2), .int .i64 (y 2), .int .i64 (d 2), .int .i64 (x 3), .int .i64 (y 3), .int .i64 (d 3)]
theorem oCells {x y d : Nat → Int} {W : World} {g : Nat} {t : TypeId} (h : Own W g t (oList x y d)) {k : Nat} (hk : k < 4) :
    W.cell? ⟨g, k * 3, none⟩ = some (.int .i64 (x k)) ∧ W.cell? ⟨g, k * 3 + 1, none⟩ = some (.int .i64 (y k)) ∧ W.cell? ⟨g, k * 3 + 2, none⟩ = some (.int .i64 (d k)) := by
  rcases (by omega : k = 0 ∨ k = 1 ∨ k = 2 ∨ k = 3) with rfl | rfl | rfl | rfl
  all_goals exact ⟨h.cell _, h.cell _, h.cell _⟩
theorem wrap_in (n : Int) : in64 (IntKind.i64.wrap n) := by
  have := IntKind.wrap_i64 n
  unfold in64
  rw [this]
  omega
/-- What is asked of a pair. -/
structure OrdL (X Y D X' Y' D' v : Int) (Ek Em : List Nat) : Prop where
  this : pc X Y D X' Y' D' = v
  back : pc X' Y' D' X Y D = -v
  eq : decide (Ek = Em) = decide (v = 0)
  rg : v = -1 ∨ v = 0 ∨ v = 1
set_option maxRecDepth 100000 in
set_option maxHeartbeats 12800000 in
theorem PointOrder_any (a b c : Int) (w : World) (ha : in64 a) (hb : in64 b) (hc : in64 c) (ht : Tab w) : Calls Tryz.prog 3 #[.int .i64 a, .int .i64 b, .int .i64 c] w (RetB w true) := by
  obtain ⟨d, hd⟩ : ∃ d, IntKind.i64.wrap (a + 1) = d := ⟨_, rfl⟩
  have hd4 : in64 d := hd ▸ wrap_in (a + 1)
  obtain ⟨x, ex⟩ : ∃ x, o4 (sX a) (sX b) (sX c) (sX d) = x := ⟨_, rfl⟩
  obtain ⟨y, ey⟩ : ∃ x, o4 (sY a) (sY b) (sY c) (sY d) = x := ⟨_, rfl⟩
  obtain ⟨z, ez⟩ : ∃ x, o4 (sD a) (sD b) (sD c) (sD d) = x := ⟨_, rfl⟩
  have hbd : ∀ k, (x k).natAbs ≤ 384 ∧ (y k).natAbs ≤ 384 ∧ 0 < z k ∧ z k ≤ 12 := fun k => by
    rw [← ex, ← ey, ← ez]
    match k with
    | 0 => exact sX_bd a
    | 1 => exact sX_bd b
    | 2 => exact sX_bd c
    | k + 3 => exact sX_bd d
  have HS0 : Hid (∀ u, Calls Tryz.prog 5 #[.int .i64 a] u (RetR u (x 0) (y 0) (z 0))) := Lib.hid fun u => by rw [← ex, ← ey, ← ez]; exact Some_any a u ha
  have HS1 : Hid (∀ u, Calls Tryz.prog 5 #[.int .i64 b] u (RetR u (x 1) (y 1) (z 1))) := Lib.hid fun u => by rw [← ex, ← ey, ← ez]; exact Some_any b u hb
  have HS2 : Hid (∀ u, Calls Tryz.prog 5 #[.int .i64 c] u (RetR u (x 2) (y 2) (z 2))) := Lib.hid fun u => by rw [← ex, ← ey, ← ez]; exact Some_any c u hc
  have HS3 : Hid (∀ u, Calls Tryz.prog 5 #[.int .i64 d] u (RetR u (x 3) (y 3) (z 3))) := Lib.hid fun u => by rw [← ex, ← ey, ← ez]; exact Some_any d u hd4
  clear ex ey ez ha hb hc hd4
  obtain ⟨E, hE⟩ : ∃ E : Nat → List Nat, E = fun k => encP (ftext (mkP (x k) (z k)) (mkQ (x k) (z k))) (ftext (mkP (y k) (z k)) (mkQ (y k) (z k))) := ⟨_, rfl⟩
  have HR : Hid (∀ k u, Calls Tryz.prog 7 #[.agg #[.int .i64 (x k), .int .i64 (y k), .int .i64 (z k)]] u (RetP u (mkP (x k) (z k)) (mkQ (x k) (z k)) (mkP (y k) (z k)) (mkQ (y k) (z k)))) := Lib.hid fun k u => by
    have h := hbd k
    exact real_any (x k) (y k) (z k) u ⟨by omega, by omega⟩ ⟨by omega, by omega⟩ ⟨by omega, by omega⟩ (by omega)
  have HE : Hid (∀ k (s : PV) u, s.is u (mkP (x k) (z k)) (mkQ (x k) (z k)) (mkP (y k) (z k)) (mkQ (y k) (z k)) → Tab u → Calls Tryz.prog 9 #[.agg #[.bool s.x.p.neg, .slice s.x.p.A s.x.p.n s.x.p.c, .bool s.x.l.neg, .slice s.x.l.A s.x.l.n s.x.l.c, .bool s.y.p.neg, .slice s.y.p.A s.y.p.n s.y.p.c, .bool s.y.l.neg, .slice s.y.l.A s.y.l.n s.y.l.c]] u (RetBI u (E k))) := Lib.hid fun k s u hs h => by rw [hE]; exact Encode_any hs h
  have HEL : Hid (∀ k, (E k).length ≤ 1000000000) := Lib.hid fun k => by
    have h := hbd k
    have f1 := divInt_fits (abs_top (z := x k) (by omega)) (abs_top (z := z k) (by omega)) (by omega)
    have f2 := divInt_fits (abs_top (z := y k) (by omega)) (abs_top (z := z k) (by omega)) (by omega)
    rw [hE]
    simp only
    rw [(mk_rat (p := x k) (q := z k) (by omega)).1, (mk_rat (p := x k) (q := z k) (by omega)).2, (mk_rat (p := y k) (q := z k) (by omega)).1, (mk_rat (p := y k) (q := z k) (by omega)).2]
    exact Nat.le_trans (encP_len f1.1 f1.2 f2.1 f2.2) (by omega)
  have HL : Hid (∀ k m, OrdL (x k) (y k) (z k) (x m) (y m) (z m) (pc (x k) (y k) (z k) (x m) (y m) (z m)) (E k) (E m)) := Lib.hid fun k m => by
    have h1 := hbd k
    have h2 := hbd m
    have h3 := pc_rg (x k) (y k) (z k) (x m) (y m) (z m)
    refine ⟨rfl, pc_neg _ _ _ _ _ _, ?_, by omega⟩
    rw [decide_eq_decide, hE]
    exact (pc_zero h1.2.2.1 h2.2.2.1 (by omega) (by omega) (by omega) (by omega) (by omega) (by omega)).symm
  have HC : Hid (∀ k m (s t : PV) u, s.is u (mkP (x k) (z k)) (mkQ (x k) (z k)) (mkP (y k) (z k)) (mkQ (y k) (z k)) → t.is u (mkP (x m) (z m)) (mkQ (x m) (z m)) (mkP (y m) (z m)) (mkQ (y m) (z m)) → Calls Tryz.prog 6 #[.agg #[.bool s.x.p.neg, .slice s.x.p.A s.x.p.n s.x.p.c, .bool s.x.l.neg, .slice s.x.l.A s.x.l.n s.x.l.c, .bool s.y.p.neg, .slice s.y.p.A s.y.p.n s.y.p.c, .bool s.y.l.neg, .slice s.y.l.A s.y.l.n s.y.l.c], .agg #[.bool t.x.p.neg, .slice t.x.p.A t.x.p.n t.x.p.c, .bool t.x.l.neg, .slice t.x.l.A t.x.l.n t.x.l.c, .bool t.y.p.neg, .slice t.y.p.A t.y.p.n t.y.p.c, .bool t.y.l.neg, .slice t.y.l.A t.y.l.n t.y.l.c]] u (RetInt u (pc (x k) (y k) (z k) (x m) (y m) (z m)))) := Lib.hid fun k m s t u hs h => by
    have := PCompare_any hs h
    rwa [cmpPt_mk _ _ _ _ (hbd k).2.2.1 (hbd m).2.2.1] at this
  have HRC : Hid (∀ k m u, Calls Tryz.prog 10 #[.agg #[.int .i64 (x k), .int .i64 (y k), .int .i64 (z k)], .agg #[.int .i64 (x m), .int .i64 (y m), .int .i64 (z m)]] u (RetInt u (pc (x k) (y k) (z k) (x m) (y m) (z m)))) := Lib.hid fun k m u => by
    have h1 := hbd k
    have h2 := hbd m
    exact RCompare_any _ _ _ _ _ _ u (by omega) (by omega) (by omega) (by omega) (by omega) (by omega) (by omega) (by omega)
  have HT : Hid (∀ k m j, pc (x k) (y k) (z k) (x m) (y m) (z m) ≤ 0 → pc (x m) (y m) (z m) (x j) (y j) (z j) ≤ 0 → pc (x k) (y k) (z k) (x j) (y j) (z j) ≤ 0) := Lib.hid fun k m j h1 h2 => pc_trans (hbd k).2.2.1 (hbd m).2.2.1 (hbd j).2.2.1 h1 h2
  clear hbd hE
  go_enter Tryz.func3, Tryz.ntmps3
  go_wp2_with fail
  refine (HS0.out _).mono ?_
  rintro e w1 ⟨rfl, k1⟩
  go_wp2_with fail
  refine (HS1.out _).mono ?_
  rintro e w2 ⟨rfl, k2⟩
  go_wp2_with fail
  refine (HS2.out _).mono ?_
  rintro e w3 ⟨rfl, k3⟩
  go_wp2_with fail
  refine (HS3.out _).mono ?_
  rintro e w4 ⟨rfl, k4⟩
  go_upto_region 2 with fail
  refine wp_new1 fun W0 hL k5 => ?_
  have hB0 := Below.call (Below.call (Below.call (Below.call k1 k2) k3) k4) k5
  have hTab := ht.on hB0
  obtain ⟨gl, eg⟩ : ∃ gl, gl = w4.heap.size := ⟨_, rfl⟩
  rw [← eg] at hL ⊢
  have RL : Hid (∀ wz, Below W0.heap.size W0 wz → ∀ j, j < 4 → wz.cell? ⟨gl, j * 3, none⟩ = some (.int .i64 (x j)) ∧ wz.cell? ⟨gl, j * 3 + 1, none⟩ = some (.int .i64 (y j)) ∧ wz.cell? ⟨gl, j * 3 + 2, none⟩ = some (.int .i64 (z j))) := Lib.hid fun wz hwz j hj => oCells (hL.on hwz) hj
  clear HS0 HS1 HS2 HS3 k1 k2 k3 k4 k5 eg hL hd
  go_wp2_with fail
  go_loopw [8] (fun s wr => ∃ k : Nat, k ≤ 4 ∧ s = .int .i64 (k : Int) ∧ Below W0.heap.size W0 wr) (fun s _ => 4 - (intOf s).toNat)
  case atStart => exact ⟨0, by omega, rfl, Below.refl _ _⟩
  case round =>
    obtain ⟨k, hk, rfl, hbk⟩ := hrel
    rcases Nat.lt_or_eq_of_le hk with hkt | heq
    · have k0 : (0 : Int) ≤ (k : Int) := by omega
      have k4 : (k : Int) < 4 := by omega
      have HBK := Lib.hid hbk
      clear hbk
      go_wp2_with fail
      obtain ⟨wo, e_⟩ : ∃ wo : World, wo = wr := ⟨_, rfl⟩
      subst e_
      go_loopw [9] (fun s wr => ∃ m : Nat, m ≤ 4 ∧ s = .int .i64 (m : Int) ∧ Below W0.heap.size W0 wr) (fun s _ => 4 - (intOf s).toNat)
      case atStart => exact ⟨0, by omega, rfl, HBK.out⟩
      case round =>
        obtain ⟨m, hm, rfl, hbm⟩ := hrel
        rcases Nat.lt_or_eq_of_le hm with hmt | heq
        · have m0 : (0 : Int) ≤ (m : Int) := by omega
          have m4 : (m : Int) < 4 := by omega
          have hL := HL.out k m
          have rlk := fun wz h => RL.out wz h k hkt
          have rlm := fun wz h => RL.out wz h m hmt
          have HRk := Lib.hid (HR.out k)
          have HRm := Lib.hid (HR.out m)
          have HEk := Lib.hid (HE.out k)
          have HEm := Lib.hid (HE.out m)
          have HC1 := Lib.hid (HC.out k m)
          have HC2 := Lib.hid (HC.out m k)
          have HC3 := Lib.hid (HC.out m)
          have HC4 := Lib.hid (HC.out k)
          have HRC1 := Lib.hid (HRC.out k m)
          have HTkm := Lib.hid (HT.out k m)
          have hlk := HEL.out k
          have hlm := HEL.out m
          rw [hL.back] at HC2
          obtain ⟨_, _, hEq, hRg⟩ := hL
          generalize E k = Ek at HEk hlk hEq
          generalize E m = Em at HEm hlm hEq
          generalize hx : pc (x k) (y k) (z k) (x m) (y m) (z m) = v at *
          have HSB : Hid (∀ (p q : Option Addr × Nat) u, BIs u u.heap.size p.1 p.2 Ek → BIs u u.heap.size q.1 q.2 Em → Calls Tryz.prog 8 #[.slice p.1 Ek.length p.2, .slice q.1 Em.length q.2] u (RetB u (decide (v = 0)))) := Lib.hid fun p q u h1 h2 => hEq ▸ SameBytes_any p.1 q.1 p.2 q.2 Ek Em u h1 h2 hlk hlm
          clear hEq hlk hlm hx
          have hT0 := hTab.on hbm
          generalize ekx : x k = X at *
          generalize eky : y k = Y at *
          generalize ekz : z k = D at *
          generalize emx : x m = X' at *
          generalize emy : y m = Y' at *
          generalize emz : z m = D' at *
          go_wp2_with fail
          refine wp_region_specs wr [Spec.eq (.slice (some ⟨gl, 0, none⟩) 4 4), Spec.eq (.int .i64 (k : Int)), Spec.eq (.pointer (some ⟨gl, k * 3, none⟩)), Spec.eq (.agg #[.int .i64 X, .int .i64 Y, .int .i64 D]), sP (mkP X D) (mkQ X D) (mkP Y D) (mkQ Y D), Spec.eq (.slice (some ⟨gl, 0, none⟩) 4 4), Spec.eq (.int .i64 (m : Int)), Spec.eq (.pointer (some ⟨gl, m * 3, none⟩)), Spec.eq (.agg #[.int .i64 X', .int .i64 Y', .int .i64 D']), sP (mkP X' D') (mkQ X' D') (mkP Y' D') (mkQ Y' D'), Spec.eq (.int .i64 v), Spec.eq (.int .i64 v)]
              (by kernel_rfl) (by kernel_rfl) rfl (by kernel_rfl) (Below.drew (Below.refl _ _)) ?_ ?_
          ·
            refine RegSteps.cons ?_ ?_
            · intro _ az wz hC hF hD _ K hK
              have q7 : az.tmps[7]? = some (.slice (some ⟨gl, 0, none⟩) 4 4) := hF 7 rfl
              clear hF hD
              refine want_none rfl ?_
              go_simp
              exact hK _ _ hC (Below.refl _ _) rfl
            refine RegSteps.cons ?_ ?_
            · intro _ az wz hC hF hD _ K hK
              have q8 : az.tmps[8]? = some (.int .i64 (k : Int)) := hF 8 rfl
              clear hF hD
              refine want_none rfl ?_
              go_simp
              exact hK _ _ hC (Below.refl _ _) rfl
            refine RegSteps.cons ?_ ?_
            · intro _ az wz hC hF hD _ K hK
              obtain ⟨_, q31, rfl⟩ := dep hD 0 rfl rfl rfl rfl
              obtain ⟨_, q32, rfl⟩ := dep hD 1 rfl rfl rfl rfl
              clear hF hD
              refine want_none rfl ?_
              go_simp
              exact hK _ _ hC (Below.refl _ _) rfl
            refine RegSteps.cons ?_ ?_
            · intro _ az wz hC hF hD _ K hK
              obtain ⟨_, q33, rfl⟩ := dep hD 2 rfl rfl rfl rfl
              obtain ⟨l0, l1, l2⟩ := rlk _ (Below.call hbm hC)
              clear hF hD
              refine want_none rfl ?_
              go_simp
              exact hK _ _ hC (Below.refl _ _) rfl
            refine RegSteps.cons ?_ ?_
            · intro _ az wz hC hF hD _ K hK
              obtain ⟨_, q34, rfl⟩ := dep hD 3 rfl rfl rfl rfl
              clear hF hD
              refine want_none rfl ?_
              go_simp
              refine (HRk.out _).mono ?_
              rintro e wy ⟨x, rfl, k, hx⟩
              exact hK _ _ (Below.call hC k) k ⟨x, rfl, hx⟩
            refine RegSteps.cons ?_ ?_
            · intro _ az wz hC hF hD _ K hK
              have q7 : az.tmps[7]? = some (.slice (some ⟨gl, 0, none⟩) 4 4) := hF 7 rfl
              clear hF hD
              refine want_none rfl ?_
              go_simp
              exact hK _ _ hC (Below.refl _ _) rfl
            refine RegSteps.cons ?_ ?_
            · intro _ az wz hC hF hD _ K hK
              have q9 : az.tmps[9]? = some (.int .i64 (m : Int)) := hF 9 rfl
              clear hF hD
              refine want_none rfl ?_
              go_simp
              exact hK _ _ hC (Below.refl _ _) rfl
            refine RegSteps.cons ?_ ?_
            · intro _ az wz hC hF hD _ K hK
              obtain ⟨_, q36, rfl⟩ := dep hD 5 rfl rfl rfl rfl
              obtain ⟨_, q37, rfl⟩ := dep hD 6 rfl rfl rfl rfl
              clear hF hD
              refine want_none rfl ?_
              go_simp
              exact hK _ _ hC (Below.refl _ _) rfl
            refine RegSteps.cons ?_ ?_
            · intro _ az wz hC hF hD _ K hK
              obtain ⟨_, q38, rfl⟩ := dep hD 7 rfl rfl rfl rfl
              obtain ⟨l0, l1, l2⟩ := rlm _ (Below.call hbm hC)
              clear hF hD
              refine want_none rfl ?_
              go_simp
              exact hK _ _ hC (Below.refl _ _) rfl
            refine RegSteps.cons ?_ ?_
            · intro _ az wz hC hF hD _ K hK
              obtain ⟨_, q39, rfl⟩ := dep hD 8 rfl rfl rfl rfl
              clear hF hD
              refine want_none rfl ?_
              go_simp
              refine (HRm.out _).mono ?_
              rintro e wy ⟨x, rfl, k, hx⟩
              exact hK _ _ (Below.call hC k) k ⟨x, rfl, hx⟩
            refine RegSteps.cons ?_ ?_
            · intro _ az wz hC hF hD _ K hK
              obtain ⟨_, q35, x35, rfl, hx35⟩ := dep hD 4 rfl rfl rfl rfl
              obtain ⟨_, q40, x40, rfl, hx40⟩ := dep hD 9 rfl rfl rfl rfl
              clear hF hD
              refine want_none rfl ?_
              go_simp
              refine (HC1.out _ _ _ hx35 hx40).mono ?_
              rintro e wy ⟨rfl, k⟩
              exact hK _ _ (Below.call hC k) k rfl
            refine RegSteps.cons ?_ ?_
            · intro _ az wz hC hF hD _ K hK
              obtain ⟨_, q41, rfl⟩ := dep hD 10 rfl rfl rfl rfl
              clear hF hD
              refine want_none rfl ?_
              go_simp
              exact hK _ _ hC (Below.refl _ _) rfl
            exact RegSteps.nil
          intro w1 hC1
          rintro _ rfl _ rfl _ rfl _ rfl _ ⟨y35, rfl, _⟩ _ rfl _ rfl _ rfl _ rfl _ ⟨y40, rfl, _⟩ _ rfl _ rfl
          simp only [FinOK, Act.put, List.setIfInBounds_toArray, List.set_cons_zero, List.set_cons_succ]
          have hb1 := Below.call hbm hC1
          have hT1 := hT0.on hC1
          go_wp2_with fail
          refine wp_region_specs w1 [Spec.eq (.slice (some ⟨gl, 0, none⟩) 4 4), Spec.eq (.int .i64 (k : Int)), Spec.eq (.pointer (some ⟨gl, k * 3, none⟩)), Spec.eq (.agg #[.int .i64 X, .int .i64 Y, .int .i64 D]), sP (mkP X D) (mkQ X D) (mkP Y D) (mkQ Y D), sBI Ek, Spec.eq (.slice (some ⟨gl, 0, none⟩) 4 4), Spec.eq (.int .i64 (m : Int)), Spec.eq (.pointer (some ⟨gl, m * 3, none⟩)), Spec.eq (.agg #[.int .i64 X', .int .i64 Y', .int .i64 D']), sP (mkP X' D') (mkQ X' D') (mkP Y' D') (mkQ Y' D'), sBI Em, Spec.eq (.bool (decide (v = 0))), Spec.eq (.bool (decide (v = 0)))]
              (by kernel_rfl) (by kernel_rfl) rfl (by kernel_rfl) (Below.drew (Below.refl _ _)) ?_ ?_
          ·
            refine RegSteps.cons ?_ ?_
            · intro _ az wz hC hF hD _ K hK
              have q7 : az.tmps[7]? = some (.slice (some ⟨gl, 0, none⟩) 4 4) := hF 7 rfl
              clear hF hD
              refine want_none rfl ?_
              go_simp
              exact hK _ _ hC (Below.refl _ _) rfl
            refine RegSteps.cons ?_ ?_
            · intro _ az wz hC hF hD _ K hK
              have q8 : az.tmps[8]? = some (.int .i64 (k : Int)) := hF 8 rfl
              clear hF hD
              refine want_none rfl ?_
              go_simp
              exact hK _ _ hC (Below.refl _ _) rfl
            refine RegSteps.cons ?_ ?_
            · intro _ az wz hC hF hD _ K hK
              obtain ⟨_, q42, rfl⟩ := dep hD 0 rfl rfl rfl rfl
              obtain ⟨_, q43, rfl⟩ := dep hD 1 rfl rfl rfl rfl
              clear hF hD
              refine want_none rfl ?_
              go_simp
              exact hK _ _ hC (Below.refl _ _) rfl
            refine RegSteps.cons ?_ ?_
            · intro _ az wz hC hF hD _ K hK
              obtain ⟨_, q44, rfl⟩ := dep hD 2 rfl rfl rfl rfl
              obtain ⟨l0, l1, l2⟩ := rlk _ (Below.call hb1 hC)
              clear hF hD
              refine want_none rfl ?_
              go_simp
              exact hK _ _ hC (Below.refl _ _) rfl
            refine RegSteps.cons ?_ ?_
            · intro _ az wz hC hF hD _ K hK
              obtain ⟨_, q45, rfl⟩ := dep hD 3 rfl rfl rfl rfl
              clear hF hD
              refine want_none rfl ?_
              go_simp
              refine (HRk.out _).mono ?_
              rintro e wy ⟨x, rfl, k, hx⟩
              exact hK _ _ (Below.call hC k) k ⟨x, rfl, hx⟩
            refine RegSteps.cons ?_ ?_
            · intro _ az wz hC hF hD _ K hK
              obtain ⟨_, q46, x46, rfl, hx46⟩ := dep hD 4 rfl rfl rfl rfl
              clear hF hD
              refine want_none rfl ?_
              go_simp
              refine (HEk.out _ _ hx46 (hT1.on hC)).mono ?_
              rintro e wy ⟨A_, c_, rfl, hx, k⟩
              exact hK _ _ (Below.call hC k) k ⟨⟨A_, c_⟩, rfl, hx⟩
            refine RegSteps.cons ?_ ?_
            · intro _ az wz hC hF hD _ K hK
              have q7 : az.tmps[7]? = some (.slice (some ⟨gl, 0, none⟩) 4 4) := hF 7 rfl
              clear hF hD
              refine want_none rfl ?_
              go_simp
              exact hK _ _ hC (Below.refl _ _) rfl
            refine RegSteps.cons ?_ ?_
            · intro _ az wz hC hF hD _ K hK
              have q9 : az.tmps[9]? = some (.int .i64 (m : Int)) := hF 9 rfl
              clear hF hD
              refine want_none rfl ?_
              go_simp
              exact hK _ _ hC (Below.refl _ _) rfl
            refine RegSteps.cons ?_ ?_
            · intro _ az wz hC hF hD _ K hK
              obtain ⟨_, q48, rfl⟩ := dep hD 6 rfl rfl rfl rfl
              obtain ⟨_, q49, rfl⟩ := dep hD 7 rfl rfl rfl rfl
              clear hF hD
              refine want_none rfl ?_
              go_simp
              exact hK _ _ hC (Below.refl _ _) rfl
            refine RegSteps.cons ?_ ?_
            · intro _ az wz hC hF hD _ K hK
              obtain ⟨_, q50, rfl⟩ := dep hD 8 rfl rfl rfl rfl
              obtain ⟨l0, l1, l2⟩ := rlm _ (Below.call hb1 hC)
              clear hF hD
              refine want_none rfl ?_
              go_simp
              exact hK _ _ hC (Below.refl _ _) rfl
            refine RegSteps.cons ?_ ?_
            · intro _ az wz hC hF hD _ K hK
              obtain ⟨_, q51, rfl⟩ := dep hD 9 rfl rfl rfl rfl
              clear hF hD
              refine want_none rfl ?_
              go_simp
              refine (HRm.out _).mono ?_
              rintro e wy ⟨x, rfl, k, hx⟩
              exact hK _ _ (Below.call hC k) k ⟨x, rfl, hx⟩
            refine RegSteps.cons ?_ ?_
            · intro _ az wz hC hF hD _ K hK
              obtain ⟨_, q52, x52, rfl, hx52⟩ := dep hD 10 rfl rfl rfl rfl
              clear hF hD
              refine want_none rfl ?_
              go_simp
              refine (HEm.out _ _ hx52 (hT1.on hC)).mono ?_
              rintro e wy ⟨A_, c_, rfl, hx, k⟩
              exact hK _ _ (Below.call hC k) k ⟨⟨A_, c_⟩, rfl, hx⟩
            refine RegSteps.cons ?_ ?_
            · intro _ az wz hC hF hD _ K hK
              obtain ⟨_, q47, x47, rfl, hx47⟩ := dep hD 5 rfl rfl rfl rfl
              obtain ⟨_, q53, x53, rfl, hx53⟩ := dep hD 11 rfl rfl rfl rfl
              clear hF hD
              refine want_none rfl ?_
              go_simp
              refine (HSB.out _ _ _ hx47 hx53).mono ?_
              rintro e wy ⟨rfl, k⟩
              exact hK _ _ (Below.call hC k) k rfl
            refine RegSteps.cons ?_ ?_
            · intro _ az wz hC hF hD _ K hK
              obtain ⟨_, q54, rfl⟩ := dep hD 12 rfl rfl rfl rfl
              clear hF hD
              refine want_none rfl ?_
              go_simp
              exact hK _ _ hC (Below.refl _ _) rfl
            exact RegSteps.nil
          intro w2 hC2
          rintro _ rfl _ rfl _ rfl _ rfl _ ⟨y46, rfl, _⟩ _ ⟨y47, rfl, _⟩ _ rfl _ rfl _ rfl _ rfl _ ⟨y52, rfl, _⟩ _ ⟨y53, rfl, _⟩ _ rfl _ rfl
          simp only [FinOK, Act.put, List.setIfInBounds_toArray, List.set_cons_zero, List.set_cons_succ]
          have hb2 := Below.call hb1 hC2
          have v0 : -9223372036854775808 < v := by omega
          have v1 : v ≤ 1 := by omega
          go_wp2_with fail
          refine wp_region_specs w2 [Spec.eq (.int .i64 v), Spec.eq (.slice (some ⟨gl, 0, none⟩) 4 4), Spec.eq (.int .i64 (k : Int)), Spec.eq (.pointer (some ⟨gl, k * 3, none⟩)), Spec.eq (.agg #[.int .i64 X, .int .i64 Y, .int .i64 D]), Spec.eq (.slice (some ⟨gl, 0, none⟩) 4 4), Spec.eq (.int .i64 (m : Int)), Spec.eq (.pointer (some ⟨gl, m * 3, none⟩)), Spec.eq (.agg #[.int .i64 X', .int .i64 Y', .int .i64 D']), Spec.eq (.int .i64 v), Spec.eq (.bool false), Spec.eq (.bool false), Spec.eq (.slice (some ⟨gl, 0, none⟩) 4 4), Spec.eq (.int .i64 (m : Int)), Spec.eq (.pointer (some ⟨gl, m * 3, none⟩)), Spec.eq (.agg #[.int .i64 X', .int .i64 Y', .int .i64 D']), sP (mkP X' D') (mkQ X' D') (mkP Y' D') (mkQ Y' D'), Spec.eq (.slice (some ⟨gl, 0, none⟩) 4 4), Spec.eq (.int .i64 (k : Int)), Spec.eq (.pointer (some ⟨gl, k * 3, none⟩)), Spec.eq (.agg #[.int .i64 X, .int .i64 Y, .int .i64 D]), sP (mkP X D) (mkQ X D) (mkP Y D) (mkQ Y D), Spec.eq (.int .i64 (-v)), Spec.eq (.int .i64 v), Spec.eq (.int .i64 (-v)), Spec.eq (.bool false), Spec.eq (.bool false), Spec.eq (.bool false), Spec.eq (.int .i64 v), Spec.eq (.bool (decide (v = 0))), Spec.eq (.bool (decide (v = 0))), Spec.eq (.bool false), Spec.eq (.bool false)]
              (by kernel_rfl) (by kernel_rfl) rfl (by kernel_rfl) (Below.drew (Below.refl _ _)) ?_ ?_
          ·
            refine RegSteps.cons ?_ ?_
            · intro _ az wz hC hF hD _ K hK
              have q10 : az.tmps[10]? = some (.int .i64 v) := hF 10 rfl
              clear hF hD
              refine want_none rfl ?_
              go_simp
              exact hK _ _ hC (Below.refl _ _) rfl
            refine RegSteps.cons ?_ ?_
            · intro _ az wz hC hF hD _ K hK
              have q7 : az.tmps[7]? = some (.slice (some ⟨gl, 0, none⟩) 4 4) := hF 7 rfl
              clear hF hD
              refine want_none rfl ?_
              go_simp
              exact hK _ _ hC (Below.refl _ _) rfl
            refine RegSteps.cons ?_ ?_
            · intro _ az wz hC hF hD _ K hK
              have q8 : az.tmps[8]? = some (.int .i64 (k : Int)) := hF 8 rfl
              clear hF hD
              refine want_none rfl ?_
              go_simp
              exact hK _ _ hC (Below.refl _ _) rfl
            refine RegSteps.cons ?_ ?_
            · intro _ az wz hC hF hD _ K hK
              obtain ⟨_, q56, rfl⟩ := dep hD 1 rfl rfl rfl rfl
              obtain ⟨_, q57, rfl⟩ := dep hD 2 rfl rfl rfl rfl
              clear hF hD
              refine want_none rfl ?_
              go_simp
              exact hK _ _ hC (Below.refl _ _) rfl
            refine RegSteps.cons ?_ ?_
            · intro _ az wz hC hF hD _ K hK
              obtain ⟨_, q58, rfl⟩ := dep hD 3 rfl rfl rfl rfl
              obtain ⟨l0, l1, l2⟩ := rlk _ (Below.call hb2 hC)
              clear hF hD
              refine want_none rfl ?_
              go_simp
              exact hK _ _ hC (Below.refl _ _) rfl
            refine RegSteps.cons ?_ ?_
            · intro _ az wz hC hF hD _ K hK
              have q7 : az.tmps[7]? = some (.slice (some ⟨gl, 0, none⟩) 4 4) := hF 7 rfl
              clear hF hD
              refine want_none rfl ?_
              go_simp
              exact hK _ _ hC (Below.refl _ _) rfl
            refine RegSteps.cons ?_ ?_
            · intro _ az wz hC hF hD _ K hK
              have q9 : az.tmps[9]? = some (.int .i64 (m : Int)) := hF 9 rfl
              clear hF hD
              refine want_none rfl ?_
              go_simp
              exact hK _ _ hC (Below.refl _ _) rfl
            refine RegSteps.cons ?_ ?_
            · intro _ az wz hC hF hD _ K hK
              obtain ⟨_, q60, rfl⟩ := dep hD 5 rfl rfl rfl rfl
              obtain ⟨_, q61, rfl⟩ := dep hD 6 rfl rfl rfl rfl
              clear hF hD
              refine want_none rfl ?_
              go_simp
              exact hK _ _ hC (Below.refl _ _) rfl
            refine RegSteps.cons ?_ ?_
            · intro _ az wz hC hF hD _ K hK
              obtain ⟨_, q62, rfl⟩ := dep hD 7 rfl rfl rfl rfl
              obtain ⟨l0, l1, l2⟩ := rlm _ (Below.call hb2 hC)
              clear hF hD
              refine want_none rfl ?_
              go_simp
              exact hK _ _ hC (Below.refl _ _) rfl
            refine RegSteps.cons ?_ ?_
            · intro _ az wz hC hF hD _ K hK
              obtain ⟨_, q59, rfl⟩ := dep hD 4 rfl rfl rfl rfl
              obtain ⟨_, q63, rfl⟩ := dep hD 8 rfl rfl rfl rfl
              clear hF hD
              refine want_none rfl ?_
              go_simp
              refine (HRC1.out _).mono ?_
              rintro e wy ⟨rfl, k⟩
              exact hK _ _ (Below.call hC k) k rfl
            refine RegSteps.cons ?_ ?_
            · intro _ az wz hC hF hD _ K hK
              obtain ⟨_, q55, rfl⟩ := dep hD 0 rfl rfl rfl rfl
              obtain ⟨_, q64, rfl⟩ := dep hD 9 rfl rfl rfl rfl
              clear hF hD
              refine want_none rfl ?_
              go_simp
              exact hK _ _ hC (Below.refl _ _) rfl
            refine RegSteps.cons ?_ ?_
            · intro _ az wz hC hF hD _ K hK
              obtain ⟨_, q65, rfl⟩ := dep hD 10 rfl rfl rfl rfl
              clear hF hD
              refine want_none rfl ?_
              go_simp
              exact hK _ _ hC (Below.refl _ _) rfl
            refine RegSteps.cons ?_ ?_
            · intro _ az wz hC hF hD _ K hK
              have q7 : az.tmps[7]? = some (.slice (some ⟨gl, 0, none⟩) 4 4) := hF 7 rfl
              obtain ⟨_, qg, rfl⟩ := dep hD 11 rfl rfl rfl rfl
              clear hF hD
              refine want_yes rfl rfl rfl qg ?_
              go_simp
              exact hK _ _ hC (Below.refl _ _) rfl
            refine RegSteps.cons ?_ ?_
            · intro _ az wz hC hF hD _ K hK
              have q9 : az.tmps[9]? = some (.int .i64 (m : Int)) := hF 9 rfl
              obtain ⟨_, qg, rfl⟩ := dep hD 11 rfl rfl rfl rfl
              clear hF hD
              refine want_yes rfl rfl rfl qg ?_
              go_simp
              exact hK _ _ hC (Below.refl _ _) rfl
            refine RegSteps.cons ?_ ?_
            · intro _ az wz hC hF hD _ K hK
              obtain ⟨_, q67, rfl⟩ := dep hD 12 rfl rfl rfl rfl
              obtain ⟨_, q68, rfl⟩ := dep hD 13 rfl rfl rfl rfl
              obtain ⟨_, qg, rfl⟩ := dep hD 11 rfl rfl rfl rfl
              clear hF hD
              refine want_yes rfl rfl rfl qg ?_
              go_simp
              exact hK _ _ hC (Below.refl _ _) rfl
            refine RegSteps.cons ?_ ?_
            · intro _ az wz hC hF hD _ K hK
              obtain ⟨_, q69, rfl⟩ := dep hD 14 rfl rfl rfl rfl
              obtain ⟨_, qg, rfl⟩ := dep hD 11 rfl rfl rfl rfl
              obtain ⟨l0, l1, l2⟩ := rlm _ (Below.call hb2 hC)
              clear hF hD
              refine want_yes rfl rfl rfl qg ?_
              go_simp
              exact hK _ _ hC (Below.refl _ _) rfl
            refine RegSteps.cons ?_ ?_
            · intro _ az wz hC hF hD _ K hK
              obtain ⟨_, q70, rfl⟩ := dep hD 15 rfl rfl rfl rfl
              obtain ⟨_, qg, rfl⟩ := dep hD 11 rfl rfl rfl rfl
              clear hF hD
              refine want_yes rfl rfl rfl qg ?_
              go_simp
              refine (HRm.out _).mono ?_
              rintro e wy ⟨x, rfl, k, hx⟩
              exact hK _ _ (Below.call hC k) k ⟨x, rfl, hx⟩
            refine RegSteps.cons ?_ ?_
            · intro _ az wz hC hF hD _ K hK
              have q7 : az.tmps[7]? = some (.slice (some ⟨gl, 0, none⟩) 4 4) := hF 7 rfl
              obtain ⟨_, qg, rfl⟩ := dep hD 11 rfl rfl rfl rfl
              clear hF hD
              refine want_yes rfl rfl rfl qg ?_
              go_simp
              exact hK _ _ hC (Below.refl _ _) rfl
            refine RegSteps.cons ?_ ?_
            · intro _ az wz hC hF hD _ K hK
              have q8 : az.tmps[8]? = some (.int .i64 (k : Int)) := hF 8 rfl
              obtain ⟨_, qg, rfl⟩ := dep hD 11 rfl rfl rfl rfl
              clear hF hD
              refine want_yes rfl rfl rfl qg ?_
              go_simp
              exact hK _ _ hC (Below.refl _ _) rfl
            refine RegSteps.cons ?_ ?_
            · intro _ az wz hC hF hD _ K hK
              obtain ⟨_, q72, rfl⟩ := dep hD 17 rfl rfl rfl rfl
              obtain ⟨_, q73, rfl⟩ := dep hD 18 rfl rfl rfl rfl
              obtain ⟨_, qg, rfl⟩ := dep hD 11 rfl rfl rfl rfl
              clear hF hD
              refine want_yes rfl rfl rfl qg ?_
              go_simp
              exact hK _ _ hC (Below.refl _ _) rfl
            refine RegSteps.cons ?_ ?_
            · intro _ az wz hC hF hD _ K hK
              obtain ⟨_, q74, rfl⟩ := dep hD 19 rfl rfl rfl rfl
              obtain ⟨_, qg, rfl⟩ := dep hD 11 rfl rfl rfl rfl
              obtain ⟨l0, l1, l2⟩ := rlk _ (Below.call hb2 hC)
              clear hF hD
              refine want_yes rfl rfl rfl qg ?_
              go_simp
              exact hK _ _ hC (Below.refl _ _) rfl
            refine RegSteps.cons ?_ ?_
            · intro _ az wz hC hF hD _ K hK
              obtain ⟨_, q75, rfl⟩ := dep hD 20 rfl rfl rfl rfl
              obtain ⟨_, qg, rfl⟩ := dep hD 11 rfl rfl rfl rfl
              clear hF hD
              refine want_yes rfl rfl rfl qg ?_
              go_simp
              refine (HRk.out _).mono ?_
              rintro e wy ⟨x, rfl, k, hx⟩
              exact hK _ _ (Below.call hC k) k ⟨x, rfl, hx⟩
            refine RegSteps.cons ?_ ?_
            · intro _ az wz hC hF hD _ K hK
              obtain ⟨_, q71, x71, rfl, hx71⟩ := dep hD 16 rfl rfl rfl rfl
              obtain ⟨_, q76, x76, rfl, hx76⟩ := dep hD 21 rfl rfl rfl rfl
              obtain ⟨_, qg, rfl⟩ := dep hD 11 rfl rfl rfl rfl
              clear hF hD
              refine want_yes rfl rfl rfl qg ?_
              go_simp
              refine (HC2.out _ _ _ hx71 hx76).mono ?_
              rintro e wy ⟨rfl, k⟩
              exact hK _ _ (Below.call hC k) k rfl
            refine RegSteps.cons ?_ ?_
            · intro _ az wz hC hF hD _ K hK
              have q10 : az.tmps[10]? = some (.int .i64 v) := hF 10 rfl
              obtain ⟨_, qg, rfl⟩ := dep hD 11 rfl rfl rfl rfl
              clear hF hD
              refine want_yes rfl rfl rfl qg ?_
              go_simp
              exact hK _ _ hC (Below.refl _ _) rfl
            refine RegSteps.cons ?_ ?_
            · intro _ az wz hC hF hD _ K hK
              obtain ⟨_, q78, rfl⟩ := dep hD 23 rfl rfl rfl rfl
              obtain ⟨_, qg, rfl⟩ := dep hD 11 rfl rfl rfl rfl
              clear hF hD
              refine want_yes rfl rfl rfl qg ?_
              go_simp
              try go_ints
              exact hK _ _ hC (Below.refl _ _) rfl
            refine RegSteps.cons ?_ ?_
            · intro _ az wz hC hF hD _ K hK
              obtain ⟨_, q77, rfl⟩ := dep hD 22 rfl rfl rfl rfl
              obtain ⟨_, q79, rfl⟩ := dep hD 24 rfl rfl rfl rfl
              obtain ⟨_, qg, rfl⟩ := dep hD 11 rfl rfl rfl rfl
              clear hF hD
              refine want_yes rfl rfl rfl qg ?_
              go_simp
              exact hK _ _ hC (Below.refl _ _) rfl
            refine RegSteps.cons ?_ ?_
            · intro _ az wz hC hF hD _ K hK
              obtain ⟨_, q66, rfl⟩ := dep hD 11 rfl rfl rfl rfl
              obtain ⟨_, q80, rfl⟩ := dep hD 25 rfl rfl rfl rfl
              clear hF hD
              refine want_none rfl ?_
              go_simp
              exact hK _ _ hC (Below.refl _ _) rfl
            refine RegSteps.cons ?_ ?_
            · intro _ az wz hC hF hD _ K hK
              obtain ⟨_, q81, rfl⟩ := dep hD 26 rfl rfl rfl rfl
              clear hF hD
              refine want_none rfl ?_
              go_simp
              exact hK _ _ hC (Below.refl _ _) rfl
            refine RegSteps.cons ?_ ?_
            · intro _ az wz hC hF hD _ K hK
              have q10 : az.tmps[10]? = some (.int .i64 v) := hF 10 rfl
              obtain ⟨_, qg, rfl⟩ := dep hD 27 rfl rfl rfl rfl
              clear hF hD
              refine want_yes rfl rfl rfl qg ?_
              go_simp
              exact hK _ _ hC (Below.refl _ _) rfl
            refine RegSteps.cons ?_ ?_
            · intro _ az wz hC hF hD _ K hK
              obtain ⟨_, q83, rfl⟩ := dep hD 28 rfl rfl rfl rfl
              obtain ⟨_, qg, rfl⟩ := dep hD 27 rfl rfl rfl rfl
              clear hF hD
              refine want_yes rfl rfl rfl qg ?_
              go_simp
              exact hK _ _ hC (Below.refl _ _) rfl
            refine RegSteps.cons ?_ ?_
            · intro _ az wz hC hF hD _ K hK
              have q11 : az.tmps[11]? = some (.bool (decide (v = 0))) := hF 11 rfl
              obtain ⟨_, qg, rfl⟩ := dep hD 27 rfl rfl rfl rfl
              clear hF hD
              refine want_yes rfl rfl rfl qg ?_
              go_simp
              exact hK _ _ hC (Below.refl _ _) rfl
            refine RegSteps.cons ?_ ?_
            · intro _ az wz hC hF hD _ K hK
              obtain ⟨_, q84, rfl⟩ := dep hD 29 rfl rfl rfl rfl
              obtain ⟨_, q85, rfl⟩ := dep hD 30 rfl rfl rfl rfl
              obtain ⟨_, qg, rfl⟩ := dep hD 27 rfl rfl rfl rfl
              clear hF hD
              refine want_yes rfl rfl rfl qg ?_
              go_simp
              exact hK _ _ hC (Below.refl _ _) rfl
            refine RegSteps.cons ?_ ?_
            · intro _ az wz hC hF hD _ K hK
              obtain ⟨_, q82, rfl⟩ := dep hD 27 rfl rfl rfl rfl
              obtain ⟨_, q86, rfl⟩ := dep hD 31 rfl rfl rfl rfl
              clear hF hD
              refine want_none rfl ?_
              go_simp
              exact hK _ _ hC (Below.refl _ _) rfl
            exact RegSteps.nil
          intro w3 hC3
          rintro _ rfl _ rfl _ rfl _ rfl _ rfl _ rfl _ rfl _ rfl _ rfl _ rfl _ rfl _ rfl _ rfl _ rfl _ rfl _ rfl _ ⟨y71, rfl, _⟩ _ rfl _ rfl _ rfl _ rfl _ ⟨y76, rfl, _⟩ _ rfl _ rfl _ rfl _ rfl _ rfl _ rfl _ rfl _ rfl _ rfl _ rfl _ rfl
          simp only [FinOK, Act.put, List.setIfInBounds_toArray, List.set_cons_zero, List.set_cons_succ]
          have hb3 := Below.call hb2 hC3
          have HB3 := Lib.hid hb3
          clear HSB HRC1 HC1 HC2 HEk HEm hb1 hb2 hC1 hC2 hC3 hT0 hT1 v0 v1 hbm hb3
          go_wp2_with fail
          go_loopw [12] (fun s wr => ∃ j : Nat, j ≤ 4 ∧ s = .int .i64 (j : Int) ∧ Below W0.heap.size W0 wr) (fun s _ => 4 - (intOf s).toNat)
          case atStart => exact ⟨0, by omega, rfl, HB3.out⟩
          case round =>
            obtain ⟨j, hj, rfl, hbj⟩ := hrel
            rcases Nat.lt_or_eq_of_le hj with hjt | heq
            · have j0 : (0 : Int) ≤ (j : Int) := by omega
              have j4 : (j : Int) < 4 := by omega
              have rlj := fun wz h => RL.out wz h j hjt
              have HRj := Lib.hid (HR.out j)
              have HCmj := Lib.hid (HC3.out j)
              have HCkj := Lib.hid (HC4.out j)
              have hTr := HTkm.out j
              generalize pc X' Y' D' (x j) (y j) (z j) = u at HCmj hTr
              generalize pc X Y D (x j) (y j) (z j) = t at HCkj hTr
              generalize x j = X'' at *
              generalize y j = Y'' at *
              generalize z j = D'' at *
              by_cases c1 : v ≤ 0
              · by_cases c2 : u ≤ 0
                · have c3 : ¬ 0 < t := by have := hTr c1 c2; omega
                  go_wp2_with fail
                  refine wp_region_specs wr [Spec.eq (.int .i64 v), Spec.eq (.bool true), Spec.eq (.bool true), Spec.eq (.slice (some ⟨gl, 0, none⟩) 4 4), Spec.eq (.int .i64 (m : Int)), Spec.eq (.pointer (some ⟨gl, m * 3, none⟩)), Spec.eq (.agg #[.int .i64 X', .int .i64 Y', .int .i64 D']), sP (mkP X' D') (mkQ X' D') (mkP Y' D') (mkQ Y' D'), Spec.eq (.slice (some ⟨gl, 0, none⟩) 4 4), Spec.eq (.int .i64 (j : Int)), Spec.eq (.pointer (some ⟨gl, j * 3, none⟩)), Spec.eq (.agg #[.int .i64 X'', .int .i64 Y'', .int .i64 D'']), sP (mkP X'' D'') (mkQ X'' D'') (mkP Y'' D'') (mkQ Y'' D''), Spec.eq (.int .i64 u), Spec.eq (.bool true), Spec.eq (.bool true), Spec.eq (.bool true), Spec.eq (.slice (some ⟨gl, 0, none⟩) 4 4), Spec.eq (.int .i64 (k : Int)), Spec.eq (.pointer (some ⟨gl, k * 3, none⟩)), Spec.eq (.agg #[.int .i64 X, .int .i64 Y, .int .i64 D]), sP (mkP X D) (mkQ X D) (mkP Y D) (mkQ Y D), Spec.eq (.slice (some ⟨gl, 0, none⟩) 4 4), Spec.eq (.int .i64 (j : Int)), Spec.eq (.pointer (some ⟨gl, j * 3, none⟩)), Spec.eq (.agg #[.int .i64 X'', .int .i64 Y'', .int .i64 D'']), sP (mkP X'' D'') (mkQ X'' D'') (mkP Y'' D'') (mkQ Y'' D''), Spec.eq (.int .i64 t), Spec.eq (.bool false), Spec.eq (.bool false)]
                      (by kernel_rfl) (by kernel_rfl) rfl (by kernel_rfl) (Below.drew (Below.refl _ _)) ?_ ?_
                  ·
                    refine RegSteps.cons ?_ ?_
                    · intro _ az wz hC hF hD _ K hK
                      have q10 : az.tmps[10]? = some (.int .i64 v) := hF 10 rfl
                      clear hF hD
                      refine want_none rfl ?_
                      go_simp
                      exact hK _ _ hC (Below.refl _ _) rfl
                    refine RegSteps.cons ?_ ?_
                    · intro _ az wz hC hF hD _ K hK
                      obtain ⟨_, q92, rfl⟩ := dep hD 0 rfl rfl rfl rfl
                      clear hF hD
                      refine want_none rfl ?_
                      go_simp
                      exact hK _ _ hC (Below.refl _ _) rfl
                    refine RegSteps.cons ?_ ?_
                    · intro _ az wz hC hF hD _ K hK
                      obtain ⟨_, q93, rfl⟩ := dep hD 1 rfl rfl rfl rfl
                      clear hF hD
                      refine want_none rfl ?_
                      go_simp
                      exact hK _ _ hC (Below.refl _ _) rfl
                    refine RegSteps.cons ?_ ?_
                    · intro _ az wz hC hF hD _ K hK
                      have q7 : az.tmps[7]? = some (.slice (some ⟨gl, 0, none⟩) 4 4) := hF 7 rfl
                      obtain ⟨_, qg, rfl⟩ := dep hD 2 rfl rfl rfl rfl
                      clear hF hD
                      refine want_yes rfl rfl rfl qg ?_
                      go_simp
                      exact hK _ _ hC (Below.refl _ _) rfl
                    refine RegSteps.cons ?_ ?_
                    · intro _ az wz hC hF hD _ K hK
                      have q9 : az.tmps[9]? = some (.int .i64 (m : Int)) := hF 9 rfl
                      obtain ⟨_, qg, rfl⟩ := dep hD 2 rfl rfl rfl rfl
                      clear hF hD
                      refine want_yes rfl rfl rfl qg ?_
                      go_simp
                      exact hK _ _ hC (Below.refl _ _) rfl
                    refine RegSteps.cons ?_ ?_
                    · intro _ az wz hC hF hD _ K hK
                      obtain ⟨_, q95, rfl⟩ := dep hD 3 rfl rfl rfl rfl
                      obtain ⟨_, q96, rfl⟩ := dep hD 4 rfl rfl rfl rfl
                      obtain ⟨_, qg, rfl⟩ := dep hD 2 rfl rfl rfl rfl
                      clear hF hD
                      refine want_yes rfl rfl rfl qg ?_
                      go_simp
                      exact hK _ _ hC (Below.refl _ _) rfl
                    refine RegSteps.cons ?_ ?_
                    · intro _ az wz hC hF hD _ K hK
                      obtain ⟨_, q97, rfl⟩ := dep hD 5 rfl rfl rfl rfl
                      obtain ⟨_, qg, rfl⟩ := dep hD 2 rfl rfl rfl rfl
                      obtain ⟨l0, l1, l2⟩ := rlm _ (Below.call hbj hC)
                      clear hF hD
                      refine want_yes rfl rfl rfl qg ?_
                      go_simp
                      exact hK _ _ hC (Below.refl _ _) rfl
                    refine RegSteps.cons ?_ ?_
                    · intro _ az wz hC hF hD _ K hK
                      obtain ⟨_, q98, rfl⟩ := dep hD 6 rfl rfl rfl rfl
                      obtain ⟨_, qg, rfl⟩ := dep hD 2 rfl rfl rfl rfl
                      clear hF hD
                      refine want_yes rfl rfl rfl qg ?_
                      go_simp
                      refine (HRm.out _).mono ?_
                      rintro e wy ⟨x, rfl, k, hx⟩
                      exact hK _ _ (Below.call hC k) k ⟨x, rfl, hx⟩
                    refine RegSteps.cons ?_ ?_
                    · intro _ az wz hC hF hD _ K hK
                      have q7 : az.tmps[7]? = some (.slice (some ⟨gl, 0, none⟩) 4 4) := hF 7 rfl
                      obtain ⟨_, qg, rfl⟩ := dep hD 2 rfl rfl rfl rfl
                      clear hF hD
                      refine want_yes rfl rfl rfl qg ?_
                      go_simp
                      exact hK _ _ hC (Below.refl _ _) rfl
                    refine RegSteps.cons ?_ ?_
                    · intro _ az wz hC hF hD _ K hK
                      have q12 : az.tmps[12]? = some (.int .i64 (j : Int)) := hF 12 rfl
                      obtain ⟨_, qg, rfl⟩ := dep hD 2 rfl rfl rfl rfl
                      clear hF hD
                      refine want_yes rfl rfl rfl qg ?_
                      go_simp
                      exact hK _ _ hC (Below.refl _ _) rfl
                    refine RegSteps.cons ?_ ?_
                    · intro _ az wz hC hF hD _ K hK
                      obtain ⟨_, q100, rfl⟩ := dep hD 8 rfl rfl rfl rfl
                      obtain ⟨_, q101, rfl⟩ := dep hD 9 rfl rfl rfl rfl
                      obtain ⟨_, qg, rfl⟩ := dep hD 2 rfl rfl rfl rfl
                      clear hF hD
                      refine want_yes rfl rfl rfl qg ?_
                      go_simp
                      exact hK _ _ hC (Below.refl _ _) rfl
                    refine RegSteps.cons ?_ ?_
                    · intro _ az wz hC hF hD _ K hK
                      obtain ⟨_, q102, rfl⟩ := dep hD 10 rfl rfl rfl rfl
                      obtain ⟨_, qg, rfl⟩ := dep hD 2 rfl rfl rfl rfl
                      obtain ⟨l0, l1, l2⟩ := rlj _ (Below.call hbj hC)
                      clear hF hD
                      refine want_yes rfl rfl rfl qg ?_
                      go_simp
                      exact hK _ _ hC (Below.refl _ _) rfl
                    refine RegSteps.cons ?_ ?_
                    · intro _ az wz hC hF hD _ K hK
                      obtain ⟨_, q103, rfl⟩ := dep hD 11 rfl rfl rfl rfl
                      obtain ⟨_, qg, rfl⟩ := dep hD 2 rfl rfl rfl rfl
                      clear hF hD
                      refine want_yes rfl rfl rfl qg ?_
                      go_simp
                      refine (HRj.out _).mono ?_
                      rintro e wy ⟨x, rfl, k, hx⟩
                      exact hK _ _ (Below.call hC k) k ⟨x, rfl, hx⟩
                    refine RegSteps.cons ?_ ?_
                    · intro _ az wz hC hF hD _ K hK
                      obtain ⟨_, q99, x99, rfl, hx99⟩ := dep hD 7 rfl rfl rfl rfl
                      obtain ⟨_, q104, x104, rfl, hx104⟩ := dep hD 12 rfl rfl rfl rfl
                      obtain ⟨_, qg, rfl⟩ := dep hD 2 rfl rfl rfl rfl
                      clear hF hD
                      refine want_yes rfl rfl rfl qg ?_
                      go_simp
                      refine (HCmj.out _ _ _ hx99 hx104).mono ?_
                      rintro e wy ⟨rfl, k⟩
                      exact hK _ _ (Below.call hC k) k rfl
                    refine RegSteps.cons ?_ ?_
                    · intro _ az wz hC hF hD _ K hK
                      obtain ⟨_, q105, rfl⟩ := dep hD 13 rfl rfl rfl rfl
                      obtain ⟨_, qg, rfl⟩ := dep hD 2 rfl rfl rfl rfl
                      clear hF hD
                      refine want_yes rfl rfl rfl qg ?_
                      go_simp
                      exact hK _ _ hC (Below.refl _ _) rfl
                    refine RegSteps.cons ?_ ?_
                    · intro _ az wz hC hF hD _ K hK
                      obtain ⟨_, q94, rfl⟩ := dep hD 2 rfl rfl rfl rfl
                      obtain ⟨_, q106, rfl⟩ := dep hD 14 rfl rfl rfl rfl
                      clear hF hD
                      refine want_none rfl ?_
                      go_simp
                      exact hK _ _ hC (Below.refl _ _) rfl
                    refine RegSteps.cons ?_ ?_
                    · intro _ az wz hC hF hD _ K hK
                      obtain ⟨_, q107, rfl⟩ := dep hD 15 rfl rfl rfl rfl
                      clear hF hD
                      refine want_none rfl ?_
                      go_simp
                      exact hK _ _ hC (Below.refl _ _) rfl
                    refine RegSteps.cons ?_ ?_
                    · intro _ az wz hC hF hD _ K hK
                      have q7 : az.tmps[7]? = some (.slice (some ⟨gl, 0, none⟩) 4 4) := hF 7 rfl
                      obtain ⟨_, qg, rfl⟩ := dep hD 16 rfl rfl rfl rfl
                      clear hF hD
                      refine want_yes rfl rfl rfl qg ?_
                      go_simp
                      exact hK _ _ hC (Below.refl _ _) rfl
                    refine RegSteps.cons ?_ ?_
                    · intro _ az wz hC hF hD _ K hK
                      have q8 : az.tmps[8]? = some (.int .i64 (k : Int)) := hF 8 rfl
                      obtain ⟨_, qg, rfl⟩ := dep hD 16 rfl rfl rfl rfl
                      clear hF hD
                      refine want_yes rfl rfl rfl qg ?_
                      go_simp
                      exact hK _ _ hC (Below.refl _ _) rfl
                    refine RegSteps.cons ?_ ?_
                    · intro _ az wz hC hF hD _ K hK
                      obtain ⟨_, q109, rfl⟩ := dep hD 17 rfl rfl rfl rfl
                      obtain ⟨_, q110, rfl⟩ := dep hD 18 rfl rfl rfl rfl
                      obtain ⟨_, qg, rfl⟩ := dep hD 16 rfl rfl rfl rfl
                      clear hF hD
                      refine want_yes rfl rfl rfl qg ?_
                      go_simp
                      exact hK _ _ hC (Below.refl _ _) rfl
                    refine RegSteps.cons ?_ ?_
                    · intro _ az wz hC hF hD _ K hK
                      obtain ⟨_, q111, rfl⟩ := dep hD 19 rfl rfl rfl rfl
                      obtain ⟨_, qg, rfl⟩ := dep hD 16 rfl rfl rfl rfl
                      obtain ⟨l0, l1, l2⟩ := rlk _ (Below.call hbj hC)
                      clear hF hD
                      refine want_yes rfl rfl rfl qg ?_
                      go_simp
                      exact hK _ _ hC (Below.refl _ _) rfl
                    refine RegSteps.cons ?_ ?_
                    · intro _ az wz hC hF hD _ K hK
                      obtain ⟨_, q112, rfl⟩ := dep hD 20 rfl rfl rfl rfl
                      obtain ⟨_, qg, rfl⟩ := dep hD 16 rfl rfl rfl rfl
                      clear hF hD
                      refine want_yes rfl rfl rfl qg ?_
                      go_simp
                      refine (HRk.out _).mono ?_
                      rintro e wy ⟨x, rfl, k, hx⟩
                      exact hK _ _ (Below.call hC k) k ⟨x, rfl, hx⟩
                    refine RegSteps.cons ?_ ?_
                    · intro _ az wz hC hF hD _ K hK
                      have q7 : az.tmps[7]? = some (.slice (some ⟨gl, 0, none⟩) 4 4) := hF 7 rfl
                      obtain ⟨_, qg, rfl⟩ := dep hD 16 rfl rfl rfl rfl
                      clear hF hD
                      refine want_yes rfl rfl rfl qg ?_
                      go_simp
                      exact hK _ _ hC (Below.refl _ _) rfl
                    refine RegSteps.cons ?_ ?_
                    · intro _ az wz hC hF hD _ K hK
                      have q12 : az.tmps[12]? = some (.int .i64 (j : Int)) := hF 12 rfl
                      obtain ⟨_, qg, rfl⟩ := dep hD 16 rfl rfl rfl rfl
                      clear hF hD
                      refine want_yes rfl rfl rfl qg ?_
                      go_simp
                      exact hK _ _ hC (Below.refl _ _) rfl
                    refine RegSteps.cons ?_ ?_
                    · intro _ az wz hC hF hD _ K hK
                      obtain ⟨_, q114, rfl⟩ := dep hD 22 rfl rfl rfl rfl
                      obtain ⟨_, q115, rfl⟩ := dep hD 23 rfl rfl rfl rfl
                      obtain ⟨_, qg, rfl⟩ := dep hD 16 rfl rfl rfl rfl
                      clear hF hD
                      refine want_yes rfl rfl rfl qg ?_
                      go_simp
                      exact hK _ _ hC (Below.refl _ _) rfl
                    refine RegSteps.cons ?_ ?_
                    · intro _ az wz hC hF hD _ K hK
                      obtain ⟨_, q116, rfl⟩ := dep hD 24 rfl rfl rfl rfl
                      obtain ⟨_, qg, rfl⟩ := dep hD 16 rfl rfl rfl rfl
                      obtain ⟨l0, l1, l2⟩ := rlj _ (Below.call hbj hC)
                      clear hF hD
                      refine want_yes rfl rfl rfl qg ?_
                      go_simp
                      exact hK _ _ hC (Below.refl _ _) rfl
                    refine RegSteps.cons ?_ ?_
                    · intro _ az wz hC hF hD _ K hK
                      obtain ⟨_, q117, rfl⟩ := dep hD 25 rfl rfl rfl rfl
                      obtain ⟨_, qg, rfl⟩ := dep hD 16 rfl rfl rfl rfl
                      clear hF hD
                      refine want_yes rfl rfl rfl qg ?_
                      go_simp
                      refine (HRj.out _).mono ?_
                      rintro e wy ⟨x, rfl, k, hx⟩
                      exact hK _ _ (Below.call hC k) k ⟨x, rfl, hx⟩
                    refine RegSteps.cons ?_ ?_
                    · intro _ az wz hC hF hD _ K hK
                      obtain ⟨_, q113, x113, rfl, hx113⟩ := dep hD 21 rfl rfl rfl rfl
                      obtain ⟨_, q118, x118, rfl, hx118⟩ := dep hD 26 rfl rfl rfl rfl
                      obtain ⟨_, qg, rfl⟩ := dep hD 16 rfl rfl rfl rfl
                      clear hF hD
                      refine want_yes rfl rfl rfl qg ?_
                      go_simp
                      refine (HCkj.out _ _ _ hx113 hx118).mono ?_
                      rintro e wy ⟨rfl, k⟩
                      exact hK _ _ (Below.call hC k) k rfl
                    refine RegSteps.cons ?_ ?_
                    · intro _ az wz hC hF hD _ K hK
                      obtain ⟨_, q119, rfl⟩ := dep hD 27 rfl rfl rfl rfl
                      obtain ⟨_, qg, rfl⟩ := dep hD 16 rfl rfl rfl rfl
                      clear hF hD
                      refine want_yes rfl rfl rfl qg ?_
                      go_simp
                      rw [decide_eq_false (by omega : ¬ (0 < t))]
                      exact hK _ _ hC (Below.refl _ _) rfl
                    refine RegSteps.cons ?_ ?_
                    · intro _ az wz hC hF hD _ K hK
                      obtain ⟨_, q108, rfl⟩ := dep hD 16 rfl rfl rfl rfl
                      obtain ⟨_, q120, rfl⟩ := dep hD 28 rfl rfl rfl rfl
                      clear hF hD
                      refine want_none rfl ?_
                      go_simp
                      exact hK _ _ hC (Below.refl _ _) rfl
                    exact RegSteps.nil
                  intro w4 hC4
                  rintro _ rfl _ rfl _ rfl _ rfl _ rfl _ rfl _ rfl _ ⟨y99, rfl, _⟩ _ rfl _ rfl _ rfl _ rfl _ ⟨y104, rfl, _⟩ _ rfl _ rfl _ rfl _ rfl _ rfl _ rfl _ rfl _ rfl _ ⟨y113, rfl, _⟩ _ rfl _ rfl _ rfl _ rfl _ ⟨y118, rfl, _⟩ _ rfl _ rfl _ rfl
                  simp only [FinOK, Act.put, List.setIfInBounds_toArray, List.set_cons_zero, List.set_cons_succ]
                  have HB4 := Lib.hid (Below.call hbj hC4)
                  clear hC4 hbj HCmj HCkj
                  go_wp2_with fail
                  go_roundw
                  case rel => exact ⟨j + 1, by omega, by go_num, HB4.out⟩
                  case measure => simp [intOf]; omega
                · go_wp2_with fail
                  refine wp_region_specs wr [Spec.eq (.int .i64 v), Spec.eq (.bool true), Spec.eq (.bool true), Spec.eq (.slice (some ⟨gl, 0, none⟩) 4 4), Spec.eq (.int .i64 (m : Int)), Spec.eq (.pointer (some ⟨gl, m * 3, none⟩)), Spec.eq (.agg #[.int .i64 X', .int .i64 Y', .int .i64 D']), sP (mkP X' D') (mkQ X' D') (mkP Y' D') (mkQ Y' D'), Spec.eq (.slice (some ⟨gl, 0, none⟩) 4 4), Spec.eq (.int .i64 (j : Int)), Spec.eq (.pointer (some ⟨gl, j * 3, none⟩)), Spec.eq (.agg #[.int .i64 X'', .int .i64 Y'', .int .i64 D'']), sP (mkP X'' D'') (mkQ X'' D'') (mkP Y'' D'') (mkQ Y'' D''), Spec.eq (.int .i64 u), Spec.eq (.bool false), Spec.eq (.bool false), Spec.eq (.bool false), Spec.eq undef, Spec.eq undef, Spec.eq undef, Spec.eq undef, Spec.eq undef, Spec.eq undef, Spec.eq undef, Spec.eq undef, Spec.eq undef, Spec.eq undef, Spec.eq undef, Spec.eq undef, Spec.eq (.bool false)]
                      (by kernel_rfl) (by kernel_rfl) rfl (by kernel_rfl) (Below.drew (Below.refl _ _)) ?_ ?_
                  ·
                    refine RegSteps.cons ?_ ?_
                    · intro _ az wz hC hF hD _ K hK
                      have q10 : az.tmps[10]? = some (.int .i64 v) := hF 10 rfl
                      clear hF hD
                      refine want_none rfl ?_
                      go_simp
                      exact hK _ _ hC (Below.refl _ _) rfl
                    refine RegSteps.cons ?_ ?_
                    · intro _ az wz hC hF hD _ K hK
                      obtain ⟨_, q92, rfl⟩ := dep hD 0 rfl rfl rfl rfl
                      clear hF hD
                      refine want_none rfl ?_
                      go_simp
                      exact hK _ _ hC (Below.refl _ _) rfl
                    refine RegSteps.cons ?_ ?_
                    · intro _ az wz hC hF hD _ K hK
                      obtain ⟨_, q93, rfl⟩ := dep hD 1 rfl rfl rfl rfl
                      clear hF hD
                      refine want_none rfl ?_
                      go_simp
                      exact hK _ _ hC (Below.refl _ _) rfl
                    refine RegSteps.cons ?_ ?_
                    · intro _ az wz hC hF hD _ K hK
                      have q7 : az.tmps[7]? = some (.slice (some ⟨gl, 0, none⟩) 4 4) := hF 7 rfl
                      obtain ⟨_, qg, rfl⟩ := dep hD 2 rfl rfl rfl rfl
                      clear hF hD
                      refine want_yes rfl rfl rfl qg ?_
                      go_simp
                      exact hK _ _ hC (Below.refl _ _) rfl
                    refine RegSteps.cons ?_ ?_
                    · intro _ az wz hC hF hD _ K hK
                      have q9 : az.tmps[9]? = some (.int .i64 (m : Int)) := hF 9 rfl
                      obtain ⟨_, qg, rfl⟩ := dep hD 2 rfl rfl rfl rfl
                      clear hF hD
                      refine want_yes rfl rfl rfl qg ?_
                      go_simp
                      exact hK _ _ hC (Below.refl _ _) rfl
                    refine RegSteps.cons ?_ ?_
                    · intro _ az wz hC hF hD _ K hK
                      obtain ⟨_, q95, rfl⟩ := dep hD 3 rfl rfl rfl rfl
                      obtain ⟨_, q96, rfl⟩ := dep hD 4 rfl rfl rfl rfl
                      obtain ⟨_, qg, rfl⟩ := dep hD 2 rfl rfl rfl rfl
                      clear hF hD
                      refine want_yes rfl rfl rfl qg ?_
                      go_simp
                      exact hK _ _ hC (Below.refl _ _) rfl
                    refine RegSteps.cons ?_ ?_
                    · intro _ az wz hC hF hD _ K hK
                      obtain ⟨_, q97, rfl⟩ := dep hD 5 rfl rfl rfl rfl
                      obtain ⟨_, qg, rfl⟩ := dep hD 2 rfl rfl rfl rfl
                      obtain ⟨l0, l1, l2⟩ := rlm _ (Below.call hbj hC)
                      clear hF hD
                      refine want_yes rfl rfl rfl qg ?_
                      go_simp
                      exact hK _ _ hC (Below.refl _ _) rfl
                    refine RegSteps.cons ?_ ?_
                    · intro _ az wz hC hF hD _ K hK
                      obtain ⟨_, q98, rfl⟩ := dep hD 6 rfl rfl rfl rfl
                      obtain ⟨_, qg, rfl⟩ := dep hD 2 rfl rfl rfl rfl
                      clear hF hD
                      refine want_yes rfl rfl rfl qg ?_
                      go_simp
                      refine (HRm.out _).mono ?_
                      rintro e wy ⟨x, rfl, k, hx⟩
                      exact hK _ _ (Below.call hC k) k ⟨x, rfl, hx⟩
                    refine RegSteps.cons ?_ ?_
                    · intro _ az wz hC hF hD _ K hK
                      have q7 : az.tmps[7]? = some (.slice (some ⟨gl, 0, none⟩) 4 4) := hF 7 rfl
                      obtain ⟨_, qg, rfl⟩ := dep hD 2 rfl rfl rfl rfl
                      clear hF hD
                      refine want_yes rfl rfl rfl qg ?_
                      go_simp
                      exact hK _ _ hC (Below.refl _ _) rfl
                    refine RegSteps.cons ?_ ?_
                    · intro _ az wz hC hF hD _ K hK
                      have q12 : az.tmps[12]? = some (.int .i64 (j : Int)) := hF 12 rfl
                      obtain ⟨_, qg, rfl⟩ := dep hD 2 rfl rfl rfl rfl
                      clear hF hD
                      refine want_yes rfl rfl rfl qg ?_
                      go_simp
                      exact hK _ _ hC (Below.refl _ _) rfl
                    refine RegSteps.cons ?_ ?_
                    · intro _ az wz hC hF hD _ K hK
                      obtain ⟨_, q100, rfl⟩ := dep hD 8 rfl rfl rfl rfl
                      obtain ⟨_, q101, rfl⟩ := dep hD 9 rfl rfl rfl rfl
                      obtain ⟨_, qg, rfl⟩ := dep hD 2 rfl rfl rfl rfl
                      clear hF hD
                      refine want_yes rfl rfl rfl qg ?_
                      go_simp
                      exact hK _ _ hC (Below.refl _ _) rfl
                    refine RegSteps.cons ?_ ?_
                    · intro _ az wz hC hF hD _ K hK
                      obtain ⟨_, q102, rfl⟩ := dep hD 10 rfl rfl rfl rfl
                      obtain ⟨_, qg, rfl⟩ := dep hD 2 rfl rfl rfl rfl
                      obtain ⟨l0, l1, l2⟩ := rlj _ (Below.call hbj hC)
                      clear hF hD
                      refine want_yes rfl rfl rfl qg ?_
                      go_simp
                      exact hK _ _ hC (Below.refl _ _) rfl
                    refine RegSteps.cons ?_ ?_
                    · intro _ az wz hC hF hD _ K hK
                      obtain ⟨_, q103, rfl⟩ := dep hD 11 rfl rfl rfl rfl
                      obtain ⟨_, qg, rfl⟩ := dep hD 2 rfl rfl rfl rfl
                      clear hF hD
                      refine want_yes rfl rfl rfl qg ?_
                      go_simp
                      refine (HRj.out _).mono ?_
                      rintro e wy ⟨x, rfl, k, hx⟩
                      exact hK _ _ (Below.call hC k) k ⟨x, rfl, hx⟩
                    refine RegSteps.cons ?_ ?_
                    · intro _ az wz hC hF hD _ K hK
                      obtain ⟨_, q99, x99, rfl, hx99⟩ := dep hD 7 rfl rfl rfl rfl
                      obtain ⟨_, q104, x104, rfl, hx104⟩ := dep hD 12 rfl rfl rfl rfl
                      obtain ⟨_, qg, rfl⟩ := dep hD 2 rfl rfl rfl rfl
                      clear hF hD
                      refine want_yes rfl rfl rfl qg ?_
                      go_simp
                      refine (HCmj.out _ _ _ hx99 hx104).mono ?_
                      rintro e wy ⟨rfl, k⟩
                      exact hK _ _ (Below.call hC k) k rfl
                    refine RegSteps.cons ?_ ?_
                    · intro _ az wz hC hF hD _ K hK
                      obtain ⟨_, q105, rfl⟩ := dep hD 13 rfl rfl rfl rfl
                      obtain ⟨_, qg, rfl⟩ := dep hD 2 rfl rfl rfl rfl
                      clear hF hD
                      refine want_yes rfl rfl rfl qg ?_
                      go_simp
                      rw [decide_eq_false (by omega : ¬ (u ≤ 0))]
                      exact hK _ _ hC (Below.refl _ _) rfl
                    refine RegSteps.cons ?_ ?_
                    · intro _ az wz hC hF hD _ K hK
                      obtain ⟨_, q94, rfl⟩ := dep hD 2 rfl rfl rfl rfl
                      obtain ⟨_, q106, rfl⟩ := dep hD 14 rfl rfl rfl rfl
                      clear hF hD
                      refine want_none rfl ?_
                      go_simp
                      exact hK _ _ hC (Below.refl _ _) rfl
                    refine RegSteps.cons ?_ ?_
                    · intro _ az wz hC hF hD _ K hK
                      obtain ⟨_, q107, rfl⟩ := dep hD 15 rfl rfl rfl rfl
                      clear hF hD
                      refine want_none rfl ?_
                      go_simp
                      exact hK _ _ hC (Below.refl _ _) rfl
                    refine RegSteps.cons ?_ ?_
                    · exact fun _ => step_no (c := false) rfl rfl rfl rfl rfl (fun _ _ h => h) rfl (fun _ => rfl)
                    refine RegSteps.cons ?_ ?_
                    · exact fun _ => step_no (c := false) rfl rfl rfl rfl rfl (fun _ _ h => h) rfl (fun _ => rfl)
                    refine RegSteps.cons ?_ ?_
                    · exact fun _ => step_no (c := false) rfl rfl rfl rfl rfl (fun _ _ h => h) rfl (fun _ => rfl)
                    refine RegSteps.cons ?_ ?_
                    · exact fun _ => step_no (c := false) rfl rfl rfl rfl rfl (fun _ _ h => h) rfl (fun _ => rfl)
                    refine RegSteps.cons ?_ ?_
                    · exact fun _ => step_no (c := false) rfl rfl rfl rfl rfl (fun _ _ h => h) rfl (fun _ => rfl)
                    refine RegSteps.cons ?_ ?_
                    · exact fun _ => step_no (c := false) rfl rfl rfl rfl rfl (fun _ _ h => h) rfl (fun _ => rfl)
                    refine RegSteps.cons ?_ ?_
                    · exact fun _ => step_no (c := false) rfl rfl rfl rfl rfl (fun _ _ h => h) rfl (fun _ => rfl)
                    refine RegSteps.cons ?_ ?_
                    · exact fun _ => step_no (c := false) rfl rfl rfl rfl rfl (fun _ _ h => h) rfl (fun _ => rfl)
                    refine RegSteps.cons ?_ ?_
                    · exact fun _ => step_no (c := false) rfl rfl rfl rfl rfl (fun _ _ h => h) rfl (fun _ => rfl)
                    refine RegSteps.cons ?_ ?_
                    · exact fun _ => step_no (c := false) rfl rfl rfl rfl rfl (fun _ _ h => h) rfl (fun _ => rfl)
                    refine RegSteps.cons ?_ ?_
                    · exact fun _ => step_no (c := false) rfl rfl rfl rfl rfl (fun _ _ h => h) rfl (fun _ => rfl)
                    refine RegSteps.cons ?_ ?_
                    · exact fun _ => step_no (c := false) rfl rfl rfl rfl rfl (fun _ _ h => h) rfl (fun _ => rfl)
                    refine RegSteps.cons ?_ ?_
                    · intro _ az wz hC hF hD _ K hK
                      obtain ⟨_, q108, rfl⟩ := dep hD 16 rfl rfl rfl rfl
                      obtain ⟨_, q120, rfl⟩ := dep hD 28 rfl rfl rfl rfl
                      clear hF hD
                      refine want_none rfl ?_
                      go_simp
                      exact hK _ _ hC (Below.refl _ _) rfl
                    exact RegSteps.nil
                  intro w4 hC4
                  rintro _ rfl _ rfl _ rfl _ rfl _ rfl _ rfl _ rfl _ ⟨y99, rfl, _⟩ _ rfl _ rfl _ rfl _ rfl _ ⟨y104, rfl, _⟩ _ rfl _ rfl _ rfl _ rfl _ rfl _ rfl _ rfl _ rfl _ rfl _ rfl _ rfl _ rfl _ rfl _ rfl _ rfl _ rfl _ rfl
                  simp only [FinOK, Act.put, List.setIfInBounds_toArray, List.set_cons_zero, List.set_cons_succ]
                  have HB4 := Lib.hid (Below.call hbj hC4)
                  clear hC4 hbj HCmj HCkj
                  go_wp2_with fail
                  go_roundw
                  case rel => exact ⟨j + 1, by omega, by go_num, HB4.out⟩
                  case measure => simp [intOf]; omega
              · go_wp2_with fail
                refine wp_region_specs wr [Spec.eq (.int .i64 v), Spec.eq (.bool false), Spec.eq (.bool false), Spec.eq undef, Spec.eq undef, Spec.eq undef, Spec.eq undef, Spec.eq undef, Spec.eq undef, Spec.eq undef, Spec.eq undef, Spec.eq undef, Spec.eq undef, Spec.eq undef, Spec.eq undef, Spec.eq (.bool false), Spec.eq (.bool false), Spec.eq undef, Spec.eq undef, Spec.eq undef, Spec.eq undef, Spec.eq undef, Spec.eq undef, Spec.eq undef, Spec.eq undef, Spec.eq undef, Spec.eq undef, Spec.eq undef, Spec.eq undef, Spec.eq (.bool false)]
                    (by kernel_rfl) (by kernel_rfl) rfl (by kernel_rfl) (Below.drew (Below.refl _ _)) ?_ ?_
                ·
                  refine RegSteps.cons ?_ ?_
                  · intro _ az wz hC hF hD _ K hK
                    have q10 : az.tmps[10]? = some (.int .i64 v) := hF 10 rfl
                    clear hF hD
                    refine want_none rfl ?_
                    go_simp
                    exact hK _ _ hC (Below.refl _ _) rfl
                  refine RegSteps.cons ?_ ?_
                  · intro _ az wz hC hF hD _ K hK
                    obtain ⟨_, q92, rfl⟩ := dep hD 0 rfl rfl rfl rfl
                    clear hF hD
                    refine want_none rfl ?_
                    go_simp
                    rw [decide_eq_false (by omega : ¬ (v ≤ 0))]
                    exact hK _ _ hC (Below.refl _ _) rfl
                  refine RegSteps.cons ?_ ?_
                  · intro _ az wz hC hF hD _ K hK
                    obtain ⟨_, q93, rfl⟩ := dep hD 1 rfl rfl rfl rfl
                    clear hF hD
                    refine want_none rfl ?_
                    go_simp
                    exact hK _ _ hC (Below.refl _ _) rfl
                  refine RegSteps.cons ?_ ?_
                  · exact fun _ => step_no (c := false) rfl rfl rfl rfl rfl (fun _ _ h => h) rfl (fun _ => rfl)
                  refine RegSteps.cons ?_ ?_
                  · exact fun _ => step_no (c := false) rfl rfl rfl rfl rfl (fun _ _ h => h) rfl (fun _ => rfl)
                  refine RegSteps.cons ?_ ?_
                  · exact fun _ => step_no (c := false) rfl rfl rfl rfl rfl (fun _ _ h => h) rfl (fun _ => rfl)
                  refine RegSteps.cons ?_ ?_
                  · exact fun _ => step_no (c := false) rfl rfl rfl rfl rfl (fun _ _ h => h) rfl (fun _ => rfl)
                  refine RegSteps.cons ?_ ?_
                  · exact fun _ => step_no (c := false) rfl rfl rfl rfl rfl (fun _ _ h => h) rfl (fun _ => rfl)
                  refine RegSteps.cons ?_ ?_
                  · exact fun _ => step_no (c := false) rfl rfl rfl rfl rfl (fun _ _ h => h) rfl (fun _ => rfl)
                  refine RegSteps.cons ?_ ?_
                  · exact fun _ => step_no (c := false) rfl rfl rfl rfl rfl (fun _ _ h => h) rfl (fun _ => rfl)
                  refine RegSteps.cons ?_ ?_
                  · exact fun _ => step_no (c := false) rfl rfl rfl rfl rfl (fun _ _ h => h) rfl (fun _ => rfl)
                  refine RegSteps.cons ?_ ?_
                  · exact fun _ => step_no (c := false) rfl rfl rfl rfl rfl (fun _ _ h => h) rfl (fun _ => rfl)
                  refine RegSteps.cons ?_ ?_
                  · exact fun _ => step_no (c := false) rfl rfl rfl rfl rfl (fun _ _ h => h) rfl (fun _ => rfl)
                  refine RegSteps.cons ?_ ?_
                  · exact fun _ => step_no (c := false) rfl rfl rfl rfl rfl (fun _ _ h => h) rfl (fun _ => rfl)
                  refine RegSteps.cons ?_ ?_
                  · exact fun _ => step_no (c := false) rfl rfl rfl rfl rfl (fun _ _ h => h) rfl (fun _ => rfl)
                  refine RegSteps.cons ?_ ?_
                  · intro _ az wz hC hF hD _ K hK
                    obtain ⟨_, q94, rfl⟩ := dep hD 2 rfl rfl rfl rfl
                    obtain ⟨_, q106, rfl⟩ := dep hD 14 rfl rfl rfl rfl
                    clear hF hD
                    refine want_none rfl ?_
                    go_simp
                    exact hK _ _ hC (Below.refl _ _) rfl
                  refine RegSteps.cons ?_ ?_
                  · intro _ az wz hC hF hD _ K hK
                    obtain ⟨_, q107, rfl⟩ := dep hD 15 rfl rfl rfl rfl
                    clear hF hD
                    refine want_none rfl ?_
                    go_simp
                    exact hK _ _ hC (Below.refl _ _) rfl
                  refine RegSteps.cons ?_ ?_
                  · exact fun _ => step_no (c := false) rfl rfl rfl rfl rfl (fun _ _ h => h) rfl (fun _ => rfl)
                  refine RegSteps.cons ?_ ?_
                  · exact fun _ => step_no (c := false) rfl rfl rfl rfl rfl (fun _ _ h => h) rfl (fun _ => rfl)
                  refine RegSteps.cons ?_ ?_
                  · exact fun _ => step_no (c := false) rfl rfl rfl rfl rfl (fun _ _ h => h) rfl (fun _ => rfl)
                  refine RegSteps.cons ?_ ?_
                  · exact fun _ => step_no (c := false) rfl rfl rfl rfl rfl (fun _ _ h => h) rfl (fun _ => rfl)
                  refine RegSteps.cons ?_ ?_
                  · exact fun _ => step_no (c := false) rfl rfl rfl rfl rfl (fun _ _ h => h) rfl (fun _ => rfl)
                  refine RegSteps.cons ?_ ?_
                  · exact fun _ => step_no (c := false) rfl rfl rfl rfl rfl (fun _ _ h => h) rfl (fun _ => rfl)
                  refine RegSteps.cons ?_ ?_
                  · exact fun _ => step_no (c := false) rfl rfl rfl rfl rfl (fun _ _ h => h) rfl (fun _ => rfl)
                  refine RegSteps.cons ?_ ?_
                  · exact fun _ => step_no (c := false) rfl rfl rfl rfl rfl (fun _ _ h => h) rfl (fun _ => rfl)
                  refine RegSteps.cons ?_ ?_
                  · exact fun _ => step_no (c := false) rfl rfl rfl rfl rfl (fun _ _ h => h) rfl (fun _ => rfl)
                  refine RegSteps.cons ?_ ?_
                  · exact fun _ => step_no (c := false) rfl rfl rfl rfl rfl (fun _ _ h => h) rfl (fun _ => rfl)
                  refine RegSteps.cons ?_ ?_
                  · exact fun _ => step_no (c := false) rfl rfl rfl rfl rfl (fun _ _ h => h) rfl (fun _ => rfl)
                  refine RegSteps.cons ?_ ?_
                  · exact fun _ => step_no (c := false) rfl rfl rfl rfl rfl (fun _ _ h => h) rfl (fun _ => rfl)
                  refine RegSteps.cons ?_ ?_
                  · intro _ az wz hC hF hD _ K hK
                    obtain ⟨_, q108, rfl⟩ := dep hD 16 rfl rfl rfl rfl
                    obtain ⟨_, q120, rfl⟩ := dep hD 28 rfl rfl rfl rfl
                    clear hF hD
                    refine want_none rfl ?_
                    go_simp
                    exact hK _ _ hC (Below.refl _ _) rfl
                  exact RegSteps.nil
                intro w4 hC4
                rintro _ rfl _ rfl _ rfl _ rfl _ rfl _ rfl _ rfl _ rfl _ rfl _ rfl _ rfl _ rfl _ rfl _ rfl _ rfl _ rfl _ rfl _ rfl _ rfl _ rfl _ rfl _ rfl _ rfl _ rfl _ rfl _ rfl _ rfl _ rfl _ rfl _ rfl
                simp only [FinOK, Act.put, List.setIfInBounds_toArray, List.set_cons_zero, List.set_cons_succ]
                have HB4 := Lib.hid (Below.call hbj hC4)
                clear hC4 hbj HCmj HCkj
                go_wp2_with fail
                go_roundw
                case rel => exact ⟨j + 1, by omega, by go_num, HB4.out⟩
                case measure => simp [intOf]; omega
            · subst heq
              go_wp2_with fail
              go_roundw
              case rel => exact ⟨m + 1, by omega, by go_num, hbj⟩
              case measure => simp [intOf]; omega
        · subst heq
          go_wp2_with fail
          go_roundw
          case rel => exact ⟨k + 1, by omega, by go_num, hbm⟩
          case measure => simp [intOf]; omega
    · subst heq
      go_wp2_with fail
      refine (lives_any _ (hTab.on hbk)).mono ?_
      rintro e w9 ⟨rfl, k9⟩
      have hB9 := Below.call (Below.call hB0 hbk) k9
      go_wp2
      go_returns
      exact ⟨by simp, hB9⟩
end Go.Proofs.YtfbbnphpapmpcaaGreatDoor
