/-
  Chapter 38's reference: item; the readers of regions together.
-/
import Derived.Test.YtmlpibdincfgbaaGreatDoorM6
namespace Go.Proofs.YtmlpibdincfgbaaGreatDoor
open Go.RowKit
set_option linter.unusedSimpArgs false
set_option linter.unusedVariables false

theorem kws_vals : Qy.kws.map (fun t => Value.string (bs t)) = [.string ⟨#[119, 104, 111, 108, 101]⟩, .string ⟨#[110, 97, 109, 101, 100]⟩, .string ⟨#[97, 116]⟩, .string ⟨#[119, 105, 116, 104, 105, 110]⟩, .string ⟨#[97, 108, 108]⟩, .string ⟨#[97, 110, 121]⟩, .string ⟨#[110, 111, 116]⟩] := rfl
set_option maxRecDepth 100000 in
set_option maxHeartbeats 12800000 in
theorem rItem (B r f : Nat) (ihI : ∀ g, g < f → ItemF B r g) (ihL : ∀ g, g < f → KidsF B r g) (ihR : ∀ g, g < f → RegF B r g) : ItemF B r f := by
 intro s w h hf
 obtain ⟨f, rfl⟩ : ∃ f', f = f' + 1 := ⟨f - 1, by have := hf.1; omega⟩
 have hrw := h.lt
 have hBw := h.2.1
 have HGood := Lib.hid h.good
 have HIH := Lib.hid (And.intro (ihI f (Nat.lt_succ_self f)) (And.intro (ihL f (Nat.lt_succ_self f)) (ihR f (Nat.lt_succ_self f))))
 have HFO := Lib.hid hf
 obtain ⟨RES, hRES⟩ : ∃ RES, Qy.rItem (f + 1) s = RES := ⟨_, rfl⟩
 rw [hRES]
 rw [Qy.rItem] at hRES
 have HSee : Hid (∀ s u, RfAt B r s u → Calls Tryz.prog 78 #[.pointer (some ⟨r, 0, none⟩)] u fun e w' => e = .returned (.string (bs (Qy.see s))) ∧ Below u.heap.size u w') := Lib.hid fun s u k => rSee B r s u k
 have HFail : Hid (∀ er, er ≠ 0 → ∀ s u, RfAt B r s u → Calls Tryz.prog 76 #[.pointer (some ⟨r, 0, none⟩), .int .i64 er] u fun e w' => e = .returned (.tuple #[]) ∧ At1 r u w' ∧ RfAt B r (Qy.failS er s) w') := Lib.hid fun er he s u k => rFail B r s er he u k
 have HPoint : Hid (∀ x y s u, RfAt B r s u → Calls Tryz.prog 117 #[.pointer (some ⟨r, 0, none⟩), .int .i64 x, .int .i64 y] u (EndF B r u (Qy.pointS x y s) ptV)) := Lib.hid fun x y s u k => rPoint B r s x y u k
 have HNeed : Hid (∀ t, t ≠ [32] → ∀ s u, RfAt B r s u → Calls Tryz.prog 39 #[.pointer (some ⟨r, 0, none⟩), .string (bs t)] u fun e w' => e = .returned (.tuple #[]) ∧ At1 r u w' ∧ RfAt B r (Qy.needS t s) w') := Lib.hid fun t ht s u k => rNeed B r s t ht u k
 obtain ⟨tx, htx⟩ : ∃ tx, Qy.see s = tx := ⟨_, rfl⟩
 rw [htx] at hRES
 have hS0 : Calls Tryz.prog 78 #[.pointer (some ⟨r, 0, none⟩)] w fun e w' => e = .returned (.string (bs tx)) ∧ Below w.heap.size w w' := htx ▸ rSee B r s w h
 have HS0 : Hid (∀ u, RfAt B r s u → Calls Tryz.prog 78 #[.pointer (some ⟨r, 0, none⟩)] u fun e w' => e = .returned (.string (bs tx)) ∧ Below u.heap.size u w') := Lib.hid fun u k => htx ▸ rSee B r s u k
 have HTx := Lib.hid htx
 clear hS0 ihI ihL ihR hf htx
 by_cases hpar : tx = [40]
 ·
  rw [if_pos hpar] at hRES
  have hpc : ((bs tx).toList == [40]) = true := word_ne _ _ _ (by rw [hpar]; decide)
  have hadv := Qy.adv_lt HGood.out (by rw [HTx.out, hpar]; simp) (by rw [HTx.out, hpar]; decide)
  have hne_ : Qy.hd s.1 ≠ [] := by rw [← (Qy.see_none (s := s) (by rw [HTx.out, hpar]; decide)).2, HTx.out, hpar]; simp
  obtain ⟨s1, hs1⟩ : ∃ s1, Qy.adv s = s1 := ⟨_, rfl⟩
  obtain ⟨p2, hp2⟩ : ∃ p, Qy.rReg f s1 = p := ⟨_, rfl⟩
  rw [hs1] at hRES hadv
  simp only [hp2] at hRES
  have HReg : Hid (∀ u, RfAt B r s1 u → Calls Tryz.prog 41 #[.pointer (some ⟨r, 0, none⟩)] u (EndF B r u p2 (regV u))) := Lib.hid fun u k => hp2 ▸ HIH.out.2.2 s1 u k ⟨by have := HFO.out.2 hadv.1; have := hadv.2.2; omega, fun _ => by have := HFO.out.2 hadv.1; have := hadv.2.2; omega⟩
  obtain ⟨R5, s2⟩ := p2
  simp only at hRES
  have HRES := Lib.hid hRES
  have HS1 := Lib.hid hs1
  clear hRES hp2 hadv hs1 hpar
  go_enter Tryz.func79, Tryz.ntmps79
  go_upto_region 1 with fail
  refine wp_new1 fun W0 hA hB => ?_
  have gA : w.heap.size ≠ r := by omega
  have hrd0 := h.on hB
  have hat := At1.of_below (r := r) hB
  clear hB h
  go_wp2_with fail
  refine (HS0.out _ hrd0).mono ?_
  rintro e2 w1 ⟨rfl, k_⟩
  replace hA := hA.on k_
  replace hat := hat.trans (At1.of_below k_)
  have hrd1 := hrd0.on k_
  clear k_ hrd0 HS0
  obtain ⟨n_, i_, g_, off_, c_, a_, b_, hl_, hi_, hgr_, hgl_, hO_, c8_, c9_, hb_, hA_, _⟩ := hrd1.cells
  have q1 := hO_.cell 1
  have q1f := hO_.frozen 1
  have i0 : (0 : Int) ≤ (i_ : Int) := by omega
  have i1 : (i_ : Int) ≤ 5000 := by omega
  have hk_ := At1.set_ (r := r) w1 (p := ⟨r, 1, none⟩) rfl (.int .i64 ((i_ : Int) + 1))
  have hrd21 := hA_ hne_
  replace hA := hA.at1 hk_ gA
  replace hat := hat.trans hk_
  clear hO_ c8_ c9_ hb_ hA_ hk_ hgl_ hgr_ hi_ hl_ hne_ hrd1
  have hsz5 := hA.lt
  rw [HS1.out] at hrd21
  go_wp2_with fail
  refine (HReg.out _ hrd21).mono ?_
  rintro e2 w22 ⟨k_, ⟨v, rfl, hv_⟩, hrd23⟩
  replace hA := hA.at1 k_ gA
  replace hat := hat.trans k_
  clear k_ hrd21
  obtain ⟨n0, s1_, n2, n3, n4, n5, n6, n7, A8, l8, c9, rfl, hR1, hR3⟩ := hv_.lit
  have gR : r < (w1.setCell ⟨r, 1, none⟩ (.int .i64 ((i_ : Int) + 1))).heap.size := Nat.lt_of_lt_of_le hrw (Nat.le_of_lt hsz5)
  have gW : w.heap.size < (w1.setCell ⟨r, 1, none⟩ (.int .i64 ((i_ : Int) + 1))).heap.size := hsz5
  have hR2 := RegAt.keep (Nat.le_refl _) (S' := New w1) (fun g hg _ => ⟨(by unfold New at hg ⊢; simpa using hg), rfl⟩) _ _ hR1
  have gR2 : r < w1.heap.size := by simpa using gR
  have gW2 : w.heap.size < w1.heap.size := by simpa using gW
  clear hR3 hR1 gR gW hsz5
  go_upto_region 6 with fail
  refine wp_new1 fun W5 hQ kn => ?_
  obtain ⟨g5, hg5⟩ : ∃ g5, w22.heap.size = g5 := ⟨_, rfl⟩
  have gQ : g5 ≠ r := by have := hA.lt; omega
  have hrd9 := hrd23.on kn
  replace hat := hat.trans (At1.of_below kn)
  replace hR2 := hR2.at1 (At1.of_below kn) gR2
  replace hA := hA.on kn
  rw [hg5] at hQ ⊢
  clear kn hrd23 hg5
  have HN := Lib.hid fun u k => HNeed.out [41] (by decide) s2 u k
  go_wp2_with fail
  refine (HN.out _ hrd9).mono ?_
  rintro e2 w24 ⟨rfl, k_, hrd25⟩
  replace hA := hA.at1 k_ gA
  replace hQ := hQ.at1 k_ gQ
  replace hR2 := hR2.at1 k_ gR2
  replace hat := hat.trans k_
  clear k_ hrd9
  obtain ⟨⟨y0, y1, y2, y3, y4, y5, y6, y7, y8⟩, _⟩ := hQ.all9
  have HR2 : Hid (∀ W9, At1 w.heap.size w24 W9 → RegAt W9 (New w) [.int .i64 n0, .string s1_, .int .i64 n2, .int .i64 n3, .int .i64 n4, .int .i64 n5, .int .i64 n6, .int .i64 n7, .slice A8 l8 c9] R5) := Lib.hid fun W9 k => by
   exact RegAt.keep k.size (fun g hg hl => ⟨Nat.le_trans (Nat.le_of_lt gW2) hg, k.heap hl (fun e => by have hg9 : w1.heap.size ≤ g := hg; omega)⟩) _ _ hR2
  clear hR2 hQ
  obtain ⟨⟨z0, z1, z2, z3, z4, z5, z6, z7, z8⟩, f0, f1, f2, f3, f4, f5, f6, f7, f8⟩ := hA.all9
  have HF := Lib.hid (And.intro hA (And.intro hat hrd25))
  clear hA hat hrd25  
  go_wp2_with fail
  obtain ⟨hO9, hk9⟩ := HF.out.1.put9 (x0 := .int .i64 n0) (x1 := .string s1_) (x2 := .int .i64 n2) (x3 := .int .i64 n3) (x4 := .int .i64 n4) (x5 := .int .i64 n5) (x6 := .int .i64 n6) (x7 := .int .i64 n7) (x8 := .slice A8 l8 c9)
  clear z0 z1 z2 z3 z4 z5 z6 z7 z8 f0 f1 f2 f3 f4 f5 f6 f7 f8
  revert hO9 hk9
  generalize (((((((((World.setCell _ _ _).setCell _ _).setCell _ _).setCell _ _).setCell _ _).setCell _ _).setCell _ _).setCell _ _).setCell _ _) = W9
  intro hO9 hk9
  obtain ⟨⟨q0, q1, q2, q3, q4, q5, q6, q7, q8⟩, _⟩ := hO9.all9
  refine bodyPost_ret (v := .agg #[.int .i64 n0, .string s1_, .int .i64 n2, .int .i64 n3, .int .i64 n4, .int .i64 n5, .int .i64 n6, .int .i64 n7, .slice A8 l8 c9]) (by simp [results, Tryz.results79, go_sem, q0, q1, q2, q3, q4, q5, q6, q7, q8]) rfl ?_
  have hres9 := HRES.out
  subst hres9
  exact ⟨HF.out.2.1.at_ hk9 (Nat.le_refl _), ⟨_, rfl, _, rfl, (HR2.out _ hk9)⟩, HF.out.2.2.at_ hk9 hBw⟩
 rw [if_neg hpar] at hRES
 have hpc : ((bs tx).toList == [40]) = false := word_ne _ _ _ (decide_eq_false hpar)
 obtain ⟨kd, hkd⟩ : ∃ kd, Qy.kindOf tx = kd := ⟨_, rfl⟩
 have hkc := Qy.kind_cases tx
 have hk7 := Qy.kind_bd tx
 have HKA : Hid (∀ (i : Nat) (x : Qy.Bs), Qy.kws[i]? = some x → ((bs x).toList == (bs tx).toList) = decide (kd = (i : Int))) := Lib.hid fun i x hx => by
  rw [bs_toList, bs_toList, ← hkd]
  have := Qy.kind_at tx i x hx
  by_cases e : x = tx
  ·rw [decide_eq_true (this.1 e)]; simp [e]
  ·rw [decide_eq_false (fun k => e (this.2 k))]; simp [e]
 rw [hkd] at hkc hk7
 have HKC := Lib.hid hkc
 have HRES := Lib.hid hRES
 clear hkc hkd hRES hpar
 go_enter Tryz.func79, Tryz.ntmps79
 go_upto_region 1 with fail
 refine wp_new1 fun W0 hA hB => ?_
 have gA : w.heap.size ≠ r := by omega
 have hrd0 := h.on hB
 have hat := At1.of_below (r := r) hB
 clear hB h
 go_wp2_with fail
 refine (HS0.out _ hrd0).mono ?_
 rintro e2 w1 ⟨rfl, k_⟩
 replace hA := hA.on k_
 replace hat := hat.trans (At1.of_below k_)
 have hrd1 := hrd0.on k_
 clear k_ hrd0 HS0
 go_upto_region 9 with fail
 refine wp_new1 fun W2 hK kn => ?_
 obtain ⟨gk, hgk⟩ : ∃ g, w1.heap.size = g := ⟨_, rfl⟩
 have hrd2 := hrd1.on kn
 replace hat := hat.trans (At1.of_below kn)
 replace hA := hA.on kn
 rw [hgk] at hK ⊢
 have HAL := Lib.hid (And.intro hA (And.intro hat hrd2))
 have HK : Hid (∀ (i : Nat) (x : Qy.Bs), Qy.kws[i]? = some x → W2.cell? ⟨gk, i, none⟩ = some (.string (bs x))) := Lib.hid fun i x hx => by
  have h1 := hK.cell i
  rw [← kws_vals, List.getElem?_map, hx] at h1
  exact h1
 clear kn hgk hrd1 hA hat hrd2 hK
 go_wp2_with fail
 go_loopw [7, 8] (fun s7 s8 wr => ∃ (i : Nat) (V : Int), i ≤ 7 ∧ s8 = .int .i64 (i : Int) ∧ s7 = .int .i64 V ∧ Hid (V = if kd < (i : Int) then kd else -1) ∧ wr = W2) (fun _ s8 _ => 7 - (intOf s8).toNat)
 case atStart => exact ⟨0, -1, by omega, rfl, rfl, Lib.hid (by have : -1 ≤ kd := by { rcases HKC.out with h | h | h | h | h | h | h | h <;> omega }; split <;> omega), rfl⟩
 case round =>
  obtain ⟨i, V, hi, rfl, rfl, hV, hw⟩ := hrel
  subst hw
  rcases Nat.lt_or_eq_of_le hi with hlt | heq
  ·have i0 : (0 : Int) ≤ (i : Int) := by omega
   have i1 : (i : Int) < 7 := by omega
   obtain ⟨x, hx⟩ : ∃ x, Qy.kws[i]? = some x := ⟨_, List.getElem?_eq_getElem (show i < Qy.kws.length from hlt)⟩
   have hcell := HK.out i x hx
   have hcmp := HKA.out i x hx
   obtain ⟨b, hb⟩ : ∃ b, decide (kd = (i : Int)) = b := ⟨_, rfl⟩
   rw [hb] at hcmp
   clear hx
   cases b
   ·have hb2 := Lib.hid (of_decide_eq_false hb)
    clear hb
    go_wp2_with fail
    go_roundw
    case rel => exact ⟨i + 1, V, by omega, by go_num, rfl, Lib.hid (by have h1 := hV.out; have h2 := hb2.out; rw [h1]; split <;> split <;> omega), by first | rfl | trivial⟩
    case measure => simp [intOf]; omega
   ·have hb2 := Lib.hid (of_decide_eq_true hb)
    clear hb
    go_wp2_with fail
    go_roundw
    case rel => exact ⟨i + 1, (i : Int), by omega, by go_num, rfl, Lib.hid (by have h1 := hV.out; have h2 := hb2.out; rw [if_pos (by omega)]; omega), by first | rfl | trivial⟩
    case measure => simp [intOf]; omega
  ·subst heq
   have hV7 : V = kd := by rw [hV.out, if_pos (by omega)]
   subst hV7
   obtain ⟨hA, hat, hrd2⟩ := HAL.out
   clear hV HAL HK HKA hk7 hi
   rcases HKC.out with hk | hk | hk | hk | hk | hk | hk | hk
   ·
    clear HKC
    obtain ⟨rfl, htx⟩ := hk
    replace HRES := Lib.hid (by have := HRES.out; rwa [htx, if_pos rfl] at this)
    have hadv := Qy.adv_lt HGood.out (by rw [HTx.out, htx]; simp) (by rw [HTx.out, htx]; decide)
    have hne_ : Qy.hd s.1 ≠ [] := by rw [← (Qy.see_none (s := s) (by rw [HTx.out, htx]; decide)).2, HTx.out, htx]; simp
    obtain ⟨s1, hs1⟩ : ∃ s1, Qy.adv s = s1 := ⟨_, rfl⟩
    rw [hs1] at hadv
    replace HRES := Lib.hid (by have := HRES.out; rwa [hs1] at this)
    have HS1 := Lib.hid hs1
    clear hadv hs1 htx
    obtain ⟨n_, i_, g_, off_, c_, a_, b_, hl_, hi_, hgr_, hgl_, hO_, c8_, c9_, hb_, hA_, _⟩ := hrd2.cells
    have q1 := hO_.cell 1
    have q1f := hO_.frozen 1
    have i0 : (0 : Int) ≤ (i_ : Int) := by omega
    have i1 : (i_ : Int) ≤ 5000 := by omega
    have hk_ := At1.set_ (r := r) wr (p := ⟨r, 1, none⟩) rfl (.int .i64 ((i_ : Int) + 1))
    have hrd21 := hA_ hne_
    replace hA := hA.at1 hk_ gA
    replace hat := hat.trans hk_
    clear hO_ c8_ c9_ hb_ hA_ hk_ hgl_ hgr_ hi_ hl_ hne_ hrd2
    rw [HS1.out] at hrd21
    have hwz : w.heap.size < wr.heap.size := by have := hA.lt; simpa using this
    go_upto_region 20 with fail
    refine wp_new1 fun W5 hO kn => ?_
    clear q1 q1f
    obtain ⟨g9, hg9⟩ : ∃ g9, wr.heap.size = g9 := ⟨_, rfl⟩
    have hrd9 := hrd21.on (by simpa using kn)
    replace hat := hat.trans (At1.of_below (by simpa using kn))
    replace hA := hA.on (by simpa using kn)
    have hO : Own W5 g9 32 [.int .i64 0, .string ⟨#[]⟩, .int .i64 0, .int .i64 0, .int .i64 0, .int .i64 0, .int .i64 0, .int .i64 0, .slice none 0 0] := by rw [← hg9]; simpa using hO
    rw [hg9] at hwz
    try rw [show (wr.setCell ⟨r, 1, none⟩ (.int .i64 ((i_ : Int) + 1))).heap.size = g9 by simpa using hg9]
    try rw [hg9]
    have hgr9 : g9 ≠ r := by omega
    have hgA9 : w.heap.size ≠ g9 := by omega
    have hB9 : B ≤ g9 := by omega
    have hw9 : w.heap.size ≤ g9 := by omega
    have hz9 := hO.lt
    clear kn hrd21 hg9 i0 i1
    obtain ⟨⟨z0, z1, z2, z3, z4, z5, z6, z7, z8⟩, f0, f1, f2, f3, f4, f5, f6, f7, f8⟩ := hA.all9
    obtain ⟨⟨c0, c1, c2, c3, c4, c5, c6, c7, c8⟩, _⟩ := hO.all9
    have HF := Lib.hid (And.intro hA (And.intro hat hrd9))
    clear hA hat hrd9 hO 
    go_wp2_with fail
    clear c0 c1 c2 c3 c4 c5 c6 c7 c8
    obtain ⟨hO9, hk9⟩ := HF.out.1.put9 (x0 := .int .i64 0) (x1 := .string ⟨#[]⟩) (x2 := .int .i64 0) (x3 := .int .i64 0) (x4 := .int .i64 0) (x5 := .int .i64 0) (x6 := .int .i64 0) (x7 := .int .i64 0) (x8 := .slice none 0 0)
    clear z0 z1 z2 z3 z4 z5 z6 z7 z8 f0 f1 f2 f3 f4 f5 f6 f7 f8
    revert hO9 hk9
    generalize (((((((((World.setCell _ _ _).setCell _ _).setCell _ _).setCell _ _).setCell _ _).setCell _ _).setCell _ _).setCell _ _).setCell _ _) = W9
    intro hO9 hk9
    obtain ⟨⟨q0, q1, q2, q3, q4, q5, q6, q7, q8⟩, _⟩ := hO9.all9
    refine bodyPost_ret (v := .agg #[.int .i64 0, .string ⟨#[]⟩, .int .i64 0, .int .i64 0, .int .i64 0, .int .i64 0, .int .i64 0, .int .i64 0, .slice none 0 0]) (by simp [results, Tryz.results79, go_sem, q0, q1, q2, q3, q4, q5, q6, q7, q8]) rfl ?_
    have hres9 := HRES.out
    subst hres9
    exact ⟨HF.out.2.1.at_ hk9 (Nat.le_refl _), ⟨_, rfl, _, rfl, RegAt.leaf 0 [] 0 0 0 0 0 0⟩, HF.out.2.2.at_ hk9 hBw⟩
   ·
    clear HKC
    obtain ⟨rfl, htx⟩ := hk
    replace HRES := Lib.hid (by have := HRES.out; rwa [htx, if_neg (by decide), if_pos rfl] at this)
    have hadv := Qy.adv_lt HGood.out (by rw [HTx.out, htx]; simp) (by rw [HTx.out, htx]; decide)
    have hne_ : Qy.hd s.1 ≠ [] := by rw [← (Qy.see_none (s := s) (by rw [HTx.out, htx]; decide)).2, HTx.out, htx]; simp
    obtain ⟨s1, hs1⟩ : ∃ s1, Qy.adv s = s1 := ⟨_, rfl⟩
    rw [hs1] at hadv
    replace HRES := Lib.hid (by have := HRES.out; rwa [hs1] at this)
    have HS1 := Lib.hid hs1
    clear hadv hs1 htx
    obtain ⟨n_, i_, g_, off_, c_, a_, b_, hl_, hi_, hgr_, hgl_, hO_, c8_, c9_, hb_, hA_, _⟩ := hrd2.cells
    have q1 := hO_.cell 1
    have q1f := hO_.frozen 1
    have i0 : (0 : Int) ≤ (i_ : Int) := by omega
    have i1 : (i_ : Int) ≤ 5000 := by omega
    have hk_ := At1.set_ (r := r) wr (p := ⟨r, 1, none⟩) rfl (.int .i64 ((i_ : Int) + 1))
    have hrd21 := hA_ hne_
    replace hA := hA.at1 hk_ gA
    replace hat := hat.trans hk_
    clear hO_ c8_ c9_ hb_ hA_ hk_ hgl_ hgr_ hi_ hl_ hne_ hrd2
    rw [HS1.out] at hrd21
    have hwz : w.heap.size < wr.heap.size := by have := hA.lt; simpa using this
    go_upto_region 20 with fail
    refine wp_new1 fun W5 hO kn => ?_
    clear q1 q1f
    obtain ⟨g9, hg9⟩ : ∃ g9, wr.heap.size = g9 := ⟨_, rfl⟩
    have hrd9 := hrd21.on (by simpa using kn)
    replace hat := hat.trans (At1.of_below (by simpa using kn))
    replace hA := hA.on (by simpa using kn)
    have hO : Own W5 g9 32 [.int .i64 1, .string ⟨#[]⟩, .int .i64 0, .int .i64 0, .int .i64 0, .int .i64 0, .int .i64 0, .int .i64 0, .slice none 0 0] := by rw [← hg9]; simpa using hO
    rw [hg9] at hwz
    try rw [show (wr.setCell ⟨r, 1, none⟩ (.int .i64 ((i_ : Int) + 1))).heap.size = g9 by simpa using hg9]
    try rw [hg9]
    have hgr9 : g9 ≠ r := by omega
    have hgA9 : w.heap.size ≠ g9 := by omega
    have hB9 : B ≤ g9 := by omega
    have hw9 : w.heap.size ≤ g9 := by omega
    have hz9 := hO.lt
    clear kn hrd21 hg9 i0 i1
    obtain ⟨tn, htn⟩ : ∃ tn, Qy.see s1 = tn := ⟨_, rfl⟩
    have HS2 := Lib.hid fun u k => HSee.out s1 u k
    rw [htn] at HS2
    have HNm := Lib.hid fun u => named_any tn u
    have HTn := Lib.hid htn
    unfold Qy.nameS at HRES
    rw [htn] at HRES
    obtain ⟨isl, hisl⟩ : ∃ b, Qy.isL (tn.headD 0) = b := ⟨_, rfl⟩
    obtain ⟨nok, hnok⟩ : ∃ b, Qy.nameOK tn = b := ⟨_, rfl⟩
    rw [hnok] at HNm
    replace HRES := Lib.hid (by have := HRES.out; rwa [hisl, hnok] at this)
    have HFl := Lib.hid fun er he u k => HFail.out er he s1 u k
    clear htn
    cases tn with
    | nil =>
     have hemp : ((bs []).toList == []) = true := by rw [bs_toList]; rfl
     obtain rfl : isl = false := by rw [← hisl]; rfl
     obtain ⟨sd, hsd⟩ : ∃ sd, bs [] = sd := ⟨_, rfl⟩
     rw [hsd] at hemp HS2 HNm
     clear hsd hisl hnok
     go_wp2_with fail
     refine (HS2.out _ hrd9).mono ?_
     rintro e2 w22 ⟨rfl, k_⟩
     replace hA := hA.on k_
     replace hO := hO.on k_
     replace hat := hat.trans (At1.of_below k_)
     have hrd23 := hrd9.on k_
     clear k_ hrd9
     go_wp2_with fail
     refine (HNm.out _).mono ?_
     rintro e2 wn_ ⟨rfl, e_⟩
     subst e_
     go_wp2_with fail
     refine (HFl.out 2 (by decide) _ hrd23).mono ?_
     rintro e2 w24 ⟨rfl, k_, hrd25⟩
     replace hA := hA.at1 k_ gA
     replace hO := hO.at1 k_ hgr9
     replace hat := hat.trans k_
     clear k_ hrd23
     replace HRES := Lib.hid (by have := HRES.out; simpa only [Bool.false_eq_true, Bool.true_eq_false, if_true, if_false] using this)
     obtain ⟨⟨z0, z1, z2, z3, z4, z5, z6, z7, z8⟩, f0, f1, f2, f3, f4, f5, f6, f7, f8⟩ := hA.all9
     obtain ⟨⟨c0, c1, c2, c3, c4, c5, c6, c7, c8⟩, _⟩ := hO.all9
     have HF := Lib.hid (And.intro hA (And.intro hat hrd25))
     clear hA hat hrd25 hO 
     go_wp2_with fail
     clear c0 c1 c2 c3 c4 c5 c6 c7 c8
     obtain ⟨hO9, hk9⟩ := HF.out.1.put9 (x0 := .int .i64 1) (x1 := .string ⟨#[]⟩) (x2 := .int .i64 0) (x3 := .int .i64 0) (x4 := .int .i64 0) (x5 := .int .i64 0) (x6 := .int .i64 0) (x7 := .int .i64 0) (x8 := .slice none 0 0)
     clear z0 z1 z2 z3 z4 z5 z6 z7 z8 f0 f1 f2 f3 f4 f5 f6 f7 f8
     revert hO9 hk9
     generalize (((((((((World.setCell _ _ _).setCell _ _).setCell _ _).setCell _ _).setCell _ _).setCell _ _).setCell _ _).setCell _ _).setCell _ _) = W9
     intro hO9 hk9
     obtain ⟨⟨q0, q1, q2, q3, q4, q5, q6, q7, q8⟩, _⟩ := hO9.all9
     refine bodyPost_ret (v := .agg #[.int .i64 1, .string ⟨#[]⟩, .int .i64 0, .int .i64 0, .int .i64 0, .int .i64 0, .int .i64 0, .int .i64 0, .slice none 0 0]) (by simp [results, Tryz.results79, go_sem, q0, q1, q2, q3, q4, q5, q6, q7, q8]) rfl ?_
     have hres9 := HRES.out
     subst hres9
     exact ⟨HF.out.2.1.at_ hk9 (Nat.le_refl _), ⟨_, rfl, _, rfl, RegAt.leaf 1 [] 0 0 0 0 0 0⟩, HF.out.2.2.at_ hk9 hBw⟩
    | cons ch tr =>
     have hemp : ((bs (ch :: tr)).toList == []) = false := by rw [bs_toList]; rfl
     have hx2 : ∀ hi : 0 < (bs (ch :: tr)).size, (bs (ch :: tr))[0]'hi = ch := fun _ => rfl
     have hsz : (bs (ch :: tr)).size = tr.length + 1 := bs_size _
     have hx1 : (0 : Int) < (tr.length : Int) + 1 := by omega
     have HCl := Lib.hid fun u => class_any ch u
     have hisl2 : Qy.isL ch = isl := hisl
     obtain ⟨nn, hnn⟩ : ∃ nn, tr.length = nn := ⟨_, rfl⟩
     rw [hnn] at hsz hx1
     obtain ⟨tn, htn2⟩ : ∃ tn, ch :: tr = tn := ⟨_, rfl⟩
     rw [htn2] at hemp hx2 hsz HNm HS2 HTn hisl
     replace HRES := Lib.hid (by have := HRES.out; rwa [htn2] at this)
     obtain ⟨sd, hsd⟩ : ∃ sd, bs tn = sd := ⟨_, rfl⟩
     rw [hsd] at hemp hx2 hsz HNm HS2
     have HSd := Lib.hid hsd
     have HIsl := Lib.hid hisl
     obtain ⟨kc, hkc⟩ : ∃ k, Qy.cls ch.toNat = k := ⟨_, rfl⟩
     rw [hkc] at HCl
     clear hisl hnok hnn hsd
     have hpos : 0 < sd.size := by omega
     cases isl
     ·
      have hk1 := Qy.cls_notL hisl2
      rw [hkc] at hk1
      have hk2 : ¬ ((kc : Int) = 1) := by omega
      clear hk1 hkc hisl2 htn2
      go_wp2_with fail
      refine (HS2.out _ hrd9).mono ?_
      rintro e2 w22 ⟨rfl, k_⟩
      replace hA := hA.on k_
      replace hO := hO.on k_
      replace hat := hat.trans (At1.of_below k_)
      have hrd23 := hrd9.on k_
      clear k_ hrd9
      go_wp2_with fail
      refine (HNm.out _).mono ?_
      rintro e2 wn_ ⟨rfl, e_⟩
      subst e_
      go_wp2_with fail
      refine (HCl.out _).mono ?_
      rintro e2 wc_ ⟨rfl, e_⟩
      subst e_
      go_wp2_with fail
      refine (HFl.out 2 (by decide) _ hrd23).mono ?_
      rintro e2 w24 ⟨rfl, k_, hrd25⟩
      replace hA := hA.at1 k_ gA
      replace hO := hO.at1 k_ hgr9
      replace hat := hat.trans k_
      clear k_ hrd23
      replace HRES := Lib.hid (by have := HRES.out; simpa only [Bool.false_eq_true, Bool.true_eq_false, if_true, if_false] using this)
      obtain ⟨⟨z0, z1, z2, z3, z4, z5, z6, z7, z8⟩, f0, f1, f2, f3, f4, f5, f6, f7, f8⟩ := hA.all9
      obtain ⟨⟨c0, c1, c2, c3, c4, c5, c6, c7, c8⟩, _⟩ := hO.all9
      have HF := Lib.hid (And.intro hA (And.intro hat hrd25))
      clear hA hat hrd25 hO 
      go_wp2_with fail
      clear c0 c1 c2 c3 c4 c5 c6 c7 c8
      obtain ⟨hO9, hk9⟩ := HF.out.1.put9 (x0 := .int .i64 1) (x1 := .string ⟨#[]⟩) (x2 := .int .i64 0) (x3 := .int .i64 0) (x4 := .int .i64 0) (x5 := .int .i64 0) (x6 := .int .i64 0) (x7 := .int .i64 0) (x8 := .slice none 0 0)
      clear z0 z1 z2 z3 z4 z5 z6 z7 z8 f0 f1 f2 f3 f4 f5 f6 f7 f8
      revert hO9 hk9
      generalize (((((((((World.setCell _ _ _).setCell _ _).setCell _ _).setCell _ _).setCell _ _).setCell _ _).setCell _ _).setCell _ _).setCell _ _) = W9
      intro hO9 hk9
      obtain ⟨⟨q0, q1, q2, q3, q4, q5, q6, q7, q8⟩, _⟩ := hO9.all9
      refine bodyPost_ret (v := .agg #[.int .i64 1, .string ⟨#[]⟩, .int .i64 0, .int .i64 0, .int .i64 0, .int .i64 0, .int .i64 0, .int .i64 0, .slice none 0 0]) (by simp [results, Tryz.results79, go_sem, q0, q1, q2, q3, q4, q5, q6, q7, q8]) rfl ?_
      have hres9 := HRES.out
      subst hres9
      exact ⟨HF.out.2.1.at_ hk9 (Nat.le_refl _), ⟨_, rfl, _, rfl, RegAt.leaf 1 [] 0 0 0 0 0 0⟩, HF.out.2.2.at_ hk9 hBw⟩
     have hk1 := Qy.cls_isL hisl2
     rw [hkc] at hk1
     subst hk1
     clear hkc hisl2 htn2
     cases nok
     ·
      go_wp2_with fail
      refine (HS2.out _ hrd9).mono ?_
      rintro e2 w22 ⟨rfl, k_⟩
      replace hA := hA.on k_
      replace hO := hO.on k_
      replace hat := hat.trans (At1.of_below k_)
      have hrd23 := hrd9.on k_
      clear k_ hrd9
      go_wp2_with fail
      refine (HNm.out _).mono ?_
      rintro e2 wn_ ⟨rfl, e_⟩
      subst e_
      go_wp2_with fail
      refine (HCl.out _).mono ?_
      rintro e2 wc_ ⟨rfl, e_⟩
      subst e_
      go_wp2_with fail
      refine (HFl.out 6 (by decide) _ hrd23).mono ?_
      rintro e2 w24 ⟨rfl, k_, hrd25⟩
      replace hA := hA.at1 k_ gA
      replace hO := hO.at1 k_ hgr9
      replace hat := hat.trans k_
      clear k_ hrd23
      replace HRES := Lib.hid (by have := HRES.out; simpa only [Bool.false_eq_true, Bool.true_eq_false, if_true, if_false] using this)
      obtain ⟨⟨z0, z1, z2, z3, z4, z5, z6, z7, z8⟩, f0, f1, f2, f3, f4, f5, f6, f7, f8⟩ := hA.all9
      obtain ⟨⟨c0, c1, c2, c3, c4, c5, c6, c7, c8⟩, _⟩ := hO.all9
      have HF := Lib.hid (And.intro hA (And.intro hat hrd25))
      clear hA hat hrd25 hO 
      go_wp2_with fail
      clear c0 c1 c2 c3 c4 c5 c6 c7 c8
      obtain ⟨hO9, hk9⟩ := HF.out.1.put9 (x0 := .int .i64 1) (x1 := .string ⟨#[]⟩) (x2 := .int .i64 0) (x3 := .int .i64 0) (x4 := .int .i64 0) (x5 := .int .i64 0) (x6 := .int .i64 0) (x7 := .int .i64 0) (x8 := .slice none 0 0)
      clear z0 z1 z2 z3 z4 z5 z6 z7 z8 f0 f1 f2 f3 f4 f5 f6 f7 f8
      revert hO9 hk9
      generalize (((((((((World.setCell _ _ _).setCell _ _).setCell _ _).setCell _ _).setCell _ _).setCell _ _).setCell _ _).setCell _ _).setCell _ _) = W9
      intro hO9 hk9
      obtain ⟨⟨q0, q1, q2, q3, q4, q5, q6, q7, q8⟩, _⟩ := hO9.all9
      refine bodyPost_ret (v := .agg #[.int .i64 1, .string ⟨#[]⟩, .int .i64 0, .int .i64 0, .int .i64 0, .int .i64 0, .int .i64 0, .int .i64 0, .slice none 0 0]) (by simp [results, Tryz.results79, go_sem, q0, q1, q2, q3, q4, q5, q6, q7, q8]) rfl ?_
      have hres9 := HRES.out
      subst hres9
      exact ⟨HF.out.2.1.at_ hk9 (Nat.le_refl _), ⟨_, rfl, _, rfl, RegAt.leaf 1 [] 0 0 0 0 0 0⟩, HF.out.2.2.at_ hk9 hBw⟩
     go_wp2_with fail
     refine (HS2.out _ hrd9).mono ?_
     rintro e2 w22 ⟨rfl, k_⟩
     replace hA := hA.on k_
     replace hO := hO.on k_
     replace hat := hat.trans (At1.of_below k_)
     have hrd23 := hrd9.on k_
     clear k_ hrd9
     go_wp2_with fail
     refine (HNm.out _).mono ?_
     rintro e2 wn_ ⟨rfl, e_⟩
     subst e_
     go_wp2_with fail
     refine (HCl.out _).mono ?_
     rintro e2 wc_ ⟨rfl, e_⟩
     subst e_
     have o1f := hO.frozen 1
     have o1 := hO.cell 1
     have hne_ : Qy.hd s1.1 ≠ [] := by
      have h32 : Qy.see s1 ≠ [32] := fun e => by have h1 := HIsl.out; rw [← HTn.out, e] at h1; revert h1; decide
      rw [← (Qy.see_none h32).2]
      intro e
      have h1 := HIsl.out
      rw [← HTn.out, e] at h1
      revert h1; decide
     have hk8 := At1.set_ (r := g9) wc_ (p := ⟨g9, 1, none⟩) rfl (.string sd)
     replace hO := hO.set_ 1 (.string sd)
     replace hA := hA.at1 hk8 hgA9
     replace hat := hat.at_ hk8 hw9
     have hrd24 := hrd23.at_ hk8 hB9
     clear hk8 hrd23
     go_upto_region 29 with fail
     revert hO hA hat hrd24
     generalize (World.setCell _ _ _) = W8
     intro hO hA hat hrd24
     clear o1 o1f
     obtain ⟨n_, j_, g_, off_, c_, a_, b_, hl_, hi_, hgr_, hgl_, hO_, c8_, c9_, hb_, hA_, _⟩ := hrd24.cells
     have q1 := hO_.cell 1
     have q1f := hO_.frozen 1
     have i0 : (0 : Int) ≤ (j_ : Int) := by omega
     have i1 : (j_ : Int) ≤ 5000 := by omega
     have hk_ := At1.set_ (r := r) W8 (p := ⟨r, 1, none⟩) rfl (.int .i64 ((j_ : Int) + 1))
     have hrd25 := hA_ hne_
     replace hA := hA.at1 hk_ gA
     replace hO := hO.at1 hk_ hgr9
     replace hat := hat.trans hk_
     clear hO_ c8_ c9_ hb_ hA_ hk_ hgl_ hgr_ hi_ hl_ hne_ hemp hx2 hsz hx1 hpos hrd24
     go_upto_region 41 with fail
     revert hrd25; revert hat; revert hA; revert hO
     generalize (World.setCell _ _ _) = W10
     intro hO hA hat hrd25
     clear q1 q1f i0 i1
     replace HRES := Lib.hid (by have := HRES.out; simpa only [Bool.false_eq_true, Bool.true_eq_false, if_true, if_false] using this)
     obtain rfl := HSd.out
     obtain ⟨⟨z0, z1, z2, z3, z4, z5, z6, z7, z8⟩, f0, f1, f2, f3, f4, f5, f6, f7, f8⟩ := hA.all9
     obtain ⟨⟨c0, c1, c2, c3, c4, c5, c6, c7, c8⟩, _⟩ := hO.all9
     have HF := Lib.hid (And.intro hA (And.intro hat hrd25))
     clear hA hat hrd25 hO 
     go_wp2_with fail
     clear c0 c1 c2 c3 c4 c5 c6 c7 c8
     obtain ⟨hO9, hk9⟩ := HF.out.1.put9 (x0 := .int .i64 1) (x1 := .string (bs tn)) (x2 := .int .i64 0) (x3 := .int .i64 0) (x4 := .int .i64 0) (x5 := .int .i64 0) (x6 := .int .i64 0) (x7 := .int .i64 0) (x8 := .slice none 0 0)
     clear z0 z1 z2 z3 z4 z5 z6 z7 z8 f0 f1 f2 f3 f4 f5 f6 f7 f8
     revert hO9 hk9
     generalize (((((((((World.setCell _ _ _).setCell _ _).setCell _ _).setCell _ _).setCell _ _).setCell _ _).setCell _ _).setCell _ _).setCell _ _) = W9
     intro hO9 hk9
     obtain ⟨⟨q0, q1, q2, q3, q4, q5, q6, q7, q8⟩, _⟩ := hO9.all9
     refine bodyPost_ret (v := .agg #[.int .i64 1, .string (bs tn), .int .i64 0, .int .i64 0, .int .i64 0, .int .i64 0, .int .i64 0, .int .i64 0, .slice none 0 0]) (by simp [results, Tryz.results79, go_sem, q0, q1, q2, q3, q4, q5, q6, q7, q8]) rfl ?_
     have hres9 := HRES.out
     subst hres9
     exact ⟨HF.out.2.1.at_ hk9 (Nat.le_refl _), ⟨_, rfl, _, rfl, RegAt.leaf 1 tn 0 0 0 0 0 0⟩, HF.out.2.2.at_ hk9 hBw⟩
   ·
    clear HKC
    obtain ⟨rfl, htx⟩ := hk
    replace HRES := Lib.hid (by have := HRES.out; rwa [htx, if_neg (by decide), if_neg (by decide), if_pos rfl] at this)
    have hadv := Qy.adv_lt HGood.out (by rw [HTx.out, htx]; simp) (by rw [HTx.out, htx]; decide)
    have hne_ : Qy.hd s.1 ≠ [] := by rw [← (Qy.see_none (s := s) (by rw [HTx.out, htx]; decide)).2, HTx.out, htx]; simp
    obtain ⟨s1, hs1⟩ : ∃ s1, Qy.adv s = s1 := ⟨_, rfl⟩
    rw [hs1] at hadv
    replace HRES := Lib.hid (by have := HRES.out; rwa [hs1] at this)
    have HS1 := Lib.hid hs1
    clear hadv hs1 htx
    obtain ⟨n_, i_, g_, off_, c_, a_, b_, hl_, hi_, hgr_, hgl_, hO_, c8_, c9_, hb_, hA_, _⟩ := hrd2.cells
    have q1 := hO_.cell 1
    have q1f := hO_.frozen 1
    have i0 : (0 : Int) ≤ (i_ : Int) := by omega
    have i1 : (i_ : Int) ≤ 5000 := by omega
    have hk_ := At1.set_ (r := r) wr (p := ⟨r, 1, none⟩) rfl (.int .i64 ((i_ : Int) + 1))
    have hrd21 := hA_ hne_
    replace hA := hA.at1 hk_ gA
    replace hat := hat.trans hk_
    clear hO_ c8_ c9_ hb_ hA_ hk_ hgl_ hgr_ hi_ hl_ hne_ hrd2
    rw [HS1.out] at hrd21
    have hwz : w.heap.size < wr.heap.size := by have := hA.lt; simpa using this
    go_upto_region 20 with fail
    refine wp_new1 fun W5 hO kn => ?_
    clear q1 q1f
    obtain ⟨g9, hg9⟩ : ∃ g9, wr.heap.size = g9 := ⟨_, rfl⟩
    have hrd9 := hrd21.on (by simpa using kn)
    replace hat := hat.trans (At1.of_below (by simpa using kn))
    replace hA := hA.on (by simpa using kn)
    have hO : Own W5 g9 32 [.int .i64 2, .string ⟨#[]⟩, .int .i64 0, .int .i64 0, .int .i64 0, .int .i64 0, .int .i64 0, .int .i64 0, .slice none 0 0] := by rw [← hg9]; simpa using hO
    rw [hg9] at hwz
    try rw [show (wr.setCell ⟨r, 1, none⟩ (.int .i64 ((i_ : Int) + 1))).heap.size = g9 by simpa using hg9]
    try rw [hg9]
    have hgr9 : g9 ≠ r := by omega
    have hgA9 : w.heap.size ≠ g9 := by omega
    have hB9 : B ≤ g9 := by omega
    have hw9 : w.heap.size ≤ g9 := by omega
    have hz9 := hO.lt
    clear kn hrd21 hg9 i0 i1
    obtain ⟨p2, hp2⟩ : ∃ p, Qy.pointS (-1073741824) (-1073741824) s1 = p := ⟨_, rfl⟩
    replace HRES := Lib.hid (by have := HRES.out; simp only [hp2] at this; exact this)
    have HC := Lib.hid fun u k => HPoint.out (-1073741824) (-1073741824) s1 u k
    rw [hp2] at HC
    clear hp2
    obtain ⟨⟨px, py⟩, s2⟩ := p2
    go_wp2_with fail
    refine (HC.out _ hrd9).mono ?_
    rintro e2 w22 ⟨k_, ⟨v, rfl, rfl⟩, hrd23⟩
    replace hA := hA.at1 k_ gA
    replace hO := hO.at1 k_ hgr9
    replace hat := hat.trans k_
    clear k_ hrd9
    have o2f := hO.frozen 2
    have o3f := hO.frozen 3
    have o2 := hO.cell 2
    have o3 := hO.cell 3
    have hk8 := (At1.set_ (r := g9) w22 (p := ⟨g9, 2, none⟩) rfl (.int .i64 px)).trans (At1.set_ (r := g9) _ (p := ⟨g9, 3, none⟩) rfl (.int .i64 py))
    replace hO := (hO.set_ 2 (.int .i64 px)).set_ 3 (.int .i64 py)
    replace hA := hA.at1 hk8 hgA9
    replace hat := hat.at_ hk8 hw9
    have hrd24 := hrd23.at_ hk8 hB9
    clear hk8 hrd23
    go_upto_region 41 with fail
    revert hO hA hat hrd24
    generalize ((World.setCell _ _ _).setCell _ _) = W25
    intro hO hA hat hrd24
    clear o2 o3 o2f o3f
    obtain ⟨⟨z0, z1, z2, z3, z4, z5, z6, z7, z8⟩, f0, f1, f2, f3, f4, f5, f6, f7, f8⟩ := hA.all9
    obtain ⟨⟨c0, c1, c2, c3, c4, c5, c6, c7, c8⟩, _⟩ := hO.all9
    have HF := Lib.hid (And.intro hA (And.intro hat hrd24))
    clear hA hat hrd24 hO 
    go_wp2_with fail
    clear c0 c1 c2 c3 c4 c5 c6 c7 c8
    obtain ⟨hO9, hk9⟩ := HF.out.1.put9 (x0 := .int .i64 2) (x1 := .string ⟨#[]⟩) (x2 := .int .i64 px) (x3 := .int .i64 py) (x4 := .int .i64 0) (x5 := .int .i64 0) (x6 := .int .i64 0) (x7 := .int .i64 0) (x8 := .slice none 0 0)
    clear z0 z1 z2 z3 z4 z5 z6 z7 z8 f0 f1 f2 f3 f4 f5 f6 f7 f8
    revert hO9 hk9
    generalize (((((((((World.setCell _ _ _).setCell _ _).setCell _ _).setCell _ _).setCell _ _).setCell _ _).setCell _ _).setCell _ _).setCell _ _) = W9
    intro hO9 hk9
    obtain ⟨⟨q0, q1, q2, q3, q4, q5, q6, q7, q8⟩, _⟩ := hO9.all9
    refine bodyPost_ret (v := .agg #[.int .i64 2, .string ⟨#[]⟩, .int .i64 px, .int .i64 py, .int .i64 0, .int .i64 0, .int .i64 0, .int .i64 0, .slice none 0 0]) (by simp [results, Tryz.results79, go_sem, q0, q1, q2, q3, q4, q5, q6, q7, q8]) rfl ?_
    have hres9 := HRES.out
    subst hres9
    exact ⟨HF.out.2.1.at_ hk9 (Nat.le_refl _), ⟨_, rfl, _, rfl, RegAt.leaf 2 [] px py 0 0 0 0⟩, HF.out.2.2.at_ hk9 hBw⟩
   ·
    clear HKC
    obtain ⟨rfl, htx⟩ := hk
    replace HRES := Lib.hid (by have := HRES.out; rwa [htx, if_neg (by decide), if_neg (by decide), if_neg (by decide), if_pos rfl] at this)
    have hadv := Qy.adv_lt HGood.out (by rw [HTx.out, htx]; simp) (by rw [HTx.out, htx]; decide)
    have hne_ : Qy.hd s.1 ≠ [] := by rw [← (Qy.see_none (s := s) (by rw [HTx.out, htx]; decide)).2, HTx.out, htx]; simp
    obtain ⟨s1, hs1⟩ : ∃ s1, Qy.adv s = s1 := ⟨_, rfl⟩
    rw [hs1] at hadv
    replace HRES := Lib.hid (by have := HRES.out; rwa [hs1] at this)
    have HS1 := Lib.hid hs1
    clear hadv hs1 htx
    obtain ⟨n_, i_, g_, off_, c_, a_, b_, hl_, hi_, hgr_, hgl_, hO_, c8_, c9_, hb_, hA_, _⟩ := hrd2.cells
    have q1 := hO_.cell 1
    have q1f := hO_.frozen 1
    have i0 : (0 : Int) ≤ (i_ : Int) := by omega
    have i1 : (i_ : Int) ≤ 5000 := by omega
    have hk_ := At1.set_ (r := r) wr (p := ⟨r, 1, none⟩) rfl (.int .i64 ((i_ : Int) + 1))
    have hrd21 := hA_ hne_
    replace hA := hA.at1 hk_ gA
    replace hat := hat.trans hk_
    clear hO_ c8_ c9_ hb_ hA_ hk_ hgl_ hgr_ hi_ hl_ hne_ hrd2
    rw [HS1.out] at hrd21
    have hwz : w.heap.size < wr.heap.size := by have := hA.lt; simpa using this
    go_upto_region 20 with fail
    refine wp_new1 fun W5 hO kn => ?_
    clear q1 q1f
    obtain ⟨g9, hg9⟩ : ∃ g9, wr.heap.size = g9 := ⟨_, rfl⟩
    have hrd9 := hrd21.on (by simpa using kn)
    replace hat := hat.trans (At1.of_below (by simpa using kn))
    replace hA := hA.on (by simpa using kn)
    have hO : Own W5 g9 32 [.int .i64 3, .string ⟨#[]⟩, .int .i64 0, .int .i64 0, .int .i64 0, .int .i64 0, .int .i64 0, .int .i64 0, .slice none 0 0] := by rw [← hg9]; simpa using hO
    rw [hg9] at hwz
    try rw [show (wr.setCell ⟨r, 1, none⟩ (.int .i64 ((i_ : Int) + 1))).heap.size = g9 by simpa using hg9]
    try rw [hg9]
    have hgr9 : g9 ≠ r := by omega
    have hgA9 : w.heap.size ≠ g9 := by omega
    have hB9 : B ≤ g9 := by omega
    have hw9 : w.heap.size ≤ g9 := by omega
    have hz9 := hO.lt
    clear kn hrd21 hg9 i0 i1
    obtain ⟨p2, hp2⟩ : ∃ p, Qy.pointS (-1073741824) (-1073741824) s1 = p := ⟨_, rfl⟩
    replace HRES := Lib.hid (by have := HRES.out; simp only [hp2] at this; exact this)
    have HC := Lib.hid fun u k => HPoint.out (-1073741824) (-1073741824) s1 u k
    rw [hp2] at HC
    clear hp2
    obtain ⟨⟨px, py⟩, s2⟩ := p2
    go_wp2_with fail
    refine (HC.out _ hrd9).mono ?_
    rintro e2 w22 ⟨k_, ⟨v, rfl, rfl⟩, hrd23⟩
    replace hA := hA.at1 k_ gA
    replace hO := hO.at1 k_ hgr9
    replace hat := hat.trans k_
    clear k_ hrd9
    have o2f := hO.frozen 4
    have o3f := hO.frozen 5
    have o2 := hO.cell 4
    have o3 := hO.cell 5
    have hk8 := (At1.set_ (r := g9) w22 (p := ⟨g9, 4, none⟩) rfl (.int .i64 px)).trans (At1.set_ (r := g9) _ (p := ⟨g9, 5, none⟩) rfl (.int .i64 py))
    replace hO := (hO.set_ 4 (.int .i64 px)).set_ 5 (.int .i64 py)
    replace hA := hA.at1 hk8 hgA9
    replace hat := hat.at_ hk8 hw9
    have hrd24 := hrd23.at_ hk8 hB9
    clear hk8 hrd23
    go_upto_region 34 with fail
    revert hO hA hat hrd24
    generalize ((World.setCell _ _ _).setCell _ _) = W25
    intro hO hA hat hrd24
    clear o2 o3 o2f o3f
    obtain ⟨s3, hs3⟩ : ∃ s3, Qy.needS [116, 111] s2 = s3 := ⟨_, rfl⟩
    have HN := Lib.hid fun u k => HNeed.out [116, 111] (by decide) s2 u k
    rw [hs3] at HN
    replace HRES := Lib.hid (by have := HRES.out; simp only [hs3] at this; exact this)
    clear hs3
    go_wp2_with fail
    refine (HN.out _ hrd24).mono ?_
    rintro e2 w26 ⟨rfl, k_, hrd27⟩
    replace hA := hA.at1 k_ gA
    replace hO := hO.at1 k_ hgr9
    replace hat := hat.trans k_
    clear k_ hrd24
    obtain ⟨p4, hp4⟩ : ∃ p, Qy.pointS px py s3 = p := ⟨_, rfl⟩
    replace HRES := Lib.hid (by have := HRES.out; simp only [hp4] at this; exact this)
    have HC4 := Lib.hid fun u k => HPoint.out px py s3 u k
    rw [hp4] at HC4
    clear hp4
    obtain ⟨⟨qx, qy⟩, s4⟩ := p4
    have e4 := hO.cell 4
    have e5 := hO.cell 5
    go_wp2_with fail
    refine (HC4.out _ hrd27).mono ?_
    rintro e2 w28 ⟨k_, ⟨v, rfl, rfl⟩, hrd29⟩
    replace hA := hA.at1 k_ gA
    replace hO := hO.at1 k_ hgr9
    replace hat := hat.trans k_
    clear k_ hrd27
    clear e4 e5
    have o2f := hO.frozen 6
    have o3f := hO.frozen 7
    have o2 := hO.cell 6
    have o3 := hO.cell 7
    have hk8 := (At1.set_ (r := g9) w28 (p := ⟨g9, 6, none⟩) rfl (.int .i64 qx)).trans (At1.set_ (r := g9) _ (p := ⟨g9, 7, none⟩) rfl (.int .i64 qy))
    replace hO := (hO.set_ 6 (.int .i64 qx)).set_ 7 (.int .i64 qy)
    replace hA := hA.at1 hk8 hgA9
    replace hat := hat.at_ hk8 hw9
    have hrd30 := hrd29.at_ hk8 hB9
    clear hk8 hrd29
    go_upto_region 41 with fail
    revert hO hA hat hrd30
    generalize ((World.setCell _ _ _).setCell _ _) = W31
    intro hO hA hat hrd30
    clear o2 o3 o2f o3f
    obtain ⟨⟨z0, z1, z2, z3, z4, z5, z6, z7, z8⟩, f0, f1, f2, f3, f4, f5, f6, f7, f8⟩ := hA.all9
    obtain ⟨⟨c0, c1, c2, c3, c4, c5, c6, c7, c8⟩, _⟩ := hO.all9
    have HF := Lib.hid (And.intro hA (And.intro hat hrd30))
    clear hA hat hrd30 hO 
    go_wp2_with fail
    clear c0 c1 c2 c3 c4 c5 c6 c7 c8
    obtain ⟨hO9, hk9⟩ := HF.out.1.put9 (x0 := .int .i64 3) (x1 := .string ⟨#[]⟩) (x2 := .int .i64 0) (x3 := .int .i64 0) (x4 := .int .i64 px) (x5 := .int .i64 py) (x6 := .int .i64 qx) (x7 := .int .i64 qy) (x8 := .slice none 0 0)
    clear z0 z1 z2 z3 z4 z5 z6 z7 z8 f0 f1 f2 f3 f4 f5 f6 f7 f8
    revert hO9 hk9
    generalize (((((((((World.setCell _ _ _).setCell _ _).setCell _ _).setCell _ _).setCell _ _).setCell _ _).setCell _ _).setCell _ _).setCell _ _) = W9
    intro hO9 hk9
    obtain ⟨⟨q0, q1, q2, q3, q4, q5, q6, q7, q8⟩, _⟩ := hO9.all9
    refine bodyPost_ret (v := .agg #[.int .i64 3, .string ⟨#[]⟩, .int .i64 0, .int .i64 0, .int .i64 px, .int .i64 py, .int .i64 qx, .int .i64 qy, .slice none 0 0]) (by simp [results, Tryz.results79, go_sem, q0, q1, q2, q3, q4, q5, q6, q7, q8]) rfl ?_
    have hres9 := HRES.out
    subst hres9
    exact ⟨HF.out.2.1.at_ hk9 (Nat.le_refl _), ⟨_, rfl, _, rfl, RegAt.leaf 3 [] 0 0 px py qx qy⟩, HF.out.2.2.at_ hk9 hBw⟩
   ·
    clear HKC
    obtain ⟨rfl, htx⟩ := hk
    replace HRES := Lib.hid (by have := HRES.out; rwa [htx, if_neg (by decide), if_neg (by decide), if_neg (by decide), if_neg (by decide), if_pos rfl] at this)
    have hadv := Qy.adv_lt HGood.out (by rw [HTx.out, htx]; simp) (by rw [HTx.out, htx]; decide)
    have hne_ : Qy.hd s.1 ≠ [] := by rw [← (Qy.see_none (s := s) (by rw [HTx.out, htx]; decide)).2, HTx.out, htx]; simp
    obtain ⟨s1, hs1⟩ : ∃ s1, Qy.adv s = s1 := ⟨_, rfl⟩
    rw [hs1] at hadv
    replace HRES := Lib.hid (by have := HRES.out; rwa [hs1] at this)
    obtain ⟨p2, hp2⟩ : ∃ p, Qy.rKids f s1 = p := ⟨_, rfl⟩
    replace HRES := Lib.hid (by have := HRES.out; simp only [hp2] at this; exact this)
    have HC : Hid (∀ u, RfAt B r s1 u → Calls Tryz.prog 118 #[.pointer (some ⟨r, 0, none⟩)] u (EndF B r u p2 (listV u))) := Lib.hid fun u k => hp2 ▸ HIH.out.2.1 s1 u k ⟨by have := HFO.out.2 hadv.1; have := hadv.2.2; omega, fun _ => by have := HFO.out.2 hadv.1; have := hadv.2.2; omega⟩ hadv.2.1
    obtain ⟨R5, s2⟩ := p2
    replace HRES := Lib.hid (by have := HRES.out; simp only at this; exact this)
    clear hp2
    have HS1 := Lib.hid hs1
    clear hadv hs1 htx
    obtain ⟨n_, i_, g_, off_, c_, a_, b_, hl_, hi_, hgr_, hgl_, hO_, c8_, c9_, hb_, hA_, _⟩ := hrd2.cells
    have q1 := hO_.cell 1
    have q1f := hO_.frozen 1
    have i0 : (0 : Int) ≤ (i_ : Int) := by omega
    have i1 : (i_ : Int) ≤ 5000 := by omega
    have hk_ := At1.set_ (r := r) wr (p := ⟨r, 1, none⟩) rfl (.int .i64 ((i_ : Int) + 1))
    have hrd21 := hA_ hne_
    replace hA := hA.at1 hk_ gA
    replace hat := hat.trans hk_
    clear hO_ c8_ c9_ hb_ hA_ hk_ hgl_ hgr_ hi_ hl_ hne_ hrd2
    rw [HS1.out] at hrd21
    have hwz : w.heap.size < wr.heap.size := by have := hA.lt; simpa using this
    go_upto_region 20 with fail
    refine wp_new1 fun W5 hO kn => ?_
    clear q1 q1f
    obtain ⟨g9, hg9⟩ : ∃ g9, wr.heap.size = g9 := ⟨_, rfl⟩
    have hrd9 := hrd21.on (by simpa using kn)
    replace hat := hat.trans (At1.of_below (by simpa using kn))
    replace hA := hA.on (by simpa using kn)
    have hO : Own W5 g9 32 [.int .i64 4, .string ⟨#[]⟩, .int .i64 0, .int .i64 0, .int .i64 0, .int .i64 0, .int .i64 0, .int .i64 0, .slice none 0 0] := by rw [← hg9]; simpa using hO
    rw [hg9] at hwz
    try rw [show (wr.setCell ⟨r, 1, none⟩ (.int .i64 ((i_ : Int) + 1))).heap.size = g9 by simpa using hg9]
    try rw [hg9]
    have hgr9 : g9 ≠ r := by omega
    have hgA9 : w.heap.size ≠ g9 := by omega
    have hB9 : B ≤ g9 := by omega
    have hw9 : w.heap.size ≤ g9 := by omega
    have hz9 := hO.lt
    clear kn hrd21 hg9 i0 i1
    go_wp2_with fail
    refine (HC.out _ hrd9).mono ?_
    rintro e2 w22 ⟨k_, ⟨v, rfl, hv_⟩, hrd23⟩
    replace hA := hA.at1 k_ gA
    replace hO := hO.at1 k_ hgr9
    replace hat := hat.trans k_
    clear k_ hrd9
    obtain ⟨A5, c5, rfl, hkids⟩ := hv_
    have o8f := hO.frozen 8
    have o8 := hO.cell 8
    have hk8 := At1.set_ (r := g9) w22 (p := ⟨g9, 8, none⟩) rfl (.slice A5 R5.length c5)
    replace hO := hO.set_ 8 (.slice A5 R5.length c5)
    replace hkids := KidsAt.keep hk8.size (S' := fun g => g9 < g) (fun g hg hl => ⟨(by unfold New at hg; omega), hk8.heap hl (fun e => by unfold New at hg; omega)⟩) A5 0 R5 hkids
    replace hA := hA.at1 hk8 hgA9
    replace hat := hat.at_ hk8 hw9
    have hrd24 := hrd23.at_ hk8 hB9
    clear hk8 hrd23
    go_upto_region 41 with fail
    revert hkids; revert hrd24; revert hat; revert hA; revert hO
    generalize (World.setCell _ _ _) = W8
    intro hO hA hat hrd24 hkids
    have HK : Hid (∀ W9, At1 w.heap.size W8 W9 → KidsAt W9 (New w) A5 0 R5) := Lib.hid fun W9 k => KidsAt.keep k.size (fun g hg hl => ⟨(by have h9 : g9 < g := hg; unfold New; omega), k.heap hl (fun e => by have h9 : g9 < g := hg; omega)⟩) A5 0 R5 hkids
    clear o8 o8f hkids
    obtain ⟨⟨z0, z1, z2, z3, z4, z5, z6, z7, z8⟩, f0, f1, f2, f3, f4, f5, f6, f7, f8⟩ := hA.all9
    obtain ⟨⟨c0, c1, c2, c3, c4, c5, c6, c7, c8⟩, _⟩ := hO.all9
    have HF := Lib.hid (And.intro hA (And.intro hat hrd24))
    clear hA hat hrd24 hO 
    go_wp2_with fail
    clear c0 c1 c2 c3 c4 c5 c6 c7 c8
    obtain ⟨hO9, hk9⟩ := HF.out.1.put9 (x0 := .int .i64 4) (x1 := .string ⟨#[]⟩) (x2 := .int .i64 0) (x3 := .int .i64 0) (x4 := .int .i64 0) (x5 := .int .i64 0) (x6 := .int .i64 0) (x7 := .int .i64 0) (x8 := .slice A5 R5.length c5)
    clear z0 z1 z2 z3 z4 z5 z6 z7 z8 f0 f1 f2 f3 f4 f5 f6 f7 f8
    revert hO9 hk9
    generalize (((((((((World.setCell _ _ _).setCell _ _).setCell _ _).setCell _ _).setCell _ _).setCell _ _).setCell _ _).setCell _ _).setCell _ _) = W9
    intro hO9 hk9
    obtain ⟨⟨q0, q1, q2, q3, q4, q5, q6, q7, q8⟩, _⟩ := hO9.all9
    refine bodyPost_ret (v := .agg #[.int .i64 4, .string ⟨#[]⟩, .int .i64 0, .int .i64 0, .int .i64 0, .int .i64 0, .int .i64 0, .int .i64 0, .slice A5 R5.length c5]) (by simp [results, Tryz.results79, go_sem, q0, q1, q2, q3, q4, q5, q6, q7, q8]) rfl ?_
    have hres9 := HRES.out
    subst hres9
    exact ⟨HF.out.2.1.at_ hk9 (Nat.le_refl _), ⟨_, rfl, _, rfl, RegAt.kids 4 (HK.out _ hk9)⟩, HF.out.2.2.at_ hk9 hBw⟩
   ·
    clear HKC
    obtain ⟨rfl, htx⟩ := hk
    replace HRES := Lib.hid (by have := HRES.out; rwa [htx, if_neg (by decide), if_neg (by decide), if_neg (by decide), if_neg (by decide), if_neg (by decide), if_pos rfl] at this)
    have hadv := Qy.adv_lt HGood.out (by rw [HTx.out, htx]; simp) (by rw [HTx.out, htx]; decide)
    have hne_ : Qy.hd s.1 ≠ [] := by rw [← (Qy.see_none (s := s) (by rw [HTx.out, htx]; decide)).2, HTx.out, htx]; simp
    obtain ⟨s1, hs1⟩ : ∃ s1, Qy.adv s = s1 := ⟨_, rfl⟩
    rw [hs1] at hadv
    replace HRES := Lib.hid (by have := HRES.out; rwa [hs1] at this)
    obtain ⟨p2, hp2⟩ : ∃ p, Qy.rKids f s1 = p := ⟨_, rfl⟩
    replace HRES := Lib.hid (by have := HRES.out; simp only [hp2] at this; exact this)
    have HC : Hid (∀ u, RfAt B r s1 u → Calls Tryz.prog 118 #[.pointer (some ⟨r, 0, none⟩)] u (EndF B r u p2 (listV u))) := Lib.hid fun u k => hp2 ▸ HIH.out.2.1 s1 u k ⟨by have := HFO.out.2 hadv.1; have := hadv.2.2; omega, fun _ => by have := HFO.out.2 hadv.1; have := hadv.2.2; omega⟩ hadv.2.1
    obtain ⟨R5, s2⟩ := p2
    replace HRES := Lib.hid (by have := HRES.out; simp only at this; exact this)
    clear hp2
    have HS1 := Lib.hid hs1
    clear hadv hs1 htx
    obtain ⟨n_, i_, g_, off_, c_, a_, b_, hl_, hi_, hgr_, hgl_, hO_, c8_, c9_, hb_, hA_, _⟩ := hrd2.cells
    have q1 := hO_.cell 1
    have q1f := hO_.frozen 1
    have i0 : (0 : Int) ≤ (i_ : Int) := by omega
    have i1 : (i_ : Int) ≤ 5000 := by omega
    have hk_ := At1.set_ (r := r) wr (p := ⟨r, 1, none⟩) rfl (.int .i64 ((i_ : Int) + 1))
    have hrd21 := hA_ hne_
    replace hA := hA.at1 hk_ gA
    replace hat := hat.trans hk_
    clear hO_ c8_ c9_ hb_ hA_ hk_ hgl_ hgr_ hi_ hl_ hne_ hrd2
    rw [HS1.out] at hrd21
    have hwz : w.heap.size < wr.heap.size := by have := hA.lt; simpa using this
    go_upto_region 20 with fail
    refine wp_new1 fun W5 hO kn => ?_
    clear q1 q1f
    obtain ⟨g9, hg9⟩ : ∃ g9, wr.heap.size = g9 := ⟨_, rfl⟩
    have hrd9 := hrd21.on (by simpa using kn)
    replace hat := hat.trans (At1.of_below (by simpa using kn))
    replace hA := hA.on (by simpa using kn)
    have hO : Own W5 g9 32 [.int .i64 5, .string ⟨#[]⟩, .int .i64 0, .int .i64 0, .int .i64 0, .int .i64 0, .int .i64 0, .int .i64 0, .slice none 0 0] := by rw [← hg9]; simpa using hO
    rw [hg9] at hwz
    try rw [show (wr.setCell ⟨r, 1, none⟩ (.int .i64 ((i_ : Int) + 1))).heap.size = g9 by simpa using hg9]
    try rw [hg9]
    have hgr9 : g9 ≠ r := by omega
    have hgA9 : w.heap.size ≠ g9 := by omega
    have hB9 : B ≤ g9 := by omega
    have hw9 : w.heap.size ≤ g9 := by omega
    have hz9 := hO.lt
    clear kn hrd21 hg9 i0 i1
    go_wp2_with fail
    refine (HC.out _ hrd9).mono ?_
    rintro e2 w22 ⟨k_, ⟨v, rfl, hv_⟩, hrd23⟩
    replace hA := hA.at1 k_ gA
    replace hO := hO.at1 k_ hgr9
    replace hat := hat.trans k_
    clear k_ hrd9
    obtain ⟨A5, c5, rfl, hkids⟩ := hv_
    have o8f := hO.frozen 8
    have o8 := hO.cell 8
    have hk8 := At1.set_ (r := g9) w22 (p := ⟨g9, 8, none⟩) rfl (.slice A5 R5.length c5)
    replace hO := hO.set_ 8 (.slice A5 R5.length c5)
    replace hkids := KidsAt.keep hk8.size (S' := fun g => g9 < g) (fun g hg hl => ⟨(by unfold New at hg; omega), hk8.heap hl (fun e => by unfold New at hg; omega)⟩) A5 0 R5 hkids
    replace hA := hA.at1 hk8 hgA9
    replace hat := hat.at_ hk8 hw9
    have hrd24 := hrd23.at_ hk8 hB9
    clear hk8 hrd23
    go_upto_region 41 with fail
    revert hkids; revert hrd24; revert hat; revert hA; revert hO
    generalize (World.setCell _ _ _) = W8
    intro hO hA hat hrd24 hkids
    have HK : Hid (∀ W9, At1 w.heap.size W8 W9 → KidsAt W9 (New w) A5 0 R5) := Lib.hid fun W9 k => KidsAt.keep k.size (fun g hg hl => ⟨(by have h9 : g9 < g := hg; unfold New; omega), k.heap hl (fun e => by have h9 : g9 < g := hg; omega)⟩) A5 0 R5 hkids
    clear o8 o8f hkids
    obtain ⟨⟨z0, z1, z2, z3, z4, z5, z6, z7, z8⟩, f0, f1, f2, f3, f4, f5, f6, f7, f8⟩ := hA.all9
    obtain ⟨⟨c0, c1, c2, c3, c4, c5, c6, c7, c8⟩, _⟩ := hO.all9
    have HF := Lib.hid (And.intro hA (And.intro hat hrd24))
    clear hA hat hrd24 hO 
    go_wp2_with fail
    clear c0 c1 c2 c3 c4 c5 c6 c7 c8
    obtain ⟨hO9, hk9⟩ := HF.out.1.put9 (x0 := .int .i64 5) (x1 := .string ⟨#[]⟩) (x2 := .int .i64 0) (x3 := .int .i64 0) (x4 := .int .i64 0) (x5 := .int .i64 0) (x6 := .int .i64 0) (x7 := .int .i64 0) (x8 := .slice A5 R5.length c5)
    clear z0 z1 z2 z3 z4 z5 z6 z7 z8 f0 f1 f2 f3 f4 f5 f6 f7 f8
    revert hO9 hk9
    generalize (((((((((World.setCell _ _ _).setCell _ _).setCell _ _).setCell _ _).setCell _ _).setCell _ _).setCell _ _).setCell _ _).setCell _ _) = W9
    intro hO9 hk9
    obtain ⟨⟨q0, q1, q2, q3, q4, q5, q6, q7, q8⟩, _⟩ := hO9.all9
    refine bodyPost_ret (v := .agg #[.int .i64 5, .string ⟨#[]⟩, .int .i64 0, .int .i64 0, .int .i64 0, .int .i64 0, .int .i64 0, .int .i64 0, .slice A5 R5.length c5]) (by simp [results, Tryz.results79, go_sem, q0, q1, q2, q3, q4, q5, q6, q7, q8]) rfl ?_
    have hres9 := HRES.out
    subst hres9
    exact ⟨HF.out.2.1.at_ hk9 (Nat.le_refl _), ⟨_, rfl, _, rfl, RegAt.kids 5 (HK.out _ hk9)⟩, HF.out.2.2.at_ hk9 hBw⟩
   ·
    clear HKC
    obtain ⟨rfl, htx⟩ := hk
    replace HRES := Lib.hid (by have := HRES.out; rwa [htx, if_neg (by decide), if_neg (by decide), if_neg (by decide), if_neg (by decide), if_neg (by decide), if_neg (by decide), if_pos rfl] at this)
    have hadv := Qy.adv_lt HGood.out (by rw [HTx.out, htx]; simp) (by rw [HTx.out, htx]; decide)
    have hne_ : Qy.hd s.1 ≠ [] := by rw [← (Qy.see_none (s := s) (by rw [HTx.out, htx]; decide)).2, HTx.out, htx]; simp
    obtain ⟨s1, hs1⟩ : ∃ s1, Qy.adv s = s1 := ⟨_, rfl⟩
    rw [hs1] at hadv
    replace HRES := Lib.hid (by have := HRES.out; rwa [hs1] at this)
    obtain ⟨p2, hp2⟩ : ∃ p, Qy.rItem f s1 = p := ⟨_, rfl⟩
    replace HRES := Lib.hid (by have := HRES.out; simp only [hp2] at this; exact this)
    have HC : Hid (∀ u, RfAt B r s1 u → Calls Tryz.prog 79 #[.pointer (some ⟨r, 0, none⟩)] u (EndF B r u p2 (regV u))) := Lib.hid fun u k => hp2 ▸ HIH.out.1 s1 u k ⟨by have := HFO.out.2 hadv.1; have := hadv.2.2; omega, fun _ => by have := HFO.out.2 hadv.1; have := hadv.2.2; omega⟩
    obtain ⟨R5, s2⟩ := p2
    replace HRES := Lib.hid (by have := HRES.out; simp only at this; exact this)
    clear hp2
    have HS1 := Lib.hid hs1
    clear hadv hs1 htx
    obtain ⟨n_, i_, g_, off_, c_, a_, b_, hl_, hi_, hgr_, hgl_, hO_, c8_, c9_, hb_, hA_, _⟩ := hrd2.cells
    have q1 := hO_.cell 1
    have q1f := hO_.frozen 1
    have i0 : (0 : Int) ≤ (i_ : Int) := by omega
    have i1 : (i_ : Int) ≤ 5000 := by omega
    have hk_ := At1.set_ (r := r) wr (p := ⟨r, 1, none⟩) rfl (.int .i64 ((i_ : Int) + 1))
    have hrd21 := hA_ hne_
    replace hA := hA.at1 hk_ gA
    replace hat := hat.trans hk_
    clear hO_ c8_ c9_ hb_ hA_ hk_ hgl_ hgr_ hi_ hl_ hne_ hrd2
    rw [HS1.out] at hrd21
    have hwz : w.heap.size < wr.heap.size := by have := hA.lt; simpa using this
    go_upto_region 20 with fail
    refine wp_new1 fun W5 hO kn => ?_
    clear q1 q1f
    obtain ⟨g9, hg9⟩ : ∃ g9, wr.heap.size = g9 := ⟨_, rfl⟩
    have hrd9 := hrd21.on (by simpa using kn)
    replace hat := hat.trans (At1.of_below (by simpa using kn))
    replace hA := hA.on (by simpa using kn)
    have hO : Own W5 g9 32 [.int .i64 6, .string ⟨#[]⟩, .int .i64 0, .int .i64 0, .int .i64 0, .int .i64 0, .int .i64 0, .int .i64 0, .slice none 0 0] := by rw [← hg9]; simpa using hO
    rw [hg9] at hwz
    try rw [show (wr.setCell ⟨r, 1, none⟩ (.int .i64 ((i_ : Int) + 1))).heap.size = g9 by simpa using hg9]
    try rw [hg9]
    have hgr9 : g9 ≠ r := by omega
    have hgA9 : w.heap.size ≠ g9 := by omega
    have hB9 : B ≤ g9 := by omega
    have hw9 : w.heap.size ≤ g9 := by omega
    have hz9 := hO.lt
    clear kn hrd21 hg9 i0 i1
    go_wp2_with fail
    refine (HC.out _ hrd9).mono ?_
    rintro e2 w22 ⟨k_, ⟨v, rfl, hv_⟩, hrd23⟩
    replace hA := hA.at1 k_ gA
    replace hO := hO.at1 k_ hgr9
    replace hat := hat.trans k_
    clear k_ hrd9
    obtain ⟨n0, s1_, n2, n3, n4, n5, n6, n7, A8, l8, c9, rfl, hR1, hR3⟩ := hv_.lit
    have kn := below_new w22 (.cells #[.int .i64 n0, .string s1_, .int .i64 n2, .int .i64 n3, .int .i64 n4, .int .i64 n5, .int .i64 n6, .int .i64 n7, .slice A8 l8 c9] 32)
    have hrow := hR3 32 w22 (fun g => g9 < g) (RegAt.keep (Nat.le_refl _) (fun g hg _ => ⟨Nat.lt_of_lt_of_le hz9 hg, rfl⟩) _ _ hR1) hO.lt
    replace hO := hO.on kn
    replace hA := hA.on kn
    have hrd24 := hrd23.on kn
    replace hat := hat.trans (At1.of_below kn)
    clear kn hR1 hR3 hrd23
    go_wp2_with (refine wpList_new1 ?_)
    intro W6 eW
    rw [← eW] at hrow hA hO hat hrd24
    clear eW
    have o8f := hO.frozen 8
    have o8 := hO.cell 8
    have hk8 := At1.set_ (r := g9) W6 (p := ⟨g9, 8, none⟩) rfl (.slice (some ⟨w22.heap.size, 0, none⟩) 1 1)
    replace hO := hO.set_ 8 (.slice (some ⟨w22.heap.size, 0, none⟩) 1 1)
    replace hrow := hrow.at1 hk8 (Nat.lt_irrefl _)
    replace hA := hA.at1 hk8 hgA9
    replace hat := hat.at_ hk8 hw9
    have hrd25 := hrd24.at_ hk8 hB9
    clear hk8 hrd24
    go_upto_region 41 with fail
    revert hrow; revert hrd25; revert hat; revert hA; revert hO
    generalize (World.setCell _ _ _) = W8
    intro hO hA hat hrd25 hrow
    have HRow := Lib.hid hrow
    clear o8 o8f hrow
    obtain ⟨⟨z0, z1, z2, z3, z4, z5, z6, z7, z8⟩, f0, f1, f2, f3, f4, f5, f6, f7, f8⟩ := hA.all9
    obtain ⟨⟨c0, c1, c2, c3, c4, c5, c6, c7, c8⟩, _⟩ := hO.all9
    have HF := Lib.hid (And.intro hA (And.intro hat hrd25))
    clear hA hat hrd25 hO 
    go_wp2_with fail
    clear c0 c1 c2 c3 c4 c5 c6 c7 c8
    obtain ⟨hO9, hk9⟩ := HF.out.1.put9 (x0 := .int .i64 6) (x1 := .string ⟨#[]⟩) (x2 := .int .i64 0) (x3 := .int .i64 0) (x4 := .int .i64 0) (x5 := .int .i64 0) (x6 := .int .i64 0) (x7 := .int .i64 0) (x8 := .slice (some ⟨w22.heap.size, 0, none⟩) 1 1)
    clear z0 z1 z2 z3 z4 z5 z6 z7 z8 f0 f1 f2 f3 f4 f5 f6 f7 f8
    revert hO9 hk9
    generalize (((((((((World.setCell _ _ _).setCell _ _).setCell _ _).setCell _ _).setCell _ _).setCell _ _).setCell _ _).setCell _ _).setCell _ _) = W9
    intro hO9 hk9
    obtain ⟨⟨q0, q1, q2, q3, q4, q5, q6, q7, q8⟩, _⟩ := hO9.all9
    refine bodyPost_ret (v := .agg #[.int .i64 6, .string ⟨#[]⟩, .int .i64 0, .int .i64 0, .int .i64 0, .int .i64 0, .int .i64 0, .int .i64 0, .slice (some ⟨w22.heap.size, 0, none⟩) 1 1]) (by simp [results, Tryz.results79, go_sem, q0, q1, q2, q3, q4, q5, q6, q7, q8]) rfl ?_
    have hres9 := HRES.out
    subst hres9
    exact ⟨HF.out.2.1.at_ hk9 (Nat.le_refl _), ⟨_, rfl, _, rfl, (by obtain ⟨A5, c5, hA5, hkids⟩ := (HRow.out.at1 hk9 (fun h => absurd h (Nat.not_lt.2 hw9))).listV (w0 := w) (fun g hg => Nat.le_trans hw9 (Nat.le_of_lt hg)); cases hA5; exact RegAt.kids 6 hkids)⟩, HF.out.2.2.at_ hk9 hBw⟩
   ·
    clear HKC
    obtain ⟨rfl, n0, n1, n2, n3, n4, n5, n6⟩ := hk
    replace HRES := Lib.hid (by have := HRES.out; rwa [if_neg n0, if_neg n1, if_neg n2, if_neg n3, if_neg n4, if_neg n5, if_neg n6] at this)
    clear n0 n1 n2 n3 n4 n5 n6
    have HFl := Lib.hid fun u k => HFail.out 2 (by decide) s u k
    go_wp2_with fail
    refine (HFl.out _ hrd2).mono ?_
    rintro e2 w21 ⟨rfl, k_, hrd22⟩
    replace hA := hA.at1 k_ gA
    replace hat := hat.trans k_
    clear k_ hrd2
    obtain ⟨⟨z0, z1, z2, z3, z4, z5, z6, z7, z8⟩, f0, f1, f2, f3, f4, f5, f6, f7, f8⟩ := hA.all9
    have HF := Lib.hid (And.intro hA (And.intro hat hrd22))
    clear hA hat hrd22  
    go_wp2_with fail
    obtain ⟨hO9, hk9⟩ := HF.out.1.put9 (x0 := .int .i64 0) (x1 := .string ⟨#[]⟩) (x2 := .int .i64 0) (x3 := .int .i64 0) (x4 := .int .i64 0) (x5 := .int .i64 0) (x6 := .int .i64 0) (x7 := .int .i64 0) (x8 := .slice none 0 0)
    clear z0 z1 z2 z3 z4 z5 z6 z7 z8 f0 f1 f2 f3 f4 f5 f6 f7 f8
    revert hO9 hk9
    generalize (((((((((World.setCell _ _ _).setCell _ _).setCell _ _).setCell _ _).setCell _ _).setCell _ _).setCell _ _).setCell _ _).setCell _ _) = W9
    intro hO9 hk9
    obtain ⟨⟨q0, q1, q2, q3, q4, q5, q6, q7, q8⟩, _⟩ := hO9.all9
    refine bodyPost_ret (v := .agg #[.int .i64 0, .string ⟨#[]⟩, .int .i64 0, .int .i64 0, .int .i64 0, .int .i64 0, .int .i64 0, .int .i64 0, .slice none 0 0]) (by simp [results, Tryz.results79, go_sem, q0, q1, q2, q3, q4, q5, q6, q7, q8]) rfl ?_
    have hres9 := HRES.out
    subst hres9
    exact ⟨HF.out.2.1.at_ hk9 (Nat.le_refl _), ⟨_, rfl, _, rfl, RegAt.leaf 0 [] 0 0 0 0 0 0⟩, HF.out.2.2.at_ hk9 hBw⟩
theorem readsF (B r : Nat) : ∀ f, ItemF B r f ∧ KidsF B r f ∧ RegF B r f := by
 intro f
 induction f using Nat.strongRecOn with
 | ind f ih =>
  have h3 : RegF B r f := rRegion B r f fun g hg => (ih g hg).1
  have h2 : KidsF B r f := rKids B r f fun g hg => (ih g hg).2.2
  exact ⟨rItem B r f (fun g hg => (ih g hg).1) (fun g hg => (ih g hg).2.1) (fun g hg => (ih g hg).2.2), h2, h3⟩
end Go.Proofs.YtmlpibdincfgbaaGreatDoor
