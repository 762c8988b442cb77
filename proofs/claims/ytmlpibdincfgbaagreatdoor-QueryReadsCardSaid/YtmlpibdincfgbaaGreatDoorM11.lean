/-
  Chapter 38's reference: Parse.
-/
import Derived.Test.YtmlpibdincfgbaaGreatDoorM8
import Derived.Test.YtmlpibdincfgbaaGreatDoorM10
import Derived.Test.YtmlpibdincfgbaaGreatDoorK21
import Derived.StillTailTactics
namespace Go.Proofs.YtmlpibdincfgbaaGreatDoor
open Go.RowKit
set_option linter.unusedSimpArgs false
set_option linter.unusedVariables false

theorem below_at1 {r : Nat} {w w' : World} (h : At1 r w w') (hr : w.heap.size ≤ r) : Below w.heap.size w w' := ⟨h.os, h.tape, h.output, h.size, fun k hk => h.heap hk (by omega)⟩
theorem kd_cell {w : World} {a : Addr} {v : Value} (h : w.cell? a = some v) : w.drew.cell? a = some v := h
theorem heap_of {w : World} {r o : Nat} {v : Value} (h : w.cell? ⟨r, o, none⟩ = some v) : r < w.heap.size := by
 rcases Nat.lt_or_ge r w.heap.size with k | k
 ·exact k
 ·simp [World.cell?, Array.getElem?_eq_none k] at h
def RT (_ _ : World) : Prop := True
theorem RT.refl (w : World) : RT w w := trivial
/-- The result's cells hold zeros; the reader's error lies where it lay. -/
def JZ (r g : Nat) (W : World) (a : Nat) (b : Int) (wz : World) : Prop := At1 g W wz ∧ Own wz g 36 [.int .i64 0, .int .i64 0, .string ⟨#[]⟩, .int .i64 0, .int .i64 0, .int .i64 0, .int .i64 0, .int .i64 0, .int .i64 0, .slice none 0 0, .int .i64 0, .slice none 0 0, .int .i64 0, .int .i64 0] ∧ wz.cell? ⟨r, 2, none⟩ = some (.int .i64 (a : Int)) ∧ wz.cell? ⟨r, 3, none⟩ = some (.int .i64 b)
set_option maxRecDepth 100000 in
set_option maxHeartbeats 6400000 in
theorem rParse (s : Qy.Bs) (w : World) (hs : s.length ≤ 100000000) : Calls Tryz.prog 14 #[.string (bs s)] w (ParseR w (Qy.parse s)) := by
 have hsz := bs_size s
 by_cases hlen : 4096 < s.length
 ·have hp : Qy.parse s = (Qy.Qry.none, 4096, 4) := by unfold Qy.parse; rw [if_pos hlen]
  rw [hp]
  obtain ⟨L, hL⟩ : ∃ L, s.length = L := ⟨_, rfl⟩
  rw [hL] at hsz hlen hs
  obtain ⟨sd, hsd⟩ : ∃ sd, bs s = sd := ⟨_, rfl⟩
  rw [hsd] at hsz ⊢
  have h1 : (4096 : Int) < (L : Int) := by omega
  clear hsd hL hp
  go_enter Tryz.func14, Tryz.ntmps14
  go_upto_region 1 with fail
  refine wp_new1 fun W0 hA hB => ?_
  have HB := Lib.hid hB
  clear hB
  obtain ⟨⟨z0, z1, z2, z3, z4, z5, z6, z7, z8, z9, z10, z11, z12, z13⟩, f0, f1, f2, f3, f4, f5, f6, f7, f8, f9, f10, f11, f12, f13⟩ := hA.all14
  have HF := Lib.hid hA
  clear hA
  go_wp2_with fail
  obtain ⟨hO, hk⟩ := HF.out.put14 (x0 := .int .i64 0) (x1 := .int .i64 0) (x2 := .string ⟨#[]⟩) (x3 := .int .i64 0) (x4 := .int .i64 0) (x5 := .int .i64 0) (x6 := .int .i64 0) (x7 := .int .i64 0) (x8 := .int .i64 0) (x9 := .slice none 0 0) (x10 := .int .i64 0) (x11 := .slice none 0 0) (x12 := .int .i64 0) (x13 := .int .i64 0)
  clear z0 f0 z1 f1 z2 f2 z3 f3 z4 f4 z5 f5 z6 f6 z7 f7 z8 f8 z9 f9 z10 f10 z11 f11 z12 f12 z13 f13
  revert hO hk
  generalize (((((((((((((World.setCell _ _ _).setCell _ _).setCell _ _).setCell _ _).setCell _ _).setCell _ _).setCell _ _).setCell _ _).setCell _ _).setCell _ _).setCell _ _).setCell _ _).setCell _ _).setCell _ _ = W9
  intro hO hk
  obtain ⟨⟨q0, q1, q2, q3, q4, q5, q6, q7, q8, q9, q10, q11, q12, q13⟩, _⟩ := hO.all14
  refine bodyPost_ret (v := .tuple #[.agg #[.int .i64 0, .int .i64 0, .string ⟨#[]⟩, .int .i64 0, .int .i64 0, .int .i64 0, .int .i64 0, .int .i64 0, .int .i64 0, .slice none 0 0, .int .i64 0, .slice none 0 0, .int .i64 0, .int .i64 0], .int .i64 4096, .int .i64 4]) (by simp [results, Tryz.results14, go_sem, q0, q1, q2, q3, q4, q5, q6, q7, q8, q9, q10, q11, q12, q13]) rfl ?_
  exact ⟨_, rfl, qryV.none_ _ _, HB.out.trans (hk.below HB.out.size)⟩
 ·have h1 : ¬ (4096 : Int) < (s.length : Int) := by omega
  have hlen2 : s.length ≤ 4096 := by omega
  have hpp : Qy.parse s = (match Qy.pQuery Qy.FU (Qy.toks s 0) with | .bad x e => (Qy.Qry.none, x, e) | .ok q _ => if 256 < Qy.nodes q.reg ∨ 16 < Qy.nest q.reg then (Qy.Qry.none, s.length, 4) else (q, 0, 0)) := by unfold Qy.parse; rw [if_neg hlen]; cases Qy.pQuery Qy.FU (Qy.toks s 0) <;> rfl
  have hgood := (Qy.toks_good s.length s 0 (Nat.le_refl _)).1
  have htl := toks_len s.length s 0 (Nat.le_refl _)
  have htwo := Qy.query_two Qy.FU (Qy.toks s 0) (by unfold Qy.FU; omega) hgood
  have hfine := fun q l' (h : Qy.pQuery Qy.FU (Qy.toks s 0) = .ok q l') => query_fine hgood h
  have HTk := Lib.hid (rTokens s hlen2)
  obtain ⟨T, hT⟩ : ∃ T, Qy.toks s 0 = T := ⟨_, rfl⟩
  rw [hT] at hpp hgood htl htwo hfine HTk
  obtain ⟨QQ, hQQ⟩ : ∃ QQ, Qy.rQuery Qy.FU (T, none) = QQ := ⟨_, rfl⟩
  rw [hQQ] at htwo
  unfold Qy.rQuery at hQQ
  obtain ⟨PR, hPR⟩ : ∃ PR, Qy.parse s = PR := ⟨_, rfl⟩
  rw [hPR] at hpp ⊢
  have HPR := Lib.hid hpp
  have HTwo := Lib.hid htwo
  have HFine := Lib.hid hfine
  have HGood := Lib.hid hgood
  have HQQ := Lib.hid hQQ
  have HTl := Lib.hid htl
  clear hPR hpp htwo hfine hgood hQQ htl hT hlen
  obtain ⟨L, hL⟩ : ∃ L, s.length = L := ⟨_, rfl⟩
  have HL := Lib.hid hL
  rw [hL] at hsz h1 hlen2 hs
  obtain ⟨sd, hsd⟩ : ∃ sd, bs s = sd := ⟨_, rfl⟩
  rw [hsd] at hsz HTk ⊢
  clear hsd hL
  go_enter Tryz.func14, Tryz.ntmps14
  go_upto_region 1 with fail
  refine wp_new1 fun W0 hA hB => ?_
  have hB0 := Lib.hid hB
  clear hB
  go_wp2_with fail
  refine (HTk.out _).mono ?_
  rintro e w1 ⟨k1, A, c, rfl, hrow, hTn⟩
  replace hA := hA.on k1
  have hb1 := hB0.out.trans (k1.mono hB0.out.size)
  have zA := hA.lt
  have hrl := hrow.lt
  clear k1
  go_upto_region 4 with fail
  refine wp_new1 fun W1 hRd kn => ?_
  obtain ⟨r, hr⟩ : ∃ r, w1.heap.size = r := ⟨_, rfl⟩
  have hrow1 := owns_below hrow kn
  have hrd0 : RfAt (r + 1) r (T, none) W1 := by
   rw [hr] at hRd
   have hlt := hRd.lt
   refine ⟨Nat.lt_succ_self _, hlt, HGood.out, T, 0, A, c, 0, 0, rfl, by omega, hRd, ?_, rfl⟩
   refine tks_of hrow1 rfl (fun g hg hl => ?_)
   have h9 := (hrl g (by rw [hg]; rfl)).2
   omega
  replace hA := hA.on kn
  have hat0 := (At1.of_below (r := r) hb1).trans (At1.of_below kn)
  have hwr : w.heap.size < r := by omega
  have zr := hRd.lt
  rw [hr] at zr
  clear hrow hrow1 hRd kn hb1 hrl
  rw [hr]
  clear hr
  go_upto_region 5 with fail
  refine wp_new1 fun W2 hQ kn => ?_
  obtain ⟨g6, hg6⟩ : ∃ g, W1.heap.size = g := ⟨_, rfl⟩
  have hrd1 := hrd0.on kn
  replace hA := hA.on kn
  have hat := hat0.trans (At1.of_below kn)
  rw [hg6] at hQ zr ⊢
  have gA : w.heap.size ≠ r := by omega
  have gQ : g6 ≠ r := by omega
  have g26 : w.heap.size < g6 := by omega
  clear kn hg6 hrd0 hat0 zA
  have HNeed : Hid (∀ t, t ≠ [32] → ∀ s u, RfAt (r + 1) r s u → Calls Tryz.prog 39 #[.pointer (some ⟨r, 0, none⟩), .string (bs t)] u fun e w' => e = .returned (.tuple #[]) ∧ At1 r u w' ∧ RfAt (r + 1) r (Qy.needS t s) w') := Lib.hid fun t ht s u k => rNeed (r + 1) r s t ht u k
  have HNum : Hid (∀ hi s u, RfAt (r + 1) r s u → Calls Tryz.prog 40 #[.pointer (some ⟨r, 0, none⟩), .int .i64 0, .int .i64 hi] u (EndF (r + 1) r u (Qy.numS 0 hi s) intV)) := Lib.hid fun hi s u k => rNumber (r + 1) r s 0 hi u k
  have HReg : Hid (∀ s u, RfAt (r + 1) r s u → Calls Tryz.prog 41 #[.pointer (some ⟨r, 0, none⟩)] u (EndF (r + 1) r u (Qy.rReg Qy.FU s) (regV u))) := Lib.hid fun s u k => (readsF (r + 1) r Qy.FU).2.2 s u k (by have := k.short; unfold Qy.FOK Qy.FU; omega)
  have HView : Hid (∀ s u, RfAt (r + 1) r s u → Calls Tryz.prog 42 #[.pointer (some ⟨r, 0, none⟩)] u (EndF (r + 1) r u (Qy.rView Qy.FU s) (viewV u))) := Lib.hid fun s u k => rView (r + 1) r Qy.FU s u k (by have := k.short; unfold Qy.FU; omega)
  obtain ⟨s21, hs_⟩ : ∃ x, Qy.needS [99, 111, 117, 110, 116] (T, none) = x := ⟨_, rfl⟩
  replace HQQ := Lib.hid (by have := HQQ.out; simp only [hs_] at this; exact this)
  have HN24 := Lib.hid fun u k => HNeed.out [99, 111, 117, 110, 116] (by decide) (T, none) u k
  rw [hs_] at HN24
  clear hs_
  go_wp2_with fail
  refine (HN24.out _ hrd1).mono ?_
  rintro e2 w22 ⟨rfl, k_, hrd23⟩
  replace hA := hA.at1 k_ gA
  replace hQ := hQ.at1 k_ gQ
  replace hat := hat.trans k_
  clear k_ hrd1
  clear HN24
  obtain ⟨p_, hp_⟩ : ∃ x, Qy.numS 0 255 s21 = x := ⟨_, rfl⟩
  replace HQQ := Lib.hid (by have := HQQ.out; simp only [hp_] at this; exact this)
  have HN28 := Lib.hid fun u k => HNum.out 255 s21 u k
  rw [hp_] at HN28
  clear hp_
  obtain ⟨kd, s25⟩ := p_
  go_wp2_with fail
  refine (HN28.out _ hrd23).mono ?_
  rintro e2 w26 ⟨k_, ⟨v, rfl, rfl⟩, hrd27⟩
  have zk_ := k_.size
  replace hA := hA.at1 k_ gA
  replace hQ := hQ.at1 k_ gQ
  replace hat := hat.trans k_
  clear k_ hrd23
  clear HN28
  have z0 := hQ.cell 0
  have f0 := hQ.frozen 0
  go_upto_region 7 with fail
  clear z0 f0
  have hk := At1.set_ (r := g6) w26 (p := ⟨g6, 0, none⟩) rfl (.int .i64 kd)
  have zk2_ := hk.size
  have hQ2 := (hQ).set_ 0 (.int .i64 kd)
  replace hA := hA.at1 hk (Nat.ne_of_lt g26)
  have hrd29 := hrd27.at_ hk (by omega)
  replace hat := hat.at_ hk (Nat.le_of_lt g26)
  clear hk hQ hrd27
  revert hQ2
  revert hA
  revert hrd29
  revert hat
  revert zk2_
  generalize World.setCell _ _ _ = W30
  intro zk2_ hat hrd29 hA hQ2
  have hQ : Own W30 g6 36 [.int .i64 kd, .int .i64 0, .string ⟨#[]⟩, .int .i64 0, .int .i64 0, .int .i64 0, .int .i64 0, .int .i64 0, .int .i64 0, .slice none 0 0, .int .i64 0, .slice none 0 0, .int .i64 0, .int .i64 0] := hQ2
  clear hQ2
  obtain ⟨s31, hs_⟩ : ∃ x, Qy.needS [111, 102] s25 = x := ⟨_, rfl⟩
  replace HQQ := Lib.hid (by have := HQQ.out; simp only [hs_] at this; exact this)
  have HN34 := Lib.hid fun u k => HNeed.out [111, 102] (by decide) s25 u k
  rw [hs_] at HN34
  clear hs_
  go_wp2_with fail
  refine (HN34.out _ hrd29).mono ?_
  rintro e2 w32 ⟨rfl, k_, hrd33⟩
  replace hA := hA.at1 k_ gA
  replace hQ := hQ.at1 k_ gQ
  replace hat := hat.trans k_
  clear k_ hrd29
  clear HN34
  have z3_ : g6 < w32.heap.size := hQ.lt
  obtain ⟨p_, hp_⟩ : ∃ x, Qy.rReg Qy.FU s31 = x := ⟨_, rfl⟩
  replace HQQ := Lib.hid (by have := HQQ.out; simp only [hp_] at this; exact this)
  have HN38 := Lib.hid fun u k => HReg.out s31 u k
  rw [hp_] at HN38
  clear hp_
  obtain ⟨R5, s35⟩ := p_
  go_wp2_with fail
  refine (HN38.out _ hrd33).mono ?_
  rintro e2 w36 ⟨k_, ⟨v, rfl, hv_⟩, hrd37⟩
  have zk_ := k_.size
  replace hA := hA.at1 k_ gA
  replace hQ := hQ.at1 k_ gQ
  replace hat := hat.trans k_
  clear k_ hrd33
  clear HN38
  obtain ⟨n0, s1_, n2, n3, n4, n5, n6, n7, A8, l8, c8, rfl, hR1, hR3⟩ := hv_.lit
  clear hR3 hv_
  have z0 := hQ.cell 1
  have f0 := hQ.frozen 1
  have z1 := hQ.cell 2
  have f1 := hQ.frozen 2
  have z2 := hQ.cell 3
  have f2 := hQ.frozen 3
  have z3 := hQ.cell 4
  have f3 := hQ.frozen 4
  have z4 := hQ.cell 5
  have f4 := hQ.frozen 5
  have z5 := hQ.cell 6
  have f5 := hQ.frozen 6
  have z6 := hQ.cell 7
  have f6 := hQ.frozen 7
  have z7 := hQ.cell 8
  have f7 := hQ.frozen 8
  have z8 := hQ.cell 9
  have f8 := hQ.frozen 9
  go_upto_region 9 with fail
  clear z0 f0 z1 f1 z2 f2 z3 f3 z4 f4 z5 f5 z6 f6 z7 f7 z8 f8
  have hk := ((((((((At1.set_ (r := g6) w36 (p := ⟨g6, 1, none⟩) rfl (.int .i64 n0)).trans (At1.set_ _ (p := ⟨g6, 2, none⟩) rfl (.string s1_))).trans (At1.set_ _ (p := ⟨g6, 3, none⟩) rfl (.int .i64 n2))).trans (At1.set_ _ (p := ⟨g6, 4, none⟩) rfl (.int .i64 n3))).trans (At1.set_ _ (p := ⟨g6, 5, none⟩) rfl (.int .i64 n4))).trans (At1.set_ _ (p := ⟨g6, 6, none⟩) rfl (.int .i64 n5))).trans (At1.set_ _ (p := ⟨g6, 7, none⟩) rfl (.int .i64 n6))).trans (At1.set_ _ (p := ⟨g6, 8, none⟩) rfl (.int .i64 n7))).trans (At1.set_ _ (p := ⟨g6, 9, none⟩) rfl (.slice A8 l8 c8))
  have zk2_ := hk.size
  have hQ2 := (((((((((hQ).set_ 1 (.int .i64 n0)).set_ 2 (.string s1_)).set_ 3 (.int .i64 n2)).set_ 4 (.int .i64 n3)).set_ 5 (.int .i64 n4)).set_ 6 (.int .i64 n5)).set_ 7 (.int .i64 n6)).set_ 8 (.int .i64 n7)).set_ 9 (.slice A8 l8 c8)
  replace hA := hA.at1 hk (Nat.ne_of_lt g26)
  have hrd39 := hrd37.at_ hk (by omega)
  replace hat := hat.at_ hk (Nat.le_of_lt g26)
  replace hR1 := hR1.at1 hk (by omega)
  clear hk hQ hrd37
  revert hQ2
  revert hA
  revert hrd39
  revert hat
  revert zk2_
  revert hR1
  generalize ((((((((World.setCell _ _ _).setCell _ _).setCell _ _).setCell _ _).setCell _ _).setCell _ _).setCell _ _).setCell _ _).setCell _ _ = W40
  intro hR1 zk2_ hat hrd39 hA hQ2
  have hQ : Own W40 g6 36 [.int .i64 kd, .int .i64 n0, .string s1_, .int .i64 n2, .int .i64 n3, .int .i64 n4, .int .i64 n5, .int .i64 n6, .int .i64 n7, .slice A8 l8 c8, .int .i64 0, .slice none 0 0, .int .i64 0, .int .i64 0] := hQ2
  clear hQ2
  obtain ⟨s41, hs_⟩ : ∃ x, Qy.needS [105, 110] s35 = x := ⟨_, rfl⟩
  replace HQQ := Lib.hid (by have := HQQ.out; simp only [hs_] at this; exact this)
  have HN44 := Lib.hid fun u k => HNeed.out [105, 110] (by decide) s35 u k
  rw [hs_] at HN44
  clear hs_
  go_wp2_with fail
  refine (HN44.out _ hrd39).mono ?_
  rintro e2 w42 ⟨rfl, k_, hrd43⟩
  replace hA := hA.at1 k_ gA
  replace hQ := hQ.at1 k_ gQ
  replace hR1 := hR1.at1 k_ (by omega)
  replace hat := hat.trans k_
  clear k_ hrd39
  clear HN44
  have z4_ : g6 < w42.heap.size := hQ.lt
  obtain ⟨p_, hp_⟩ : ∃ x, Qy.rView Qy.FU s41 = x := ⟨_, rfl⟩
  replace HQQ := Lib.hid (by have := HQQ.out; simp only [hp_] at this; exact this)
  have HN48 := Lib.hid fun u k => HView.out s41 u k
  rw [hp_] at HN48
  clear hp_
  obtain ⟨vw, s45⟩ := p_
  go_wp2_with fail
  refine (HN48.out _ hrd43).mono ?_
  rintro e2 w46 ⟨k_, ⟨v, rfl, hv_⟩, hrd47⟩
  have zk_ := k_.size
  replace hA := hA.at1 k_ gA
  replace hQ := hQ.at1 k_ gQ
  replace hR1 := hR1.at1 k_ (by omega)
  replace hat := hat.trans k_
  clear k_ hrd43
  clear HN48
  obtain ⟨vA, vl, vc, rfl, hvl, hI1, hI2⟩ := hv_.lit
  obtain ⟨vk, vo⟩ := vw
  replace HQQ := Lib.hid (by have := HQQ.out; simp only at this; exact this)
  simp only at hvl hI1 hI2 ⊢
  have HV := Lib.hid (And.intro hvl hI2)
  clear hvl hI2 hv_
  have z0 := hQ.cell 10
  have f0 := hQ.frozen 10
  have z1 := hQ.cell 11
  have f1 := hQ.frozen 11
  go_upto_region 11 with fail
  clear z0 f0 z1 f1
  have hk := (At1.set_ (r := g6) w46 (p := ⟨g6, 10, none⟩) rfl (.int .i64 vk)).trans (At1.set_ _ (p := ⟨g6, 11, none⟩) rfl (.slice vA vl vc))
  have zk2_ := hk.size
  have hQ2 := ((hQ).set_ 10 (.int .i64 vk)).set_ 11 (.slice vA vl vc)
  replace hA := hA.at1 hk (Nat.ne_of_lt g26)
  have hrd49 := hrd47.at_ hk (by omega)
  replace hat := hat.at_ hk (Nat.le_of_lt g26)
  replace hR1 := hR1.at1 hk (by omega)
  replace hI1 := hI1.at1 hk (by omega)
  clear hk hQ hrd47
  revert hQ2
  revert hA
  revert hrd49
  revert hat
  revert zk2_
  revert hR1
  revert hI1
  generalize (World.setCell _ _ _).setCell _ _ = W50
  intro hI1 hR1 zk2_ hat hrd49 hA hQ2
  have hQ : Own W50 g6 36 [.int .i64 kd, .int .i64 n0, .string s1_, .int .i64 n2, .int .i64 n3, .int .i64 n4, .int .i64 n5, .int .i64 n6, .int .i64 n7, .slice A8 l8 c8, .int .i64 vk, .slice vA vl vc, .int .i64 0, .int .i64 0] := hQ2
  clear hQ2
  obtain ⟨s51, hs_⟩ : ∃ x, Qy.needS [111, 110] s45 = x := ⟨_, rfl⟩
  replace HQQ := Lib.hid (by have := HQQ.out; simp only [hs_] at this; exact this)
  have HN54 := Lib.hid fun u k => HNeed.out [111, 110] (by decide) s45 u k
  rw [hs_] at HN54
  clear hs_
  go_wp2_with fail
  refine (HN54.out _ hrd49).mono ?_
  rintro e2 w52 ⟨rfl, k_, hrd53⟩
  replace hA := hA.at1 k_ gA
  replace hQ := hQ.at1 k_ gQ
  replace hR1 := hR1.at1 k_ (by omega)
  replace hI1 := hI1.at1 k_ (by omega)
  replace hat := hat.trans k_
  clear k_ hrd49
  clear HN54
  obtain ⟨p_, hp_⟩ : ∃ x, Qy.numS 0 73048 s51 = x := ⟨_, rfl⟩
  replace HQQ := Lib.hid (by have := HQQ.out; simp only [hp_] at this; exact this)
  have HN58 := Lib.hid fun u k => HNum.out 73048 s51 u k
  rw [hp_] at HN58
  clear hp_
  obtain ⟨dy, s55⟩ := p_
  go_wp2_with fail
  refine (HN58.out _ hrd53).mono ?_
  rintro e2 w56 ⟨k_, ⟨v, rfl, rfl⟩, hrd57⟩
  have zk_ := k_.size
  replace hA := hA.at1 k_ gA
  replace hQ := hQ.at1 k_ gQ
  replace hR1 := hR1.at1 k_ (by omega)
  replace hI1 := hI1.at1 k_ (by omega)
  replace hat := hat.trans k_
  clear k_ hrd53
  clear HN58
  have z0 := hQ.cell 12
  have f0 := hQ.frozen 12
  go_upto_region 13 with fail
  clear z0 f0
  have hk := At1.set_ (r := g6) w56 (p := ⟨g6, 12, none⟩) rfl (.int .i64 dy)
  have zk2_ := hk.size
  have hQ2 := (hQ).set_ 12 (.int .i64 dy)
  replace hA := hA.at1 hk (Nat.ne_of_lt g26)
  have hrd59 := hrd57.at_ hk (by omega)
  replace hat := hat.at_ hk (Nat.le_of_lt g26)
  replace hR1 := hR1.at1 hk (by omega)
  replace hI1 := hI1.at1 hk (by omega)
  clear hk hQ hrd57
  revert hQ2
  revert hA
  revert hrd59
  revert hat
  revert zk2_
  revert hR1
  revert hI1
  generalize World.setCell _ _ _ = W60
  intro hI1 hR1 zk2_ hat hrd59 hA hQ2
  have hQ : Own W60 g6 36 [.int .i64 kd, .int .i64 n0, .string s1_, .int .i64 n2, .int .i64 n3, .int .i64 n4, .int .i64 n5, .int .i64 n6, .int .i64 n7, .slice A8 l8 c8, .int .i64 vk, .slice vA vl vc, .int .i64 dy, .int .i64 0] := hQ2
  clear hQ2
  obtain ⟨s61, hs_⟩ : ∃ x, Qy.needS [97, 116] s55 = x := ⟨_, rfl⟩
  replace HQQ := Lib.hid (by have := HQQ.out; simp only [hs_] at this; exact this)
  have HN64 := Lib.hid fun u k => HNeed.out [97, 116] (by decide) s55 u k
  rw [hs_] at HN64
  clear hs_
  go_wp2_with fail
  refine (HN64.out _ hrd59).mono ?_
  rintro e2 w62 ⟨rfl, k_, hrd63⟩
  replace hA := hA.at1 k_ gA
  replace hQ := hQ.at1 k_ gQ
  replace hR1 := hR1.at1 k_ (by omega)
  replace hI1 := hI1.at1 k_ (by omega)
  replace hat := hat.trans k_
  clear k_ hrd59
  clear HN64
  obtain ⟨p_, hp_⟩ : ∃ x, Qy.numS 0 23 s61 = x := ⟨_, rfl⟩
  replace HQQ := Lib.hid (by have := HQQ.out; simp only [hp_] at this; exact this)
  have HN68 := Lib.hid fun u k => HNum.out 23 s61 u k
  rw [hp_] at HN68
  clear hp_
  obtain ⟨sc, s65⟩ := p_
  go_wp2_with fail
  refine (HN68.out _ hrd63).mono ?_
  rintro e2 w66 ⟨k_, ⟨v, rfl, rfl⟩, hrd67⟩
  have zk_ := k_.size
  replace hA := hA.at1 k_ gA
  replace hQ := hQ.at1 k_ gQ
  replace hR1 := hR1.at1 k_ (by omega)
  replace hI1 := hI1.at1 k_ (by omega)
  replace hat := hat.trans k_
  clear k_ hrd63
  clear HN68
  have z0 := hQ.cell 13
  have f0 := hQ.frozen 13
  go_upto_region 15 with fail
  clear z0 f0
  have hk := At1.set_ (r := g6) w66 (p := ⟨g6, 13, none⟩) rfl (.int .i64 sc)
  have zk2_ := hk.size
  have hQ2 := (hQ).set_ 13 (.int .i64 sc)
  replace hA := hA.at1 hk (Nat.ne_of_lt g26)
  have hrd69 := hrd67.at_ hk (by omega)
  replace hat := hat.at_ hk (Nat.le_of_lt g26)
  replace hR1 := hR1.at1 hk (by omega)
  replace hI1 := hI1.at1 hk (by omega)
  clear hk hQ hrd67
  revert hQ2
  revert hA
  revert hrd69
  revert hat
  revert zk2_
  revert hR1
  revert hI1
  generalize World.setCell _ _ _ = W70
  intro hI1 hR1 zk2_ hat hrd69 hA hQ2
  have hQ : Own W70 g6 36 [.int .i64 kd, .int .i64 n0, .string s1_, .int .i64 n2, .int .i64 n3, .int .i64 n4, .int .i64 n5, .int .i64 n6, .int .i64 n7, .slice A8 l8 c8, .int .i64 vk, .slice vA vl vc, .int .i64 dy, .int .i64 sc] := hQ2
  clear hQ2
  obtain ⟨s71, hs_⟩ : ∃ x, Qy.needS [] s65 = x := ⟨_, rfl⟩
  replace HQQ := Lib.hid (by have := HQQ.out; simp only [hs_] at this; exact this)
  have HN74 := Lib.hid fun u k => HNeed.out [] (by decide) s65 u k
  rw [hs_] at HN74
  clear hs_
  go_wp2_with fail
  refine (HN74.out _ hrd69).mono ?_
  rintro e2 w72 ⟨rfl, k_, hrd73⟩
  replace hA := hA.at1 k_ gA
  replace hQ := hQ.at1 k_ gQ
  replace hR1 := hR1.at1 k_ (by omega)
  replace hI1 := hI1.at1 k_ (by omega)
  replace hat := hat.trans k_
  clear k_ hrd69
  clear HN74
  obtain ⟨n_, i_, g_, off_, c_, a_, b_, hl_, hi_, hgr_, hgl_, hO_, c8_, c9_, hb_, hA_, _⟩ := hrd73.cells
  have q2 := hO_.cell 2
  have q3 := hO_.cell 3
  change w72.cell? ⟨r, 3, none⟩ = some (.int .i64 b_) at q3
  change w72.cell? ⟨r, 2, none⟩ = some (.int .i64 (a_ : Int)) at q2
  clear hO_ c8_ c9_ hA_ hgr_ hgl_ hi_ hl_
  rcases HTwo.out with ⟨qa, l9, hp9, hq9⟩ | ⟨x9, er9, hp9, hq9⟩
  ·
   have hqq := HQQ.out
   rw [← hqq] at hq9
   injection hq9 with hq1 hq2
   rw [hq2] at hb_
   simp only at hb_
   obtain rfl := hb_
   have hP := HPR.out
   rw [hp9] at hP
   simp only at hP
   have hfi := (HFine.out _ _ hp9).2
   rw [← hq1] at hP hfi
   simp only at hP hfi
   have hn6 : Qy.nodes R5 ≤ 1000000 := by have := HTl.out; omega
   have HNd := Lib.hid (rNodes _ R5 (Nat.le_refl _) hn6 _ _ hR1.isReg)
   have HNt := Lib.hid fun w9 (k : Below w72.heap.size w72 w9) => rNesting _ R5 (Nat.le_refl _) hn6 _ w9 (hR1.on k).isReg
   have HHP := Lib.hid hP
   obtain ⟨nn, hnn⟩ : ∃ n, Qy.nodes R5 = n := ⟨_, rfl⟩
   obtain ⟨ns, hns⟩ : ∃ n, Qy.nest R5 = n := ⟨_, rfl⟩
   replace HHP := Lib.hid (by have := HHP.out; rwa [hnn, hns] at this)
   rw [hnn] at HNd
   rw [hns] at HNt
   have HST := Lib.hid (And.intro hA (And.intro hat (And.intro hR1 (And.intro hI1 hQ))))
   obtain ⟨⟨y0, y1, y2, y3, y4, y5, y6, y7, y8, y9, y10, y11, y12, y13⟩, _⟩ := hQ.all14
   clear hP hqq hq1 hq2 hp9 hfi hn6 hnn hns hA hat hR1 hI1 hQ hrd73
   by_cases hl1 : 256 < nn
   ·
    have hl1z : (256 : Int) < (nn : Int) := by omega
    go_wp2_with fail
    refine HNd.out.mono ?_
    rintro e2 w90 ⟨rfl, k9⟩
    have HK9 := Lib.hid k9
    clear k9
    replace HHP := Lib.hid (by have := HHP.out; rwa [if_pos (.inl hl1)] at this)
    have hA := HST.out.1.on HK9.out
    have hat := HST.out.2.1.trans (At1.of_below HK9.out)
    obtain ⟨⟨z0, z1, z2, z3, z4, z5, z6, z7, z8, z9, z10, z11, z12, z13⟩, f0, f1, f2, f3, f4, f5, f6, f7, f8, f9, f10, f11, f12, f13⟩ := hA.all14
    have HF := Lib.hid (And.intro hA hat)
    clear hA hat y0 y1 y2 y3 y4 y5 y6 y7 y8 y9 y10 y11 y12 y13
    go_wp2_with fail
    obtain ⟨hO, hk⟩ := HF.out.1.put14 (x0 := .int .i64 0) (x1 := .int .i64 0) (x2 := .string ⟨#[]⟩) (x3 := .int .i64 0) (x4 := .int .i64 0) (x5 := .int .i64 0) (x6 := .int .i64 0) (x7 := .int .i64 0) (x8 := .int .i64 0) (x9 := .slice none 0 0) (x10 := .int .i64 0) (x11 := .slice none 0 0) (x12 := .int .i64 0) (x13 := .int .i64 0)
    clear z0 f0 z1 f1 z2 f2 z3 f3 z4 f4 z5 f5 z6 f6 z7 f7 z8 f8 z9 f9 z10 f10 z11 f11 z12 f12 z13 f13
    revert hO hk
    generalize (((((((((((((World.setCell _ _ _).setCell _ _).setCell _ _).setCell _ _).setCell _ _).setCell _ _).setCell _ _).setCell _ _).setCell _ _).setCell _ _).setCell _ _).setCell _ _).setCell _ _).setCell _ _ = W9
    intro hO hk
    obtain ⟨⟨q0, q1, q2, q3, q4, q5, q6, q7, q8, q9, q10, q11, q12, q13⟩, _⟩ := hO.all14
    refine bodyPost_ret (v := .tuple #[.agg #[.int .i64 0, .int .i64 0, .string ⟨#[]⟩, .int .i64 0, .int .i64 0, .int .i64 0, .int .i64 0, .int .i64 0, .int .i64 0, .slice none 0 0, .int .i64 0, .slice none 0 0, .int .i64 0, .int .i64 0], .int .i64 (L : Int), .int .i64 4]) (by simp [results, Tryz.results14, go_sem, q0, q1, q2, q3, q4, q5, q6, q7, q8, q9, q10, q11, q12, q13]) rfl ?_
    have hP := HHP.out
    rw [HL.out] at hP
    subst hP
    exact ⟨_, rfl, qryV.none_ _ _, below_at1 (HF.out.2.at_ hk (Nat.le_refl _)) (by omega)⟩
   have hl1z : ¬ (256 : Int) < (nn : Int) := by omega
   go_wp2_with fail
   refine HNd.out.mono ?_
   rintro e2 w90 ⟨rfl, k9⟩
   have HNt2 := Lib.hid (HNt.out w90 k9)
   obtain ⟨⟨v0, v1, v2, v3, v4, v5, v6, v7, v8, v9, v10, v11, v12, v13⟩, _⟩ := (HST.out.2.2.2.2.on k9).all14
   have HK9 := Lib.hid k9
   clear k9 HNt y0 y1 y2 y3 y4 y5 y6 y7 y8 y9 y10 y11 y12 y13
   by_cases hl2 : 16 < ns
   ·
    have hl2z : (16 : Int) < (ns : Int) := by omega
    go_wp2_with fail
    refine HNt2.out.mono ?_
    rintro e2 w91 ⟨rfl, k10⟩
    have HK10 := Lib.hid (HK9.out.trans (k10.mono HK9.out.size))
    clear k10 v0 v1 v2 v3 v4 v5 v6 v7 v8 v9 v10 v11 v12 v13
    have y0 := 0; have y1 := 0; have y2 := 0; have y3 := 0; have y4 := 0; have y5 := 0; have y6 := 0; have y7 := 0; have y8 := 0; have y9 := 0; have y10 := 0; have y11 := 0; have y12 := 0; have y13 := 0
    replace HHP := Lib.hid (by have := HHP.out; rwa [if_pos (.inr hl2)] at this)
    have hA := HST.out.1.on HK10.out
    have hat := HST.out.2.1.trans (At1.of_below HK10.out)
    obtain ⟨⟨z0, z1, z2, z3, z4, z5, z6, z7, z8, z9, z10, z11, z12, z13⟩, f0, f1, f2, f3, f4, f5, f6, f7, f8, f9, f10, f11, f12, f13⟩ := hA.all14
    have HF := Lib.hid (And.intro hA hat)
    clear hA hat y0 y1 y2 y3 y4 y5 y6 y7 y8 y9 y10 y11 y12 y13
    go_wp2_with fail
    obtain ⟨hO, hk⟩ := HF.out.1.put14 (x0 := .int .i64 0) (x1 := .int .i64 0) (x2 := .string ⟨#[]⟩) (x3 := .int .i64 0) (x4 := .int .i64 0) (x5 := .int .i64 0) (x6 := .int .i64 0) (x7 := .int .i64 0) (x8 := .int .i64 0) (x9 := .slice none 0 0) (x10 := .int .i64 0) (x11 := .slice none 0 0) (x12 := .int .i64 0) (x13 := .int .i64 0)
    clear z0 f0 z1 f1 z2 f2 z3 f3 z4 f4 z5 f5 z6 f6 z7 f7 z8 f8 z9 f9 z10 f10 z11 f11 z12 f12 z13 f13
    revert hO hk
    generalize (((((((((((((World.setCell _ _ _).setCell _ _).setCell _ _).setCell _ _).setCell _ _).setCell _ _).setCell _ _).setCell _ _).setCell _ _).setCell _ _).setCell _ _).setCell _ _).setCell _ _).setCell _ _ = W9
    intro hO hk
    obtain ⟨⟨q0, q1, q2, q3, q4, q5, q6, q7, q8, q9, q10, q11, q12, q13⟩, _⟩ := hO.all14
    refine bodyPost_ret (v := .tuple #[.agg #[.int .i64 0, .int .i64 0, .string ⟨#[]⟩, .int .i64 0, .int .i64 0, .int .i64 0, .int .i64 0, .int .i64 0, .int .i64 0, .slice none 0 0, .int .i64 0, .slice none 0 0, .int .i64 0, .int .i64 0], .int .i64 (L : Int), .int .i64 4]) (by simp [results, Tryz.results14, go_sem, q0, q1, q2, q3, q4, q5, q6, q7, q8, q9, q10, q11, q12, q13]) rfl ?_
    have hP := HHP.out
    rw [HL.out] at hP
    subst hP
    exact ⟨_, rfl, qryV.none_ _ _, below_at1 (HF.out.2.at_ hk (Nat.le_refl _)) (by omega)⟩
   have hl2z : ¬ (16 : Int) < (ns : Int) := by omega
   replace HHP := Lib.hid (by have := HHP.out; rwa [if_neg (fun h => h.elim hl1 hl2)] at this)
   go_wp2_with fail
   refine HNt2.out.mono ?_
   rintro e2 w91 ⟨rfl, k10⟩
   have HK10 := Lib.hid (HK9.out.trans (k10.mono HK9.out.size))
   clear k10 v0 v1 v2 v3 v4 v5 v6 v7 v8 v9 v10 v11 v12 v13
   have hA := HST.out.1.on HK10.out
   have hat := HST.out.2.1.trans (At1.of_below HK10.out)
   obtain ⟨⟨z0, z1, z2, z3, z4, z5, z6, z7, z8, z9, z10, z11, z12, z13⟩, f0, f1, f2, f3, f4, f5, f6, f7, f8, f9, f10, f11, f12, f13⟩ := hA.all14
   obtain ⟨⟨y0, y1, y2, y3, y4, y5, y6, y7, y8, y9, y10, y11, y12, y13⟩, _⟩ := (HST.out.2.2.2.2.on HK10.out).all14
   have HF := Lib.hid (And.intro hA (And.intro hat (And.intro (HST.out.2.2.1.on HK10.out) (HST.out.2.2.2.1.keep HK10.out.size (fun g hg hl => ⟨hg, HK10.out.block g hl⟩)))))
   clear hA hat
   go_wp2_with fail
   clear y0 y1 y2 y3 y4 y5 y6 y7 y8 y9 y10 y11 y12 y13
   obtain ⟨hO, hk⟩ := HF.out.1.put14 (x0 := .int .i64 kd) (x1 := .int .i64 n0) (x2 := .string s1_) (x3 := .int .i64 n2) (x4 := .int .i64 n3) (x5 := .int .i64 n4) (x6 := .int .i64 n5) (x7 := .int .i64 n6) (x8 := .int .i64 n7) (x9 := .slice A8 l8 c8) (x10 := .int .i64 vk) (x11 := .slice vA vl vc) (x12 := .int .i64 dy) (x13 := .int .i64 sc)
   clear z0 f0 z1 f1 z2 f2 z3 f3 z4 f4 z5 f5 z6 f6 z7 f7 z8 f8 z9 f9 z10 f10 z11 f11 z12 f12 z13 f13
   revert hO hk
   generalize (((((((((((((World.setCell _ _ _).setCell _ _).setCell _ _).setCell _ _).setCell _ _).setCell _ _).setCell _ _).setCell _ _).setCell _ _).setCell _ _).setCell _ _).setCell _ _).setCell _ _).setCell _ _ = W9
   intro hO hk
   obtain ⟨⟨q0, q1, q2, q3, q4, q5, q6, q7, q8, q9, q10, q11, q12, q13⟩, _⟩ := hO.all14
   refine bodyPost_ret (v := .tuple #[.agg #[.int .i64 kd, .int .i64 n0, .string s1_, .int .i64 n2, .int .i64 n3, .int .i64 n4, .int .i64 n5, .int .i64 n6, .int .i64 n7, .slice A8 l8 c8, .int .i64 vk, .slice vA vl vc, .int .i64 dy, .int .i64 sc], .int .i64 0, .int .i64 0]) (by simp [results, Tryz.results14, go_sem, q0, q1, q2, q3, q4, q5, q6, q7, q8, q9, q10, q11, q12, q13]) rfl ?_
   have hP := HHP.out
   subst hP
   obtain ⟨hvl, hv1, hv2⟩ := HV.out
   subst hvl
   refine ⟨_, rfl, ⟨[.int .i64 n0, .string s1_, .int .i64 n2, .int .i64 n3, .int .i64 n4, .int .i64 n5, .int .i64 n6, .int .i64 n7, .slice A8 l8 c8], vA, vc, rfl, rfl, ?_, ?_, hv1, hv2⟩, below_at1 (HF.out.2.1.at_ hk (Nat.le_refl _)) (by omega)⟩
   ·exact RegAt.keep hk.size (fun g hg hl => ⟨Nat.le_trans (by omega) (show w32.heap.size ≤ g from hg), hk.heap hl (fun e => by have hg9 : w32.heap.size ≤ g := hg; omega)⟩) _ _ HF.out.2.2.1
   ·exact IntsAt.keep HF.out.2.2.2 hk.size (fun g hg hl => ⟨Nat.le_trans (by omega) (show w42.heap.size ≤ g from hg), hk.heap hl (fun e => by have hg9 : w42.heap.size ≤ g := hg; omega)⟩)
  ·
   have hqq := HQQ.out
   rw [← hqq] at hq9
   simp only at hq9
   rw [hq9] at hb_
   obtain ⟨rfl, rfl, hb0⟩ := hb_
   have hP := HPR.out
   rw [hp9] at hP
   simp only at hP
   subst hP
   have kd := Below.drew (Below.refl w72.heap.size w72)
   have hJ0 : JZ r w.heap.size w72 a_ b_ w72.drew := ⟨At1.of_below kd, hA.on kd, (kd_cell q2), (kd_cell q3)⟩
   have HAT := Lib.hid hat
   clear hA hat hrd73 hQ hR1 hI1 hqq hq9 hp9 kd
   go_upto_region 17 with fail
   clear q2 q3
   refine wp_region_suffixJ (R := RT) (JZ r w.heap.size w72 a_ b_) 11 [Spec.eq (.agg #[.int .i64 0, .int .i64 0, .string ⟨#[]⟩, .int .i64 0, .int .i64 0, .int .i64 0, .int .i64 0, .int .i64 0, .int .i64 0, .slice none 0 0, .int .i64 0, .slice none 0 0, .int .i64 0, .int .i64 0]), Spec.eq (.pointer (some ⟨r, 0, none⟩)), Spec.eq (.pointer (some ⟨r, 0, none⟩)), Spec.eq (.pointer (some ⟨r, 2, none⟩)), Spec.eq (.int .i64 (a_ : Int)), Spec.eq (.pointer (some ⟨r, 0, none⟩)), Spec.eq (.pointer (some ⟨r, 0, none⟩)), Spec.eq (.pointer (some ⟨r, 3, none⟩)), Spec.eq (.int .i64 b_), Spec.eq undef, Spec.eq (.int .i64 (a_ : Int))]
     (by kernel_rfl) (by kernel_rfl) rfl (by kernel_rfl) (by kernel_rfl) hJ0 ?_ ?_
   ·
    refine RegStepsJ.cons ?_ ?_
    ·intro az wz hC hF hD K hK
     clear hF hD
     refine want_none rfl ?_
     go_simp
     exact hK _ _ hC (RT.refl _) rfl
    refine RegStepsJ.cons ?_ ?_
    ·intro az wz hC hF hD K hK
     have q5 : az.tmps[5]? = some (.pointer (some ⟨r, 0, none⟩)) := hF 5 rfl
     clear hF hD
     refine want_none rfl ?_
     go_simp
     exact hK _ _ hC (RT.refl _) rfl
    refine RegStepsJ.cons ?_ ?_
    ·intro az wz hC hF hD K hK
     obtain ⟨_, q49, rfl⟩ := dep hD 1 rfl rfl rfl rfl
     clear hF hD
     refine want_none rfl ?_
     go_simp
     exact hK _ _ hC (RT.refl _) rfl
    refine RegStepsJ.cons ?_ ?_
    ·intro az wz hC hF hD K hK
     obtain ⟨_, q50, rfl⟩ := dep hD 2 rfl rfl rfl rfl
     clear hF hD
     refine want_none rfl ?_
     go_simp
     exact hK _ _ hC (RT.refl _) rfl
    refine RegStepsJ.cons ?_ ?_
    ·intro az wz hC hF hD K hK
     obtain ⟨_, q51, rfl⟩ := dep hD 3 rfl rfl rfl rfl
     have c2_ := hC.2.2.1
     clear hF hD
     refine want_none rfl ?_
     go_simp
     exact hK _ _ hC (RT.refl _) rfl
    refine RegStepsJ.cons ?_ ?_
    ·intro az wz hC hF hD K hK
     have q5 : az.tmps[5]? = some (.pointer (some ⟨r, 0, none⟩)) := hF 5 rfl
     clear hF hD
     refine want_none rfl ?_
     go_simp
     exact hK _ _ hC (RT.refl _) rfl
    refine RegStepsJ.cons ?_ ?_
    ·intro az wz hC hF hD K hK
     obtain ⟨_, q53, rfl⟩ := dep hD 5 rfl rfl rfl rfl
     clear hF hD
     refine want_none rfl ?_
     go_simp
     exact hK _ _ hC (RT.refl _) rfl
    refine RegStepsJ.cons ?_ ?_
    ·intro az wz hC hF hD K hK
     obtain ⟨_, q54, rfl⟩ := dep hD 6 rfl rfl rfl rfl
     clear hF hD
     refine want_none rfl ?_
     go_simp
     exact hK _ _ hC (RT.refl _) rfl
    refine RegStepsJ.cons ?_ ?_
    ·intro az wz hC hF hD K hK
     obtain ⟨_, q55, rfl⟩ := dep hD 7 rfl rfl rfl rfl
     have c3_ := hC.2.2.2
     clear hF hD
     refine want_none rfl ?_
     go_simp
     exact hK _ _ hC (RT.refl _) rfl
    refine RegStepsJ.cons ?_ ?_
    ·intro az wz hC hF hD K hK
     have q2 : az.tmps[2]? = some (.pointer (some ⟨w.heap.size, 0, none⟩)) := hF 2 rfl
     obtain ⟨_, q48, rfl⟩ := dep hD 0 rfl rfl rfl rfl
     clear hF hD
     obtain ⟨kk, ho, c2_, c3_⟩ := hC
     obtain ⟨⟨z0, z1, z2, z3, z4, z5, z6, z7, z8, z9, z10, z11, z12, z13⟩, f0, f1, f2, f3, f4, f5, f6, f7, f8, f9, f10, f11, f12, f13⟩ := ho.all14
     obtain ⟨hO9, hk9⟩ := ho.put14 (x0 := .int .i64 0) (x1 := .int .i64 0) (x2 := .string ⟨#[]⟩) (x3 := .int .i64 0) (x4 := .int .i64 0) (x5 := .int .i64 0) (x6 := .int .i64 0) (x7 := .int .i64 0) (x8 := .int .i64 0) (x9 := .slice none 0 0) (x10 := .int .i64 0) (x11 := .slice none 0 0) (x12 := .int .i64 0) (x13 := .int .i64 0)
     have HH := Lib.hid (show JZ r w.heap.size w72 a_ b_ _ from ⟨kk.trans hk9, hO9, (World.cell?_of_block (a := ⟨r, 2, none⟩) (hk9.heap (heap_of c2_) gA.symm)).trans c2_, (World.cell?_of_block (a := ⟨r, 3, none⟩) (hk9.heap (heap_of c3_) gA.symm)).trans c3_⟩)
     clear ho kk c2_ c3_ hO9 hk9
     refine want_none rfl ?_
     go_simp
     exact hK undef _ HH.out trivial rfl
    refine RegStepsJ.cons ?_ ?_
    ·intro az wz hC hF hD K hK
     obtain ⟨_, q52, rfl⟩ := dep hD 4 rfl rfl rfl rfl
     clear hF hD
     refine want_none rfl ?_
     go_simp
     exact hK _ _ hC (RT.refl _) rfl
    exact RegStepsJ.nil
   intro w70 hJ7
   rintro _ rfl _ rfl _ rfl _ rfl _ rfl _ rfl _ rfl _ rfl _ rfl _ hs9 _ rfl
   simp only [List.take, FinOK, Act.put, List.setIfInBounds_toArray, List.set_cons_zero, List.set_cons_succ]
   simp only [List.drop, TailOK]
   obtain ⟨⟨q0, q1, q2, q3, q4, q5, q6, q7, q8, q9, q10, q11, q12, q13⟩, _⟩ := hJ7.2.1.all14
   have HJ7 := Lib.hid hJ7
   clear hJ7 hJ0
   intro K hK
   refine want_none rfl ?_
   go_simp
   refine hK _ _ ?_
   clear hK K
   go_wp2_with fail
   refine bodyPost_ret (v := .tuple #[.agg #[.int .i64 0, .int .i64 0, .string ⟨#[]⟩, .int .i64 0, .int .i64 0, .int .i64 0, .int .i64 0, .int .i64 0, .int .i64 0, .slice none 0 0, .int .i64 0, .slice none 0 0, .int .i64 0, .int .i64 0], .int .i64 (a_ : Int), .int .i64 b_]) (by simp [results, Tryz.results14, go_sem, q0, q1, q2, q3, q4, q5, q6, q7, q8, q9, q10, q11, q12, q13]) rfl ?_
   exact ⟨_, rfl, qryV.none_ _ _, below_at1 (HAT.out.at_ HJ7.out.1 (Nat.le_refl _)) (by omega)⟩
end Go.Proofs.YtmlpibdincfgbaaGreatDoor
