/-
  Chapter 38's reference: Has, view.
-/
import Derived.Test.YtmlpibdincfgbaaGreatDoorM7
import Derived.Test.YtmlpibdincfgbaaGreatDoorK17
namespace Qy
end Qy
namespace Go.Proofs.YtmlpibdincfgbaaGreatDoor
open Go.RowKit
set_option linter.unusedSimpArgs false
set_option linter.unusedVariables false

set_option maxRecDepth 100000 in
set_option maxHeartbeats 1600000 in
theorem Has_any {w : World} {S : Nat → Prop} {A : Option Addr} {c : Nat} {l : List Int} (h : IntsAt w S A l) (n : Int) (hl : l.length ≤ 4000000000000000000) : Calls Tryz.prog 80 #[.slice A l.length c, .int .i64 n] w fun e w' => e = .returned (.bool (decide (n ∈ l))) ∧ w' = w := by
 obtain ⟨m, hm⟩ : ∃ m, l.length = m := ⟨_, rfl⟩
 have HM := Lib.hid hm
 have HA : Hid (∀ i z, l[i]? = some z → ∃ g off, A = some ⟨g, off, none⟩ ∧ w.cell? ⟨g, off + i, none⟩ = some (.int .i64 z)) := Lib.hid fun i z hz => by
  rcases h with h | ⟨g, off, h1, h2, h3, h4⟩
  ·subst h; simp at hz
  ·exact ⟨g, off, h1, h4 i z hz⟩
 rw [hm] at hl ⊢
 clear hm h
 go_enter Tryz.func80, Tryz.ntmps80
 go_wp2_with fail
 go_loopw [5] (fun s wr => ∃ i : Nat, i ≤ m ∧ s = .int .i64 (i : Int) ∧ n ∉ l.take i ∧ wr = w) (fun s _ => m - (intOf s).toNat)
 case atStart => exact ⟨0, by omega, rfl, by simp, rfl⟩
 case round =>
  obtain ⟨i, hi, rfl, hno, rfl⟩ := hrel
  rcases Nat.lt_or_eq_of_le hi with hlt | heq
  ·have i0 : (0 : Int) ≤ (i : Int) := by omega
   have i1 : (i : Int) < (m : Int) := by omega
   have hlm := HM.out
   obtain ⟨z, hz⟩ : ∃ z, l[i]? = some z := ⟨_, List.getElem?_eq_getElem (by omega)⟩
   obtain ⟨g, off, rfl, hc⟩ := HA.out i z hz
   have HZ := Lib.hid hz
   have HN := Lib.hid hno
   have HI := Lib.hid (show n = z → n ∈ l from fun e => e ▸ List.mem_of_getElem? hz)
   clear hz hno hlm
   by_cases e : z = n
   ·have HE := Lib.hid (decide_eq_true (HI.out e.symm))
    go_wp2
    go_returns
    exact ⟨by rw [HE.out]; rfl, rfl⟩
   ·have HT : Hid (n ∉ l.take (i + 1)) := Lib.hid (by
     rw [List.take_add_one, HZ.out]
     simp only [Option.toList_some, List.mem_append, List.mem_singleton, not_or]
     exact ⟨HN.out, fun e2 => e e2.symm⟩)
    go_wp2_with fail
    go_roundw
    case rel => exact ⟨i + 1, by omega, by go_num, HT.out, by first | rfl | trivial⟩
    case measure => simp [intOf]; omega
  ·subst heq
   have hlm := HM.out
   rw [List.take_of_length_le (by omega)] at hno
   have HE := Lib.hid (decide_eq_false hno)
   clear hlm hno
   go_wp2
   go_returns
   exact ⟨by rw [HE.out]; rfl, rfl⟩
set_option maxRecDepth 100000 in
set_option maxHeartbeats 6400000 in
theorem rView (B r f : Nat) (s : Qy.St) (w : World) (h : RfAt B r s w) (hf : 1 ≤ f ∧ (s.2 = none → s.1.length < f)) : Calls Tryz.prog 42 #[.pointer (some ⟨r, 0, none⟩)] w (EndF B r w (Qy.rView f s) (viewV w)) := by
 have hrw := h.lt
 have hBw := h.2.1
 have HF1 := Lib.hid hf
 have HGood := Lib.hid h.good
 obtain ⟨RES, hRES⟩ : ∃ RES, Qy.rView f s = RES := ⟨_, rfl⟩
 rw [hRES]
 unfold Qy.rView at hRES
 have HTake : Hid (∀ t, t ≠ [32] → ∀ s u, RfAt B r s u → Calls Tryz.prog 75 #[.pointer (some ⟨r, 0, none⟩), .string (bs t)] u fun e w' => e = .returned (.bool (decide (Qy.see s = t))) ∧ RfAt B r (Qy.takeS t s) w' ∧ At1 r u w') := Lib.hid fun t ht s u k => rTake B r s t ht u k
 have HFail : Hid (∀ er, er ≠ 0 → ∀ s u, RfAt B r s u → Calls Tryz.prog 76 #[.pointer (some ⟨r, 0, none⟩), .int .i64 er] u fun e w' => e = .returned (.tuple #[]) ∧ At1 r u w' ∧ RfAt B r (Qy.failS er s) w') := Lib.hid fun er he s u k => rFail B r s er he u k
 have HNum : Hid (∀ s u, RfAt B r s u → Calls Tryz.prog 40 #[.pointer (some ⟨r, 0, none⟩), .int .i64 0, .int .i64 63] u (EndF B r u (Qy.numS 0 63 s) intV)) := Lib.hid fun s u k => rNumber B r s 0 63 u k
 have HNeed : Hid (∀ t, t ≠ [32] → ∀ s u, RfAt B r s u → Calls Tryz.prog 39 #[.pointer (some ⟨r, 0, none⟩), .string (bs t)] u fun e w' => e = .returned (.tuple #[]) ∧ At1 r u w' ∧ RfAt B r (Qy.needS t s) w') := Lib.hid fun t ht s u k => rNeed B r s t ht u k
 have HSI : Hid (∀ s u, RfAt B r s u → Calls Tryz.prog 78 #[.pointer (some ⟨r, 0, none⟩)] u fun e w' => e = .returned (.string (bs (Qy.see s))) ∧ Below u.heap.size u w') := Lib.hid fun s u k => rSee B r s u k
 have HInt : Hid (∀ t, Qy.Shape t → ∀ u, Calls Tryz.prog 77 #[.string (bs t)] u fun e w' => e = .returned (intR t) ∧ w' = u) := Lib.hid fun t ht u => rInt t ht u
 have HRES := Lib.hid hRES
 clear hf hRES
 go_enter Tryz.func42, Tryz.ntmps42
 go_upto_region 1 with fail
 refine wp_new1 fun W0 hA hB => ?_
 have gA : w.heap.size ≠ r := by omega
 have hrd0 := h.on hB
 have hat := At1.of_below (r := r) hB
 clear hB h
 by_cases c0 : Qy.see s = [99, 111, 110, 116, 114, 111, 108]
 ·
  replace HRES := Lib.hid (by have := HRES.out; rwa [if_pos c0] at this)
  have HT23 : Hid (∀ u, RfAt B r s u → Calls Tryz.prog 75 #[.pointer (some ⟨r, 0, none⟩), .string (bs [99, 111, 110, 116, 114, 111, 108])] u fun e w' => e = .returned (.bool true) ∧ RfAt B r (Qy.adv s) w' ∧ At1 r u w') := Lib.hid fun u k => by
   have := HTake.out [99, 111, 110, 116, 114, 111, 108] (by decide) s u k
   rwa [decide_eq_true c0, show Qy.takeS [99, 111, 110, 116, 114, 111, 108] s = Qy.adv s by unfold Qy.takeS; rw [if_pos c0, if_neg (by decide)]] at this
  go_wp2_with fail
  refine (HT23.out _ hrd0).mono ?_
  rintro e2 w21 ⟨rfl, hrd22, k_⟩
  replace hA := hA.at1 k_ gA
  replace hat := hat.trans k_
  clear k_ hrd0
  clear HT23
  clear c0
  obtain ⟨z0, z1, f0, f1⟩ := hA.all2
  have HF := Lib.hid (And.intro hA (And.intro hat hrd22))
  clear hA hat hrd22
  go_wp2_with fail
  obtain ⟨hO, hk⟩ := HF.out.1.put2' (x0 := .int .i64 2) (x1 := .slice none 0 0)
  clear z0 z1 f0 f1
  revert hO hk
  generalize ((World.setCell _ _ _).setCell _ _) = W9
  intro hO hk
  obtain ⟨q0, q1, _⟩ := hO.all2
  refine bodyPost_ret (v := .agg #[.int .i64 2, .slice none 0 0]) (by simp [results, Tryz.results42, go_sem, q0, q1]) rfl ?_
  have hres9 := HRES.out
  subst hres9
  exact ⟨HF.out.2.1.at_ hk (Nat.le_refl _), ⟨_, rfl, _, _, rfl, .inl rfl, Nat.le_refl _, Nat.zero_le _⟩, HF.out.2.2.at_ hk hBw⟩
 replace HRES := Lib.hid (by have := HRES.out; rwa [if_neg c0] at this)
 have HT23 : Hid (∀ u, RfAt B r s u → Calls Tryz.prog 75 #[.pointer (some ⟨r, 0, none⟩), .string (bs [99, 111, 110, 116, 114, 111, 108])] u fun e w' => e = .returned (.bool false) ∧ RfAt B r s w' ∧ At1 r u w') := Lib.hid fun u k => by
  have := HTake.out [99, 111, 110, 116, 114, 111, 108] (by decide) s u k
  rwa [decide_eq_false c0, show Qy.takeS [99, 111, 110, 116, 114, 111, 108] s = s by unfold Qy.takeS; rw [if_neg c0]] at this
 go_wp2_with fail
 refine (HT23.out _ hrd0).mono ?_
 rintro e2 w21 ⟨rfl, hrd22, k_⟩
 replace hA := hA.at1 k_ gA
 replace hat := hat.trans k_
 clear k_ hrd0
 clear HT23
 clear c0
 by_cases c0 : Qy.see s = [111, 102, 102, 105, 99, 101]
 ·
  replace HRES := Lib.hid (by have := HRES.out; rwa [if_pos c0] at this)
  have HT26 : Hid (∀ u, RfAt B r s u → Calls Tryz.prog 75 #[.pointer (some ⟨r, 0, none⟩), .string (bs [111, 102, 102, 105, 99, 101])] u fun e w' => e = .returned (.bool true) ∧ RfAt B r (Qy.adv s) w' ∧ At1 r u w') := Lib.hid fun u k => by
   have := HTake.out [111, 102, 102, 105, 99, 101] (by decide) s u k
   rwa [decide_eq_true c0, show Qy.takeS [111, 102, 102, 105, 99, 101] s = Qy.adv s by unfold Qy.takeS; rw [if_pos c0, if_neg (by decide)]] at this
  go_wp2_with fail
  refine (HT26.out _ hrd22).mono ?_
  rintro e2 w24 ⟨rfl, hrd25, k_⟩
  replace hA := hA.at1 k_ gA
  replace hat := hat.trans k_
  clear k_ hrd22
  clear HT26
  clear c0
  obtain ⟨p2, hp2⟩ : ∃ p, Qy.numS 0 63 (Qy.adv s) = p := ⟨_, rfl⟩
  replace HRES := Lib.hid (by have := HRES.out; simp only [hp2] at this; exact this)
  have HN := Lib.hid fun u k => HNum.out (Qy.adv s) u k
  rw [hp2] at HN
  clear hp2
  obtain ⟨n, s2⟩ := p2
  go_wp2_with fail
  refine (HN.out _ hrd25).mono ?_
  rintro e2 w27 ⟨k_, ⟨v, rfl, rfl⟩, hrd28⟩
  replace hA := hA.at1 k_ gA
  replace hat := hat.trans k_
  clear k_ hrd25
  have hsz6 := hA.lt
  have kn := below_new w27 (.cells #[.int .i64 n] 3)
  have hQ := Own.new w27 3 [.int .i64 n]
  have hA2 := hA.on kn
  have hrd2 := hrd28.on kn
  have hat2 := hat.trans (At1.of_below kn)
  clear hA hrd28 hat kn
  go_wp2_with (refine wpList_new1 ?_)
  intro W5 eW
  change W5 = w27.alloc (.cells #[.int .i64 n] 3) at eW
  change Own (w27.alloc (.cells #[.int .i64 n] 3)) _ _ _ at hQ
  rw [← eW] at hA2 hrd2 hat2 hQ
  clear eW
  obtain ⟨z0, z1, f0, f1⟩ := hA2.all2
  have HF := Lib.hid (And.intro hA2 (And.intro hat2 (And.intro hrd2 hQ)))
  clear hA2 hat2 hrd2 hQ
  go_wp2_with fail
  obtain ⟨hO, hk⟩ := HF.out.1.put2' (x0 := .int .i64 0) (x1 := .slice (some ⟨w27.heap.size, 0, none⟩) 1 1)
  clear z0 z1 f0 f1
  revert hO hk
  generalize ((World.setCell _ _ _).setCell _ _) = W9
  intro hO hk
  obtain ⟨q0, q1, _⟩ := hO.all2
  refine bodyPost_ret (v := .agg #[.int .i64 0, .slice (some ⟨w27.heap.size, 0, none⟩) 1 1]) (by simp [results, Tryz.results42, go_sem, q0, q1]) rfl ?_
  have hres9 := HRES.out
  subst hres9
  exact ⟨HF.out.2.1.at_ hk (Nat.le_refl _), ⟨_, rfl, _, _, rfl, .inr ⟨_, 0, rfl, Nat.le_of_lt hsz6, (HF.out.2.2.2.at1 hk (Nat.ne_of_gt hsz6)).lt, fun i z hz => by match i, hz with | 0, hz => (simp only [List.getElem?_cons_zero, Option.some.injEq] at hz; subst hz; exact (HF.out.2.2.2.at1 hk (Nat.ne_of_gt hsz6)).c0) | i + 1, hz => simp at hz⟩, Nat.le_refl _, by unfold maxLen; simp⟩, HF.out.2.2.1.at_ hk hBw⟩
 replace HRES := Lib.hid (by have := HRES.out; rwa [if_neg c0] at this)
 have HT26 : Hid (∀ u, RfAt B r s u → Calls Tryz.prog 75 #[.pointer (some ⟨r, 0, none⟩), .string (bs [111, 102, 102, 105, 99, 101])] u fun e w' => e = .returned (.bool false) ∧ RfAt B r s w' ∧ At1 r u w') := Lib.hid fun u k => by
  have := HTake.out [111, 102, 102, 105, 99, 101] (by decide) s u k
  rwa [decide_eq_false c0, show Qy.takeS [111, 102, 102, 105, 99, 101] s = s by unfold Qy.takeS; rw [if_neg c0]] at this
 go_wp2_with fail
 refine (HT26.out _ hrd22).mono ?_
 rintro e2 w24 ⟨rfl, hrd25, k_⟩
 replace hA := hA.at1 k_ gA
 replace hat := hat.trans k_
 clear k_ hrd22
 clear HT26
 clear c0
 go_upto_region 8 with fail
 refine wp_new1 fun W1 hO3 kn => ?_
 obtain ⟨g3, hg3⟩ : ∃ g3, w24.heap.size = g3 := ⟨_, rfl⟩
 rw [hg3] at hO3 ⊢
 have hsz6 := hA.lt
 have g23 : w.heap.size < g3 := by omega
 have g3r : g3 ≠ r := by omega
 have g3r1 : r < g3 + 1 := by omega
 have hrd1 := hrd25.on kn
 replace hA := hA.on kn
 replace hat := hat.trans (At1.of_below kn)
 clear kn hrd25 hg3 hsz6
 obtain ⟨s1, hs1⟩ : ∃ s1, Qy.needS [99, 111, 97, 108, 105, 116, 105, 111, 110] s = s1 := ⟨_, rfl⟩
 replace HRES := Lib.hid (by have := HRES.out; simp only [hs1] at this; exact this)
 have HN := Lib.hid fun u k => HNeed.out [99, 111, 97, 108, 105, 116, 105, 111, 110] (by decide) s u k
 rw [hs1] at HN
 have hfo1 : 1 ≤ f ∧ (s1.2 = none → s1.1.length < f) := ⟨HF1.out.1, fun e => by
  have h0 : s.2 = none := by
   obtain ⟨l_, o_⟩ := s
   cases o_ with
   | none => rfl
   | some b_ => rw [Qy.needS_bad (by decide)] at hs1; rw [← hs1] at e; cases e
  have h1 := HF1.out.2 h0
  have h2 := Qy.needS_le [99, 111, 97, 108, 105, 116, 105, 111, 110] s
  rw [hs1] at h2
  omega⟩
 have HFo := Lib.hid hfo1
 clear hs1 hfo1
 go_wp2_with fail
 refine (HN.out _ hrd1).mono ?_
 rintro e2 w27 ⟨rfl, k_, hrd28⟩
 replace hA := hA.at1 k_ gA
 replace hO3 := hO3.at1 k_ g3r
 replace hat := hat.trans k_
 clear k_ hrd1
 have HST := Lib.hid (And.intro hA (And.intro hat (And.intro hO3 hrd28)))
 clear hA hat hO3 hrd28
 go_wp2_with fail
 go_loopw [] (fun wr => ∃ (f' : Nat) (acc : List Int) (s' : Qy.St) (A : Option Addr) (c : Nat), At1 r w wr ∧ Own wr w.heap.size 34 [.int .i64 0, .slice none 0 0] ∧ Own wr g3 34 [.int .i64 1, .slice A acc.length c] ∧ wr.ownsRow (g3 + 1) 3 1 (.slice A acc.length c) acc.length (acc.map i64) ∧ RfAt B r s' wr ∧ acc.length ≤ 8 ∧ (1 ≤ f' ∧ (s'.2 = none → s'.1.length < f')) ∧ ((1, (Qy.rOff f' acc s').1), (Qy.rOff f' acc s').2) = RES) (fun wr => aheadF r wr)
 case atStart => exact ⟨f, [], s1, none, 0, HST.out.2.1, HST.out.1, HST.out.2.2.1, World.ownsRow_nil _ _ _ 1, HST.out.2.2.2, Nat.zero_le _, HFo.out, HRES.out⟩
 case round =>
  obtain ⟨f', acc, s', A, c, hat, hA, hO3, hrow, hrd, ha8, hfl, hres⟩ := hrel
  obtain ⟨f', rfl⟩ : ∃ f9, f' = f9 + 1 := ⟨f' - 1, by omega⟩
  rw [Qy.rOff] at hres
  replace HRES := Lib.hid hres
  clear hres
  have hlen := hrd.len
  have HGd := Lib.hid hrd.good
  obtain ⟨n_, i_, g_, off_, c_, a_, b_, hl_, hi_, hgr_, hgl_, hO_, c8_, c9_, hb_, hA_, _⟩ := hrd.cells
  have q3_ := hO_.cell 3
  change wr.cell? ⟨r, 3, none⟩ = some (.int .i64 b_) at q3_
  clear hO_ c8_ c9_ hA_ hgr_ hgl_ hi_ hl_
  cases hso : s'.2 with
  | some y =>
   rw [hso] at hb_
   obtain ⟨x_, er_⟩ := y
   obtain ⟨_, rfl, hb0⟩ := hb_
   replace HRES := Lib.hid (by have := HRES.out; rwa [if_pos (by rw [hso]; simp)] at this)
   clear hso hlen hfl ha8
   obtain ⟨y0, y1, _⟩ := hO3.all2
   obtain ⟨A3, c3, hsl, _, h3a, h3b, hints⟩ := owns_ints hrow
   cases hsl
   have HI := Lib.hid (And.intro hints (And.intro h3a h3b))
   obtain ⟨z0, z1, f0, f1⟩ := hA.all2
   have HF := Lib.hid (And.intro hA (And.intro hat hrd))
   clear hA hat hrd hO3 hrow hints h3a h3b 
   go_wp2_with fail
   clear y0 y1
   obtain ⟨hO, hk⟩ := HF.out.1.put2' (x0 := .int .i64 1) (x1 := .slice A acc.length c)
   clear z0 z1 f0 f1
   revert hO hk
   generalize ((World.setCell _ _ _).setCell _ _) = W9
   intro hO hk
   obtain ⟨q0, q1, _⟩ := hO.all2
   refine bodyPost_ret (v := .agg #[.int .i64 1, .slice A acc.length c]) (by simp [results, Tryz.results42, go_sem, q0, q1]) rfl ?_
   have hres9 := HRES.out
   subst hres9
   exact ⟨HF.out.2.1.at_ hk (Nat.le_refl _), ⟨_, rfl, _, _, rfl, IntsAt.keep HI.out.1 hk.size (fun g hg hl => ⟨Nat.le_trans (Nat.le_of_lt g23) (Nat.le_of_succ_le hg), hk.heap hl (fun e => by have hg9 : g3 + 1 ≤ g := hg; omega)⟩), HI.out.2.1, HI.out.2.2⟩, HF.out.2.2.at_ hk hBw⟩
  | none =>
   rw [hso] at hb_
   obtain rfl : b_ = 0 := hb_
   replace HRES := Lib.hid (by have := HRES.out; rwa [if_neg (by rw [hso]; simp)] at this)
   have HFl := Lib.hid (hfl.2 hso)
   obtain ⟨tx, htx⟩ : ∃ tx, Qy.see s' = tx := ⟨_, rfl⟩
   have HTx := Lib.hid htx
   have HSe := Lib.hid fun u k => HSI.out s' u k
   have HIt := Lib.hid fun u => HInt.out (Qy.see s') (Qy.see_shape HGd.out) u
   rw [htx] at HSe HIt
   replace HRES := Lib.hid (by have := HRES.out; rwa [htx] at this)
   have HSo := Lib.hid hso
   clear htx hfl hso
   go_wp2_with fail
   clear q3_
   refine (HSe.out _ hrd).mono ?_
   rintro e2 w2 ⟨rfl, k_⟩
   replace hA := hA.on k_
   replace hO3 := hO3.on k_
   replace hrow := owns_at1 hrow (At1.of_below (r := r) k_) g3r1
   replace hat := hat.trans (At1.of_below k_)
   have hrd2 := hrd.on k_
   clear k_ hrd
   obtain ⟨ok, hok⟩ : ∃ ok, Qy.numOK tx = ok := ⟨_, rfl⟩
   unfold intR at HIt
   rw [hok] at HIt
   cases ok
   ·
    simp only [Bool.false_eq_true, if_false] at HIt
    replace HRES := Lib.hid (by have := HRES.out; rwa [if_pos (.inl hok)] at this)
    clear hok
    obtain ⟨A3, c3, hsl, _, h3a, h3b, hints⟩ := owns_ints hrow
    cases hsl
    have HC := Lib.hid (Has_any (c := c) hints 0 (by omega))
    clear hints h3a h3b
    have q1 := hO3.c1
    have HN2 := Lib.hid fun u k => HNum.out s' u k
    obtain ⟨p2, hp2⟩ : ∃ p, Qy.numS 0 63 s' = p := ⟨_, rfl⟩
    replace HRES := Lib.hid (by have := HRES.out; simp only [hp2] at this; exact this)
    rw [hp2] at HN2
    clear hp2
    obtain ⟨n2, s2⟩ := p2
    go_wp2_with fail
    refine (HIt.out _).mono ?_
    rintro e2 w3 ⟨rfl, e_⟩
    subst e_
    go_wp2_with fail
    refine HC.out.mono ?_
    rintro e2 w4 ⟨rfl, e_⟩
    subst e_
    clear q1
    go_wp2_with fail
    refine (HN2.out _ hrd2).mono ?_
    rintro e2 w29 ⟨k_, ⟨v, rfl, rfl⟩, hrd30⟩
    replace hA := hA.at1 k_ gA
    replace hO3 := hO3.at1 k_ g3r
    replace hrow := owns_at1 hrow k_ g3r1
    replace hat := hat.trans k_
    clear k_ hrd2
    obtain ⟨y0, y1, _⟩ := hO3.all2
    obtain ⟨A3, c3, hsl, _, h3a, h3b, hints⟩ := owns_ints hrow
    cases hsl
    have HI := Lib.hid (And.intro hints (And.intro h3a h3b))
    obtain ⟨z0, z1, f0, f1⟩ := hA.all2
    have HF := Lib.hid (And.intro hA (And.intro hat hrd30))
    clear hA hat hrd30 hO3 hrow hints h3a h3b hlen ha8
    go_wp2_with fail
    clear y0 y1
    obtain ⟨hO, hk⟩ := HF.out.1.put2' (x0 := .int .i64 1) (x1 := .slice A acc.length c)
    clear z0 z1 f0 f1
    revert hO hk
    generalize ((World.setCell _ _ _).setCell _ _) = W9
    intro hO hk
    obtain ⟨q0, q1, _⟩ := hO.all2
    refine bodyPost_ret (v := .agg #[.int .i64 1, .slice A acc.length c]) (by simp [results, Tryz.results42, go_sem, q0, q1]) rfl ?_
    have hres9 := HRES.out
    subst hres9
    exact ⟨HF.out.2.1.at_ hk (Nat.le_refl _), ⟨_, rfl, _, _, rfl, IntsAt.keep HI.out.1 hk.size (fun g hg hl => ⟨Nat.le_trans (Nat.le_of_lt g23) (Nat.le_of_succ_le hg), hk.heap hl (fun e => by have hg9 : g3 + 1 ≤ g := hg; omega)⟩), HI.out.2.1, HI.out.2.2⟩, HF.out.2.2.at_ hk hBw⟩
   ·
    simp only [if_true] at HIt
    obtain ⟨V, hV⟩ : ∃ V, Qy.numV tx = V := ⟨_, rfl⟩
    rw [hV] at HIt
    replace HRES := Lib.hid (by have := HRES.out; rwa [hV, hok] at this)
    have hsee := Qy.see_ok (s := s') (by rw [HTx.out]; exact hok)
    have HSee := Lib.hid hsee
    clear hV hok hsee
    obtain ⟨A3, c3, hsl, _, h3a, h3b, hints⟩ := owns_ints hrow
    cases hsl
    have HC := Lib.hid (Has_any (c := c) hints V (by omega))
    clear hints h3a h3b
    have q1 := hO3.c1
    by_cases h1 : V < 0
    ·
     replace HRES := Lib.hid (by have := HRES.out; rwa [if_pos (.inr (.inl h1))] at this)
     have HN2 := Lib.hid fun u k => HNum.out s' u k
     obtain ⟨p2, hp2⟩ : ∃ p, Qy.numS 0 63 s' = p := ⟨_, rfl⟩
     replace HRES := Lib.hid (by have := HRES.out; simp only [hp2] at this; exact this)
     rw [hp2] at HN2
     clear hp2
     obtain ⟨n2, s2⟩ := p2
     go_wp2_with fail
     refine (HIt.out _).mono ?_
     rintro e2 w3 ⟨rfl, e_⟩
     subst e_
     go_wp2_with fail
     refine HC.out.mono ?_
     rintro e2 w4 ⟨rfl, e_⟩
     subst e_
     clear q1
     go_wp2_with fail
     refine (HN2.out _ hrd2).mono ?_
     rintro e2 w29 ⟨k_, ⟨v, rfl, rfl⟩, hrd30⟩
     replace hA := hA.at1 k_ gA
     replace hO3 := hO3.at1 k_ g3r
     replace hrow := owns_at1 hrow k_ g3r1
     replace hat := hat.trans k_
     clear k_ hrd2
     obtain ⟨y0, y1, _⟩ := hO3.all2
     obtain ⟨A3, c3, hsl, _, h3a, h3b, hints⟩ := owns_ints hrow
     cases hsl
     have HI := Lib.hid (And.intro hints (And.intro h3a h3b))
     obtain ⟨z0, z1, f0, f1⟩ := hA.all2
     have HF := Lib.hid (And.intro hA (And.intro hat hrd30))
     clear hA hat hrd30 hO3 hrow hints h3a h3b hlen ha8
     go_wp2_with fail
     clear y0 y1
     obtain ⟨hO, hk⟩ := HF.out.1.put2' (x0 := .int .i64 1) (x1 := .slice A acc.length c)
     clear z0 z1 f0 f1
     revert hO hk
     generalize ((World.setCell _ _ _).setCell _ _) = W9
     intro hO hk
     obtain ⟨q0, q1, _⟩ := hO.all2
     refine bodyPost_ret (v := .agg #[.int .i64 1, .slice A acc.length c]) (by simp [results, Tryz.results42, go_sem, q0, q1]) rfl ?_
     have hres9 := HRES.out
     subst hres9
     exact ⟨HF.out.2.1.at_ hk (Nat.le_refl _), ⟨_, rfl, _, _, rfl, IntsAt.keep HI.out.1 hk.size (fun g hg hl => ⟨Nat.le_trans (Nat.le_of_lt g23) (Nat.le_of_succ_le hg), hk.heap hl (fun e => by have hg9 : g3 + 1 ≤ g := hg; omega)⟩), HI.out.2.1, HI.out.2.2⟩, HF.out.2.2.at_ hk hBw⟩
    by_cases h2 : 63 < V
    ·
     replace HRES := Lib.hid (by have := HRES.out; rwa [if_pos (.inr (.inr h2))] at this)
     have h1z : ¬ V < 0 := h1
     have HN2 := Lib.hid fun u k => HNum.out s' u k
     obtain ⟨p2, hp2⟩ : ∃ p, Qy.numS 0 63 s' = p := ⟨_, rfl⟩
     replace HRES := Lib.hid (by have := HRES.out; simp only [hp2] at this; exact this)
     rw [hp2] at HN2
     clear hp2
     obtain ⟨n2, s2⟩ := p2
     go_wp2_with fail
     refine (HIt.out _).mono ?_
     rintro e2 w3 ⟨rfl, e_⟩
     subst e_
     go_wp2_with fail
     refine HC.out.mono ?_
     rintro e2 w4 ⟨rfl, e_⟩
     subst e_
     clear q1
     go_wp2_with fail
     refine (HN2.out _ hrd2).mono ?_
     rintro e2 w29 ⟨k_, ⟨v, rfl, rfl⟩, hrd30⟩
     replace hA := hA.at1 k_ gA
     replace hO3 := hO3.at1 k_ g3r
     replace hrow := owns_at1 hrow k_ g3r1
     replace hat := hat.trans k_
     clear k_ hrd2
     obtain ⟨y0, y1, _⟩ := hO3.all2
     obtain ⟨A3, c3, hsl, _, h3a, h3b, hints⟩ := owns_ints hrow
     cases hsl
     have HI := Lib.hid (And.intro hints (And.intro h3a h3b))
     obtain ⟨z0, z1, f0, f1⟩ := hA.all2
     have HF := Lib.hid (And.intro hA (And.intro hat hrd30))
     clear hA hat hrd30 hO3 hrow hints h3a h3b hlen ha8
     go_wp2_with fail
     clear y0 y1
     obtain ⟨hO, hk⟩ := HF.out.1.put2' (x0 := .int .i64 1) (x1 := .slice A acc.length c)
     clear z0 z1 f0 f1
     revert hO hk
     generalize ((World.setCell _ _ _).setCell _ _) = W9
     intro hO hk
     obtain ⟨q0, q1, _⟩ := hO.all2
     refine bodyPost_ret (v := .agg #[.int .i64 1, .slice A acc.length c]) (by simp [results, Tryz.results42, go_sem, q0, q1]) rfl ?_
     have hres9 := HRES.out
     subst hres9
     exact ⟨HF.out.2.1.at_ hk (Nat.le_refl _), ⟨_, rfl, _, _, rfl, IntsAt.keep HI.out.1 hk.size (fun g hg hl => ⟨Nat.le_trans (Nat.le_of_lt g23) (Nat.le_of_succ_le hg), hk.heap hl (fun e => by have hg9 : g3 + 1 ≤ g := hg; omega)⟩), HI.out.2.1, HI.out.2.2⟩, HF.out.2.2.at_ hk hBw⟩
    replace HRES := Lib.hid (by have := HRES.out; rwa [if_neg (fun h => h.elim (fun h => absurd h (by decide)) (fun h => h.elim h1 h2))] at this)
    have h1z : ¬ V < 0 := h1
    by_cases hm : V ∈ acc
    ·
     rw [decide_eq_true hm] at HC
     replace HRES := Lib.hid (by have := HRES.out; rwa [if_pos hm] at this)
     have HF8 := Lib.hid fun u k => HFail.out 8 (by decide) s' u k
     clear hm
     go_wp2_with fail
     refine (HIt.out _).mono ?_
     rintro e2 w3 ⟨rfl, e_⟩
     subst e_
     go_wp2_with fail
     refine HC.out.mono ?_
     rintro e2 w4 ⟨rfl, e_⟩
     subst e_
     clear q1
     go_wp2_with fail
     refine (HF8.out _ hrd2).mono ?_
     rintro e2 w29 ⟨rfl, k_, hrd30⟩
     replace hA := hA.at1 k_ gA
     replace hO3 := hO3.at1 k_ g3r
     replace hrow := owns_at1 hrow k_ g3r1
     replace hat := hat.trans k_
     clear k_ hrd2
     obtain ⟨y0, y1, _⟩ := hO3.all2
     obtain ⟨A3, c3, hsl, _, h3a, h3b, hints⟩ := owns_ints hrow
     cases hsl
     have HI := Lib.hid (And.intro hints (And.intro h3a h3b))
     obtain ⟨z0, z1, f0, f1⟩ := hA.all2
     have HF := Lib.hid (And.intro hA (And.intro hat hrd30))
     clear hA hat hrd30 hO3 hrow hints h3a h3b hlen ha8
     go_wp2_with fail
     clear y0 y1
     obtain ⟨hO, hk⟩ := HF.out.1.put2' (x0 := .int .i64 1) (x1 := .slice A acc.length c)
     clear z0 z1 f0 f1
     revert hO hk
     generalize ((World.setCell _ _ _).setCell _ _) = W9
     intro hO hk
     obtain ⟨q0, q1, _⟩ := hO.all2
     refine bodyPost_ret (v := .agg #[.int .i64 1, .slice A acc.length c]) (by simp [results, Tryz.results42, go_sem, q0, q1]) rfl ?_
     have hres9 := HRES.out
     subst hres9
     exact ⟨HF.out.2.1.at_ hk (Nat.le_refl _), ⟨_, rfl, _, _, rfl, IntsAt.keep HI.out.1 hk.size (fun g hg hl => ⟨Nat.le_trans (Nat.le_of_lt g23) (Nat.le_of_succ_le hg), hk.heap hl (fun e => by have hg9 : g3 + 1 ≤ g := hg; omega)⟩), HI.out.2.1, HI.out.2.2⟩, HF.out.2.2.at_ hk hBw⟩
    rw [decide_eq_false hm] at HC
    replace HRES := Lib.hid (by have := HRES.out; rwa [if_neg hm] at this)
    clear hm
    by_cases h8 : acc.length = 8
    ·
     replace HRES := Lib.hid (by have := HRES.out; rwa [if_pos h8] at this)
     have HF4 := Lib.hid fun u k => HFail.out 4 (by decide) s' u k
     have h8z : (acc.length : Int) = 8 := by omega
     clear h8 ha8
     go_wp2_with fail
     refine (HIt.out _).mono ?_
     rintro e2 w3 ⟨rfl, e_⟩
     subst e_
     go_wp2_with fail
     refine HC.out.mono ?_
     rintro e2 w4 ⟨rfl, e_⟩
     subst e_
     go_wp2_with fail
     refine (HF4.out _ hrd2).mono ?_
     rintro e2 w29 ⟨rfl, k_, hrd30⟩
     replace hA := hA.at1 k_ gA
     replace hO3 := hO3.at1 k_ g3r
     replace hrow := owns_at1 hrow k_ g3r1
     replace hat := hat.trans k_
     clear k_ hrd2
     clear q1 h8z
     obtain ⟨y0, y1, _⟩ := hO3.all2
     obtain ⟨A3, c3, hsl, _, h3a, h3b, hints⟩ := owns_ints hrow
     cases hsl
     have HI := Lib.hid (And.intro hints (And.intro h3a h3b))
     obtain ⟨z0, z1, f0, f1⟩ := hA.all2
     have HF := Lib.hid (And.intro hA (And.intro hat hrd30))
     clear hA hat hrd30 hO3 hrow hints h3a h3b hlen
     go_wp2_with fail
     clear y0 y1
     obtain ⟨hO, hk⟩ := HF.out.1.put2' (x0 := .int .i64 1) (x1 := .slice A acc.length c)
     clear z0 z1 f0 f1
     revert hO hk
     generalize ((World.setCell _ _ _).setCell _ _) = W9
     intro hO hk
     obtain ⟨q0, q1, _⟩ := hO.all2
     refine bodyPost_ret (v := .agg #[.int .i64 1, .slice A acc.length c]) (by simp [results, Tryz.results42, go_sem, q0, q1]) rfl ?_
     have hres9 := HRES.out
     subst hres9
     exact ⟨HF.out.2.1.at_ hk (Nat.le_refl _), ⟨_, rfl, _, _, rfl, IntsAt.keep HI.out.1 hk.size (fun g hg hl => ⟨Nat.le_trans (Nat.le_of_lt g23) (Nat.le_of_succ_le hg), hk.heap hl (fun e => by have hg9 : g3 + 1 ≤ g := hg; omega)⟩), HI.out.2.1, HI.out.2.2⟩, HF.out.2.2.at_ hk hBw⟩
    replace HRES := Lib.hid (by have := HRES.out; rwa [if_neg h8] at this)
    have h8z : ¬ (acc.length : Int) = 8 := by omega
    have HST3 := Lib.hid (And.intro hA (And.intro hat (And.intro hO3 (And.intro hrd2 hrow))))
    clear hA hat hrd2 hrow
    go_wp2_with fail
    refine (HIt.out _).mono ?_
    rintro e2 w3 ⟨rfl, e_⟩
    subst e_
    go_wp2_with fail
    refine HC.out.mono ?_
    rintro e2 w6 ⟨rfl, e_⟩
    subst e_
    clear hO3
    have q2 := owns_at1 HST3.out.2.2.2.2 (At1.of_below (r := r) (below_new w6 (.cells #[.int .i64 V] 3))) g3r1
    have HO := own_news (Own.new w6 3 [.int .i64 V])
    have one1 : ∀ u ∈ [Value.int .i64 V], u.oneCell' = true := by simp [Value.oneCell']
    obtain ⟨i0_, hi_, hz0, hz1, hz2⟩ := info_parts vint_info
    go_wp2_with (at_builtin; refine wpList_pushO _ rfl _ _ 22 rfl 3 i0_ (.int .i64 0) 1 8 Tryz.underlying22 hi_ hz0 hz1 hz2 rfl (by decide) (g3 + 1) _ _ _ rfl q2 ⟨w6.heap.size, 0, none⟩ 1 [.int .i64 V] rfl rfl HO one1 ?c4 ?c5 ?c6 ?_)
    case c4 => unfold maxLen; omega
    case c5 => omega
    case c6 => have := HST3.out.2.2.1.lt; simp; omega
    intro v' w7 hrow3 hgrow hv'
    clear h8z
    rw [show acc.map i64 ++ [.int .i64 V] = (acc ++ [V]).map i64 by simp [i64]] at hrow3
    obtain ⟨A7, c7, hv7, hlen7, h7a, h7b, hints7⟩ := owns_ints hrow3
    subst hv7
    have kn := below_new w6 (.cells #[.int .i64 V] 3)
    have hob : ∀ g, (Value.slice A acc.length c).ownBlock = some g → g3 + 1 ≤ g := fun g e => by
     rcases HST3.out.2.2.2.2.2 with ⟨e1, _⟩ | ⟨g9, _, _, e1, e2, _⟩
     ·rw [e1] at e; cases e
     ·rw [e1] at e; cases e; exact e2
    have hat7 := (HST3.out.2.1.trans (At1.of_below (r := r) kn)).row hgrow (fun g e => by have := hob g e; omega)
    have hrd7 := (HST3.out.2.2.2.1.on kn).row hgrow (fun g e => by have := hob g e; omega)
    have hA7 := (HST3.out.1.on kn).grown hgrow (fun e => by have := hob _ e.symm; omega)
    have hO7 := (HST3.out.2.2.1.on kn).grown hgrow (fun e => by have := hob _ e.symm; omega)
    obtain ⟨n9_, hn9⟩ : ∃ n9_, (acc ++ [V]).length = n9_ := ⟨_, rfl⟩
    have hla : n9_ = acc.length + 1 := by rw [← hn9]; simp
    rw [hn9] at hrow3 h7a ⊢
    have HLA := Lib.hid (And.intro hlen7 (And.intro hn9 hla))
    clear hlen7 hn9 hla
    have q3 := hO7.c1
    have q4 := hO7.frozen 1
    have HST4 := Lib.hid (And.intro hat7 (And.intro hrd7 (And.intro hA7 (And.intro hO7 hrow3))))
    clear hat7 hrd7 hA7 hO7 hrow3 hgrow hv' HST3 q1 q2 HO one1 hi_ hz0 hz1 hz2 kn hob hints7 HC
    clear i0_
    go_upto_region 19 with fail
    have hk := At1.set_ (r := g3) w7 (p := ⟨g3, 1, none⟩) rfl (.slice A7 n9_ c7)
    have hO3 := HST4.out.2.2.2.1.set_ 1 (.slice A7 n9_ c7)
    have hA := HST4.out.2.2.1.at1 hk (Nat.ne_of_lt g23)
    have hrd := HST4.out.2.1.at_ hk (by omega)
    have hat := HST4.out.1.at_ hk (Nat.le_of_lt g23)
    have hrow := owns_at1 HST4.out.2.2.2.2 hk (Nat.lt_succ_self _)
    clear q3 q4 HST4
    revert hk; revert hrow; revert hrd; revert hat; revert hA; revert hO3
    generalize w7.setCell _ _ = W8
    intro hO3 hA hat hrd hrow hk
    clear hk
    change Own W8 g3 34 [.int .i64 1, .slice A7 n9_ c7] at hO3
    obtain ⟨n_, j_, g_, off_, c_, a_, b_, hl_, hi_, hgr_, hgl_, hO_, c8_, c9_, hb_, hA_, _⟩ := hrd.cells
    have q1 := hO_.cell 1
    have q1f := hO_.frozen 1
    have i0 : (0 : Int) ≤ (j_ : Int) := by omega
    have i1 : (j_ : Int) ≤ 5000 := by omega
    have k_ := At1.set_ (r := r) W8 (p := ⟨r, 1, none⟩) rfl (.int .i64 ((j_ : Int) + 1))
    have hrd9 := hA_ HSee.out.2
    clear hO_ c8_ c9_ hb_ hA_ hgl_ hgr_ hi_ hl_
    replace hA := hA.at1 k_ gA
    replace hO3 := hO3.at1 k_ g3r
    replace hrow := owns_at1 hrow k_ g3r1
    replace hat := hat.trans k_
    clear k_ hrd
    go_upto_region 20 with fail
    revert hrow; revert hrd9; revert hat; revert hA; revert hO3
    generalize (World.setCell _ _ _) = W10
    intro hO3 hA hat hrd9 hrow
    clear q1 q1f i0 i1
    have HL1 := Lib.hid (show (Qy.adv s').1.length < s'.1.length from HGd.out.stp_lt HSee.out.2)
    by_cases hc : Qy.see (Qy.adv s') = [44]
    ·
     replace HRES := Lib.hid (by have := HRES.out; rwa [if_pos hc] at this)
     have hlt2 := (Qy.adv_lt HGd.out.stp (by rw [hc]; simp) (by rw [hc]; decide)).2.2
     have HT31 : Hid (∀ u, RfAt B r (Qy.adv s') u → Calls Tryz.prog 75 #[.pointer (some ⟨r, 0, none⟩), .string (bs [44])] u fun e w' => e = .returned (.bool true) ∧ RfAt B r (Qy.adv (Qy.adv s')) w' ∧ At1 r u w') := Lib.hid fun u k => by
      have := HTake.out [44] (by decide) (Qy.adv s') u k
      rwa [decide_eq_true hc, show Qy.takeS [44] (Qy.adv s') = Qy.adv (Qy.adv s') by unfold Qy.takeS; rw [if_pos hc, if_neg (by decide)]] at this
     go_wp2_with fail
     refine (HT31.out _ hrd9).mono ?_
     rintro e2 w29 ⟨rfl, hrd30, k_⟩
     replace hA := hA.at1 k_ gA
     replace hO3 := hO3.at1 k_ g3r
     replace hrow := owns_at1 hrow k_ g3r1
     replace hat := hat.trans k_
     clear k_ hrd9
     clear HT31
     have HFS := Lib.hid (And.intro hat (And.intro hA (And.intro hO3 (And.intro hrow hrd30))))
     clear hat hA hO3 hrow hrd30 hc
     go_wp2_with fail
     go_roundw
     case rel => exact ⟨f', acc ++ [V], Qy.adv (Qy.adv s'), A7, c7, HFS.out.1, HFS.out.2.1, by rw [HLA.out.2.1]; exact HFS.out.2.2.1, by rw [HLA.out.2.1]; have h9 := HFS.out.2.2.2.1; rwa [← HLA.out.2.2] at h9, HFS.out.2.2.2.2, by have := HLA.out; omega, ⟨by have := HFl.out; have := HL1.out; omega, fun _ => by have := HFl.out; have := HL1.out; omega⟩, HRES.out⟩
     case measure => have := HFS.out.2.2.2.2.len; have := HL1.out; omega
    replace HRES := Lib.hid (by have := HRES.out; rwa [if_neg hc] at this)
    have HT31 : Hid (∀ u, RfAt B r (Qy.adv s') u → Calls Tryz.prog 75 #[.pointer (some ⟨r, 0, none⟩), .string (bs [44])] u fun e w' => e = .returned (.bool false) ∧ RfAt B r (Qy.adv s') w' ∧ At1 r u w') := Lib.hid fun u k => by
     have := HTake.out [44] (by decide) (Qy.adv s') u k
     rwa [decide_eq_false hc, show Qy.takeS [44] (Qy.adv s') = (Qy.adv s') by unfold Qy.takeS; rw [if_neg hc]] at this
    go_wp2_with fail
    refine (HT31.out _ hrd9).mono ?_
    rintro e2 w29 ⟨rfl, hrd30, k_⟩
    replace hA := hA.at1 k_ gA
    replace hO3 := hO3.at1 k_ g3r
    replace hrow := owns_at1 hrow k_ g3r1
    replace hat := hat.trans k_
    clear k_ hrd9
    clear HT31
    clear hc
    have hacc := HLA.out.2.1
    have hacc2 := HLA.out.2.2
    rw [← hacc2] at hrow
    rw [← hacc] at hrow hO3
    clear HLA h7a hacc hacc2 hlen ha8
    obtain ⟨acc2, ha2⟩ : ∃ a, acc ++ [V] = a := ⟨_, rfl⟩
    rw [ha2] at hO3 hrow
    replace HRES := Lib.hid (by have := HRES.out; rwa [ha2] at this)
    clear ha2
    obtain ⟨y0, y1, _⟩ := hO3.all2
    obtain ⟨A3, c3, hsl, _, h3a, h3b, hints⟩ := owns_ints hrow
    cases hsl
    have HI := Lib.hid (And.intro hints (And.intro h3a h3b))
    obtain ⟨z0, z1, f0, f1⟩ := hA.all2
    have HF := Lib.hid (And.intro hA (And.intro hat hrd30))
    clear hA hat hrd30 hO3 hrow hints h3a h3b 
    go_wp2_with fail
    clear y0 y1
    obtain ⟨hO, hk⟩ := HF.out.1.put2' (x0 := .int .i64 1) (x1 := .slice A7 acc2.length c7)
    clear z0 z1 f0 f1
    revert hO hk
    generalize ((World.setCell _ _ _).setCell _ _) = W9
    intro hO hk
    obtain ⟨q0, q1, _⟩ := hO.all2
    refine bodyPost_ret (v := .agg #[.int .i64 1, .slice A7 acc2.length c7]) (by simp [results, Tryz.results42, go_sem, q0, q1]) rfl ?_
    have hres9 := HRES.out
    subst hres9
    exact ⟨HF.out.2.1.at_ hk (Nat.le_refl _), ⟨_, rfl, _, _, rfl, IntsAt.keep HI.out.1 hk.size (fun g hg hl => ⟨Nat.le_trans (Nat.le_of_lt g23) (Nat.le_of_succ_le hg), hk.heap hl (fun e => by have hg9 : g3 + 1 ≤ g := hg; omega)⟩), HI.out.2.1, HI.out.2.2⟩, HF.out.2.2.at_ hk hBw⟩
end Go.Proofs.YtmlpibdincfgbaaGreatDoor
