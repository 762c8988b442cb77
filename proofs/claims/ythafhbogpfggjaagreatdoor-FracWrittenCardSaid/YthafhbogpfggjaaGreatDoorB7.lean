/-
  Chapter 04's reference: Pick, Number, Frac.
-/
import Derived.Test.YthafhbogpfggjaaGreatDoorB2
import Derived.Test.YthafhbogpfggjaaGreatDoorA4
import Derived.Test.YthafhbogpfggjaaGreatDoorB4
import Derived.Test.YthafhbogpfggjaaGreatDoorF5
namespace Go.Proofs.YthafhbogpfggjaaGreatDoor
open Go.RowKit Mag
open Dig (val Ws Nz)

theorem getD_rg {l : List Int} (h : ∀ x ∈ l, -9223372036854775808 ≤ x ∧ x ≤ 9223372036854775807) (i : Nat) : in64 (l.getD i 0) := by
  rw [List.getD_eq_getElem?_getD]
  rcases Nat.lt_or_ge i l.length with h1 | h1
  · rw [List.getElem?_eq_getElem h1]
    exact h _ (List.getElem_mem h1)
  · rw [List.getElem?_eq_none h1]
    exact ⟨by decide, by decide⟩
theorem Sl.i64at {w : World} {B : Nat} {A : Option Addr} {l : List Int} (h : Sl w B A (l.map i64)) {i : Nat} (hi : i < l.length) : ∃ g off, A = some ⟨g, off, none⟩ ∧ g < B ∧ w.cell? ⟨g, off + i, none⟩ = some (.int .i64 l[i]) :=
  h.at_ (x := .int .i64 l[i]) (by simp [i64, hi])
set_option maxHeartbeats 400000 in
theorem fPick_any {w : World} {A : Option Addr} {l : List Int} {c : Nat} (h : IntsIs w A l c) (i : Nat) (hi : i ≤ 100) (j : Int) (hj : j = (i : Int)) :
    Calls Tryz.prog 61 #[.slice A l.length c, .int .i64 j] w (RetInt w (l.getD i 0)) := by
  subst hj
  have hm := h.mx
  have hc := h.cap
  have hS := h.sl
  unfold maxLen at hm
  have hi0 : ¬ (i : Int) < 0 := by omega
  by_cases hlt : i < l.length
  · obtain ⟨g, off, rfl, hg, hcell⟩ := hS.i64at hlt
    have HE := Lib.hid (show l.getD i 0 = l[i] by rw [List.getD_eq_getElem?_getD, List.getElem?_eq_getElem hlt]; rfl)
    have h0 : (0 : Int) ≤ (i : Int) := by omega
    have h1 : (i : Int) < (l.length : Int) := by omega
    have h2 : decide (l.length ≤ i) = false := by simp; omega
    go_enter Tryz.func61, Tryz.ntmps61
    go_wp2
    go_returns
    exact ⟨by first | rfl | (rw [HE.out]; rfl), by go_grown⟩
  · have HE := Lib.hid (show l.getD i 0 = 0 by rw [List.getD_eq_getElem?_getD, List.getElem?_eq_none (by omega)]; rfl)
    have h1 : ¬ (i : Int) < (l.length : Int) := by omega
    have h2 : decide (l.length ≤ i) = true := by simp; omega
    go_enter Tryz.func61, Tryz.ntmps61
    go_wp2
    go_returns
    exact ⟨by first | rfl | (rw [HE.out]; rfl), by go_grown⟩
/-- The state of Number. -/
structure NumF (W : World) (g : Nat) (j : Nat) (z : Int) (x : IV) (wr : World) : Prop where
  bel : Below W.heap.size W wr
  own : Own wr g 44 [.bool x.neg, .slice x.A x.n x.c]
  ni : NI x wr z
  sm : Sm (6 + 3 * j) z
theorem NumF.on {W : World} {g j : Nat} {z : Int} {x : IV} {wr w' : World} (h : NumF W g j z x wr) (hb : Below wr.heap.size wr w') : NumF W g j z x w' :=
  ⟨Below.call h.bel hb, h.own.on hb, h.ni.on hb, h.sm⟩
theorem sm_9 : Sm 3 1000000007 := by unfold Sm; decide
theorem sm_tmod (b : Int) : Sm 1 (b.tmod 60) ∧ in64 (b.tmod 60) := by
  have h : (b.tmod 60).natAbs = b.natAbs % 60 := Int.natAbs_tmod b 60
  unfold Sm in64
  omega
set_option maxRecDepth 100000 in
set_option maxHeartbeats 3200000 in
theorem fNumber_any (a b : Int) (w : World) (ha : in64 a) (hb : in64 b) :
    Calls Tryz.prog 60 #[.int .i64 a, .int .i64 b] w (fun e w' => ∃ z : Int, Sm 130 z ∧ RetN w z e w') := by
  have HT := Lib.hid (sm_tmod b)
  rcases Int.lt_or_le a 0 with hneg | hpos
  · obtain ⟨m, rfl⟩ : ∃ m : Nat, a = -(m : Int) := ⟨a.natAbs, by omega⟩
    have e1 : (-(m : Int)).tmod 7 = -((m % 7 : Nat) : Int) := by rw [Int.neg_tmod, Int.tmod_eq_emod_of_nonneg (by omega)]; omega
    have e2 : (-(m : Int)).tdiv 7 = -((m / 7 : Nat) : Int) := by rw [Int.neg_tdiv, Int.tdiv_eq_ediv_of_nonneg (by omega)]; omega
    have e3 : (-((m / 7 : Nat) : Int)).tmod 40 = -((m / 7 % 40 : Nat) : Int) := by rw [Int.neg_tmod, Int.tmod_eq_emod_of_nonneg (by omega)]; omega
    have hr7 : m % 7 < 7 := Nat.mod_lt _ (by omega)
    have hm := ha.1
    obtain ⟨t, ht⟩ : ∃ t, t = m / 7 % 40 := ⟨_, rfl⟩
    rw [← ht] at e3
    obtain ⟨r, hr⟩ : ∃ r, r = m % 7 := ⟨_, rfl⟩
    rw [← hr] at e1 hr7
    obtain ⟨q, hq⟩ : ∃ q, q = m / 7 := ⟨_, rfl⟩
    rw [← hq] at e2 e3
    have hql : q ≤ m := by omega
    clear ht hr hq ha
    by_cases h0 : r = 0
    · subst h0
      go_enter Tryz.func60, Tryz.ntmps60
      go_upto_region 1 with fail
      refine wp_new1 fun W hO hB => ?_
      go_wp2_with fail
      refine (rOf_any (b.tmod 60) _ HT.out.2.1 HT.out.2.2).mono ?_
      rintro e w1 ⟨x, rfl, k1, hx⟩
      have HSz := Lib.hid (show Sm 130 (b.tmod 60) from HT.out.1.mono (by omega))
      have hB1 := Below.call hB k1
      have hO1 := hO.on k1
      clear hO hB
      obtain ⟨z0, z1, f0, f1⟩ := hO1.all2
      have HF := Lib.hid (retN_end hB1 (by omega) hO1 (by simp) (by simp) hx)
      obtain ⟨q0, q1, _⟩ := (hO1.put2 (.bool x.neg) (.slice x.A x.n x.c)).all2
      clear hO1 hx
      go_wp2
      exact bodyPost_ret (v := .agg #[.bool x.neg, .slice x.A x.n x.c]) (by simp [results, Tryz.results60, go_sem, q0, q1]) rfl ⟨_, HSz.out, HF.out⟩
    · have hn1 : -(r : Int) < 0 := by omega
      rcases (by omega : r = 1 ∨ r = 2 ∨ 3 ≤ r) with h1 | h1 | h1
      · subst h1
        have hlp : ¬ (0 : Int) < -(t : Int) := by omega
        go_enter Tryz.func60, Tryz.ntmps60
        go_upto_region 1 with fail
        refine wp_new1 fun W hO hB => ?_
        go_wp2_with fail
        refine (rOf_any b _ hb.1 hb.2).mono ?_
        rintro e w1 ⟨x, rfl, k1, hx⟩
        go_wp2_with fail
        refine (rOf_any 3 _ (by omega) (by omega)).mono ?_
        rintro e w2 ⟨y, rfl, k2, hy⟩
        have nx := (Sm.small hb).len hx
        have ny := NI.len hy (k := 1) (by omega)
        go_wp2_with fail
        refine (rAdd_any (hx.on k2) hy (by unfold many; omega) (by unfold many; omega)).mono ?_
        rintro e w3 ⟨s, rfl, k3, hs⟩
        go_upto_region 9 with fail
        refine wp_new1 fun w4 hX k4 => ?_
        have s0 : Sm 6 (b + 3) := (Sm.small hb).add (k := 5) (show Sm 5 3 by unfold Sm; decide)
        have hst0 : NumF W w3.heap.size 0 (b + 3) s w4 := ⟨Below.call (Below.call k1 k2) (Below.call k3 k4), hX, hs.on k4, s0⟩
        have hg3 : W.heap.size ≤ w3.heap.size := (Below.call (Below.call k1 k2) k3).size
        clear hx hy hs hX k1 k2 k3 k4 nx ny s0
        have hB1 := Below.call hB hst0.bel
        have hO1 := hO.on hst0.bel
        have hx := hst0.ni
        have HSz := Lib.hid (show Sm 130 (b + 3) from hst0.sm.mono (by omega))
        obtain ⟨c0, c1, _⟩ := hst0.own.all2
        clear hst0
        go_wp2_with fail
        go_loopw [7] (fun s wr => s = .int .i64 0 ∧ wr = w4) (fun s _ => 0)
        case atStart => exact ⟨rfl, rfl⟩
        case round =>
          obtain ⟨rfl, rfl⟩ := hrel
          obtain ⟨z0, z1, f0, f1⟩ := hO1.all2
          have HF := Lib.hid (retN_end hB1 (by omega) hO1 (by simp) (by simp) hx)
          obtain ⟨q0, q1, _⟩ := (hO1.put2 (.bool s.neg) (.slice s.A s.n s.c)).all2
          clear hO1 hx
          go_wp2
          exact bodyPost_ret (v := .agg #[.bool s.neg, .slice s.A s.n s.c]) (by simp [results, Tryz.results60, go_sem, q0, q1]) rfl ⟨_, HSz.out, HF.out⟩
      · subst h1
        go_enter Tryz.func60, Tryz.ntmps60
        go_upto_region 1 with fail
        refine wp_new1 fun W hO hB => ?_
        go_wp2_with fail
        refine (rOf_any b _ hb.1 hb.2).mono ?_
        rintro e w1 ⟨x, rfl, k1, hx⟩
        have HSz := Lib.hid (show Sm 130 b from (Sm.small hb).mono (by omega))
        have hB1 := Below.call hB k1
        have hO1 := hO.on k1
        clear hO hB
        obtain ⟨z0, z1, f0, f1⟩ := hO1.all2
        have HF := Lib.hid (retN_end hB1 (by omega) hO1 (by simp) (by simp) hx)
        obtain ⟨q0, q1, _⟩ := (hO1.put2 (.bool x.neg) (.slice x.A x.n x.c)).all2
        clear hO1 hx
        go_wp2
        exact bodyPost_ret (v := .agg #[.bool x.neg, .slice x.A x.n x.c]) (by simp [results, Tryz.results60, go_sem, q0, q1]) rfl ⟨_, HSz.out, HF.out⟩
      · have hk : -(r : Int) + 7 < 6 := by omega
        by_cases h4 : -(r : Int) + 7 < 4
        · go_enter Tryz.func60, Tryz.ntmps60
          go_upto_region 1 with fail
          refine wp_new1 fun W hO hB => ?_
          go_wp2_with fail
          refine (rOf_any (b.tmod 60) _ HT.out.2.1 HT.out.2.2).mono ?_
          rintro e w1 ⟨x, rfl, k1, hx⟩
          have HSz := Lib.hid (show Sm 130 (b.tmod 60) from HT.out.1.mono (by omega))
          have hB1 := Below.call hB k1
          have hO1 := hO.on k1
          clear hO hB
          obtain ⟨z0, z1, f0, f1⟩ := hO1.all2
          have HF := Lib.hid (retN_end hB1 (by omega) hO1 (by simp) (by simp) hx)
          obtain ⟨q0, q1, _⟩ := (hO1.put2 (.bool x.neg) (.slice x.A x.n x.c)).all2
          clear hO1 hx
          go_wp2
          exact bodyPost_ret (v := .agg #[.bool x.neg, .slice x.A x.n x.c]) (by simp [results, Tryz.results60, go_sem, q0, q1]) rfl ⟨_, HSz.out, HF.out⟩
        · go_enter Tryz.func60, Tryz.ntmps60
          go_upto_region 1 with fail
          refine wp_new1 fun W hO hB => ?_
          go_wp2_with fail
          refine (rOf_any b _ hb.1 hb.2).mono ?_
          rintro e w1 ⟨x, rfl, k1, hx⟩
          have HSz := Lib.hid (show Sm 130 b from (Sm.small hb).mono (by omega))
          have hB1 := Below.call hB k1
          have hO1 := hO.on k1
          clear hO hB
          obtain ⟨z0, z1, f0, f1⟩ := hO1.all2
          have HF := Lib.hid (retN_end hB1 (by omega) hO1 (by simp) (by simp) hx)
          obtain ⟨q0, q1, _⟩ := (hO1.put2 (.bool x.neg) (.slice x.A x.n x.c)).all2
          clear hO1 hx
          go_wp2
          exact bodyPost_ret (v := .agg #[.bool x.neg, .slice x.A x.n x.c]) (by simp [results, Tryz.results60, go_sem, q0, q1]) rfl ⟨_, HSz.out, HF.out⟩
  · obtain ⟨m, rfl⟩ : ∃ m : Nat, a = (m : Int) := ⟨a.natAbs, by omega⟩
    have hm := ha.2
    have hn1 : ¬ (m : Int) % 7 < 0 := by omega
    have m0 : (0 : Int) ≤ (m : Int) := by omega
    clear ha hpos
    by_cases h4 : (m : Int) % 7 < 4
    · go_enter Tryz.func60, Tryz.ntmps60
      go_upto_region 1 with fail
      refine wp_new1 fun W hO hB => ?_
      go_wp2_with fail
      refine (rOf_any (b.tmod 60) _ HT.out.2.1 HT.out.2.2).mono ?_
      rintro e w1 ⟨x, rfl, k1, hx⟩
      have HSz := Lib.hid (show Sm 130 (b.tmod 60) from HT.out.1.mono (by omega))
      have hB1 := Below.call hB k1
      have hO1 := hO.on k1
      clear hO hB
      obtain ⟨z0, z1, f0, f1⟩ := hO1.all2
      have HF := Lib.hid (retN_end hB1 (by omega) hO1 (by simp) (by simp) hx)
      obtain ⟨q0, q1, _⟩ := (hO1.put2 (.bool x.neg) (.slice x.A x.n x.c)).all2
      clear hO1 hx
      go_wp2
      exact bodyPost_ret (v := .agg #[.bool x.neg, .slice x.A x.n x.c]) (by simp [results, Tryz.results60, go_sem, q0, q1]) rfl ⟨_, HSz.out, HF.out⟩
    · by_cases h6 : (m : Int) % 7 < 6
      · go_enter Tryz.func60, Tryz.ntmps60
        go_upto_region 1 with fail
        refine wp_new1 fun W hO hB => ?_
        go_wp2_with fail
        refine (rOf_any b _ hb.1 hb.2).mono ?_
        rintro e w1 ⟨x, rfl, k1, hx⟩
        have HSz := Lib.hid (show Sm 130 b from (Sm.small hb).mono (by omega))
        have hB1 := Below.call hB k1
        have hO1 := hO.on k1
        clear hO hB
        obtain ⟨z0, z1, f0, f1⟩ := hO1.all2
        have HF := Lib.hid (retN_end hB1 (by omega) hO1 (by simp) (by simp) hx)
        obtain ⟨q0, q1, _⟩ := (hO1.put2 (.bool x.neg) (.slice x.A x.n x.c)).all2
        clear hO1 hx
        go_wp2
        exact bodyPost_ret (v := .agg #[.bool x.neg, .slice x.A x.n x.c]) (by simp [results, Tryz.results60, go_sem, q0, q1]) rfl ⟨_, HSz.out, HF.out⟩
      · go_enter Tryz.func60, Tryz.ntmps60
        go_upto_region 1 with fail
        refine wp_new1 fun W hO hB => ?_
        go_wp2_with fail
        refine (rOf_any b _ hb.1 hb.2).mono ?_
        rintro e w1 ⟨x, rfl, k1, hx⟩
        go_wp2_with fail
        refine (rOf_any 3 _ (by omega) (by omega)).mono ?_
        rintro e w2 ⟨y, rfl, k2, hy⟩
        have nx := (Sm.small hb).len hx
        have ny := NI.len hy (k := 1) (by omega)
        go_wp2_with fail
        refine (rAdd_any (hx.on k2) hy (by unfold many; omega) (by unfold many; omega)).mono ?_
        rintro e w3 ⟨s, rfl, k3, hs⟩
        go_upto_region 9 with fail
        refine wp_new1 fun w4 hX k4 => ?_
        have s0 : Sm 6 (b + 3) := (Sm.small hb).add (k := 5) (show Sm 5 3 by unfold Sm; decide)
        have hst0 : NumF W w3.heap.size 0 (b + 3) s w4 := ⟨Below.call (Below.call k1 k2) (Below.call k3 k4), hX, hs.on k4, s0⟩
        have hg3 : W.heap.size ≤ w3.heap.size := (Below.call (Below.call k1 k2) k3).size
        clear hx hy hs hX k1 k2 k3 k4 nx ny s0
        go_wp2_with fail
        go_loopw [7] (fun s wr => ∃ (j : Nat) (z : Int) (x : IV), j ≤ 39 ∧ s = .int .i64 (j : Int) ∧ NumF W w3.heap.size j z x wr) (fun s _ => 40 - (intOf s).toNat)
        case atStart => exact ⟨0, b + 3, s, by omega, rfl, hst0⟩
        case round =>
          obtain ⟨j, z, x, hj, rfl, hst⟩ := hrel
          clear hst0
          by_cases hlt : (j : Int) < (m : Int) / 7 % 40
          · have hj38 : j < 39 := by omega
            obtain ⟨V, hV⟩ : ∃ V, V = wr := ⟨_, rfl⟩
            rw [← hV]
            rw [← hV] at hst
            clear hV
            have nx := hst.sm.len hst.ni
            have hni := hst.ni
            have hX := hst.own
            have hsz : Sm (6 + 3 * (j + 1)) (z * 1000000007) := (hst.sm.mul sm_9).mono (by omega)
            have HST := Lib.hid hst
            clear hst
            go_wp2_with fail
            refine wp_region_last V [Spec.eq (.agg #[.bool x.neg, .slice x.A x.n x.c]), sN 1000000007, sN (z * 1000000007)]
                rfl (by kernel_rfl) (by kernel_rfl) rfl (by kernel_rfl) (by kernel_rfl) (Below.drew (Below.refl _ _)) ?_ ?_
            ·
              refine RegSteps.cons ?_ ?_
              · intro _ az wz hC hF hD _ K hK; have q6 : az.tmps[6]? = some (.pointer (some ⟨w3.heap.size, 0, none⟩)) := hF 6 rfl; obtain ⟨l0, l1, _⟩ := (hX.on hC).all2; clear hF hD; refine want_none rfl ?_; go_simp; exact hK _ _ hC (Below.refl _ _) rfl
              refine RegSteps.cons ?_ ?_
              · intro _ az wz hC hF hD _ K hK; clear hF hD; refine want_none rfl ?_; go_simp; refine (rOf_any _ _ (by omega) (by omega)).mono ?_; rintro e wy ⟨x, rfl, k, hx⟩; exact hK _ _ (Below.call hC k) k ⟨x, rfl, hx⟩
              refine RegSteps.cons ?_ ?_
              · intro _ az wz hC hF hD _ K hK; obtain ⟨_, q34, rfl⟩ := dep hD 0 rfl rfl rfl rfl; obtain ⟨_, q35, x35, rfl, hx35⟩ := dep hD 1 rfl rfl rfl rfl; clear hF hD; refine want_none rfl ?_; go_simp; refine (rMul_any (hni.on hC) hx35 (by have := NI.len hx35 (k := 3) (by omega); unfold many; omega)).mono ?_; rintro e wy ⟨x, rfl, k, hx⟩; exact hK _ _ (Below.call hC k) k ⟨x, rfl, hx⟩
              exact RegSteps.nil
            intro w9 hC9
            rintro _ rfl _ ⟨y35, rfl, _⟩ _ ⟨y36, rfl, hy36⟩
            simp only [List.dropLast, FinOK, Act.put, List.setIfInBounds_toArray, List.set_cons_zero, List.set_cons_succ]
            intro K hK
            refine want_none rfl ?_
            obtain ⟨z0, z1, f0, f1⟩ := (hX.on hC9).all2
            go_simp
            refine hK _ _ ?_
            clear hK K
            have hst := HST.out
            have HN := Lib.hid (NumF.mk (Below.put2 (Below.call hst.bel hC9) (by omega) (.bool y36.neg) (.slice y36.A y36.n y36.c)) ((hX.on hC9).put2 (.bool y36.neg) (.slice y36.A y36.n y36.c)) (hy36.put2 (hX.on hC9) (by simp) (by simp) _ _) hsz)
            clear hst HST hX hni hy36
            go_wp2_with fail
            go_roundw
            case rel => exact ⟨j + 1, _, y36, by omega, by go_num, HN.out⟩
            case measure => simp [intOf]; omega
          · have hB1 := Below.call hB hst.bel
            have hO1 := hO.on hst.bel
            have hx := hst.ni
            have HSz := Lib.hid (show Sm 130 z from hst.sm.mono (by omega))
            obtain ⟨c0, c1, _⟩ := hst.own.all2
            clear hst
            obtain ⟨z0, z1, f0, f1⟩ := hO1.all2
            have HF := Lib.hid (retN_end hB1 (by omega) hO1 (by simp) (by simp) hx)
            obtain ⟨q0, q1, _⟩ := (hO1.put2 (.bool x.neg) (.slice x.A x.n x.c)).all2
            clear hO1 hx
            go_wp2
            exact bodyPost_ret (v := .agg #[.bool x.neg, .slice x.A x.n x.c]) (by simp [results, Tryz.results60, go_sem, q0, q1]) rfl ⟨_, HSz.out, HF.out⟩
/-- A bounded fraction is returned. -/
def RetRS (w : World) (k : Nat) (e : Ending) (w' : World) : Prop := ∃ f : FV, e = .returned (.agg #[.bool f.p.neg, .slice f.p.A f.p.n f.p.c, .bool f.l.neg, .slice f.l.A f.l.n f.l.c]) ∧ Below w.heap.size w w' ∧ RS k f w'
def RetRSE (w : World) (k : Nat) (e : Ending) (w' : World) : Prop := ∃ f : FV, e = .returned (.tuple #[.agg #[.bool f.p.neg, .slice f.p.A f.p.n f.p.c, .bool f.l.neg, .slice f.l.A f.l.n f.l.c], .int .i64 0]) ∧ Below w.heap.size w w' ∧ RS k f w'
theorem RetNR.rs {w w' : World} {r : Rat} {e : Ending} {k : Nat} (h : RetNR w r e w') (hr : SmR k r) : RetRS w k e w' := by
  obtain ⟨f, h1, h2, h3⟩ := h
  exact ⟨f, h1, h2, r, hr, h3⟩
theorem fMake_s {x y : IV} {p q : Int} {w : World} (hx : NI x w p) (hy : NI y w q) (sp : Sm 130 p) (sq : Sm 130 q) (h0 : q ≠ 0) : Calls Tryz.prog 65 #[.agg #[.bool x.neg, .slice x.A x.n x.c], .agg #[.bool y.neg, .slice y.A y.n y.c]] w (RetRSE w 130) := by
  have := fMake_any hx hy (by have := sp.len hx; unfold many; omega) (by have := sq.len hy; unfold many; omega)
  unfold makeR at this
  rw [if_neg h0] at this
  exact this.mono fun e w' ⟨f, h1, h2, h3⟩ => ⟨f, h1, h2, _, SmR.divInt sp sq h0, h3⟩
theorem den_zero {y : IV} {w : World} {z : Int} (h : NI y w z) : ((y.n : Int) == 0) = decide (z = 0) := by
  obtain ⟨h0, h1, _⟩ := h.n_zero
  by_cases hz : z = 0
  · rw [h0 hz]; simp [hz]
  · have := h1 hz
    simp [hz]; omega
set_option maxRecDepth 100000 in
set_option maxHeartbeats 3200000 in
theorem fFrac_any {w : World} {A : Option Addr} {l : List Int} {c : Nat} (h : IntsIs w A l c) (at_ : Nat) (hat : at_ ≤ 90) (ai : Int) (hai : ai = (at_ : Int)) :
    Calls Tryz.prog 71 #[.slice A l.length c, .int .i64 ai] w (RetRS w 130) := by
  subst hai
  have HP : Hid (∀ (j : Nat) (i : Int) (u : World), j ≤ 100 → i = (j : Int) → IntsIs u A l c → Calls Tryz.prog 61 #[.slice A l.length c, .int .i64 i] u (RetInt u (l.getD j 0))) := Lib.hid fun j i u h1 h2 h3 => fPick_any h3 j h1 i h2
  have HG := Lib.hid (getD_rg h.rg)
  have a0 : (0 : Int) ≤ (at_ : Int) := by omega
  have a1 : (at_ : Int) ≤ 90 := by omega
  go_enter Tryz.func71, Tryz.ntmps71
  go_upto_region 1 with fail
  refine wp_new1 fun W hO hB => ?_
  replace h := h.on hB
  go_wp2_with fail
  refine (HP.out (at_ + 2) _ _ (by omega) (by omega) h).mono ?_
  rintro e w1 ⟨rfl, k1⟩
  go_wp2_with fail
  refine (HP.out (at_ + 3) _ _ (by omega) (by omega) (h.on k1)).mono ?_
  rintro e w2 ⟨rfl, k2⟩
  go_wp2_with fail
  refine (fNumber_any _ _ _ (HG.out _) (HG.out _)).mono ?_
  rintro e w3 ⟨z, hz, x, rfl, k3, hx⟩
  go_upto_region 2 with fail
  refine wp_new1 fun w4 hX k4 => ?_
  have k3' := Below.call (Below.call k1 k2) k3
  have hg5 := k3'.size
  have kk := Below.call k3' k4
  replace hx := hx.on k4
  obtain ⟨b5, hb5⟩ : ∃ b5, b5 = w3.heap.size := ⟨_, rfl⟩
  rw [← hb5] at hX hg5 ⊢
  clear k1 k2 k3 k3' k4 hb5
  obtain ⟨x0, x1, xf0, xf1⟩ := hX.all2
  have hdz := den_zero hx
  go_upto_if 20 with fail
  go_cut [20] (fun _ wx => ∃ (y : IV) (q : Int), Sm 130 q ∧ q ≠ 0 ∧ NI y wx q ∧ Own wx b5 44 [.bool y.neg, .slice y.A y.n y.c] ∧ Below W.heap.size W wx)
  case first =>
    by_cases hz0 : z = 0
    · rw [decide_eq_true hz0] at hdz
      try rw [decide_eq_true hz0]
      try rw [hdz]
      clear hz0
      go_wp2_with fail
      refine (rOf_any 1 _ (by omega) (by omega)).mono ?_
      rintro e w5 ⟨y, rfl, k5, hy⟩
      have o5 := hX.on k5
      obtain ⟨c0, c1, cf0, cf1⟩ := o5.all2
      have HF : Hid (NI y ((w5.setCell ⟨b5, 0, none⟩ (.bool y.neg)).setCell ⟨b5, 1, none⟩ (.slice y.A y.n y.c)) 1 ∧ Own ((w5.setCell ⟨b5, 0, none⟩ (.bool y.neg)).setCell ⟨b5, 1, none⟩ (.slice y.A y.n y.c)) b5 44 [.bool y.neg, .slice y.A y.n y.c] ∧ Below W.heap.size W ((w5.setCell ⟨b5, 0, none⟩ (.bool y.neg)).setCell ⟨b5, 1, none⟩ (.slice y.A y.n y.c))) :=
        Lib.hid ⟨hy.put2 o5 (by simp) (by simp) _ _, o5.put2 _ _, Below.put2 (Below.call kk k5) hg5 _ _⟩
      clear hy o5 k5
      go_wp2_with fail
      go_meet
      exact ⟨y, 1, by unfold Sm; decide, by decide, HF.out⟩
    · rw [decide_eq_false hz0] at hdz
      try rw [decide_eq_false hz0]
      try rw [hdz]
      have HF := Lib.hid (And.intro hz (And.intro hz0 (And.intro hx (And.intro hX kk))))
      clear hz0 hz hx hX kk
      go_wp2_with fail
      go_meet
      exact ⟨x, z, HF.out⟩
  case rest =>
    obtain ⟨y, q, hq, hq0, hy, hY, hb⟩ := hcut
    clear hx hX hz hdz x0 x1 xf0 xf1 kk
    have hI := h.on hb
    go_wp2_with fail
    refine wp_region_boxes wc [Spec.eq (.slice A l.length c), Spec.eq (.int .i64 (at_ : Int)), Spec.eq (.int .i64 (l.getD at_ 0)), Spec.eq (.slice A l.length c), Spec.eq (.int .i64 (at_ : Int)), Spec.eq (.int .i64 ((at_ : Int) + 1)), Spec.eq (.int .i64 (l.getD (at_ + 1) 0)), sNM 130, Spec.eq (.agg #[.bool y.neg, .slice y.A y.n y.c]), sRSE 130, sRSE 130, sRS 130, Spec.eq (.int .i64 0), Spec.any, Spec.any, Spec.eq (.int .i64 0)]
        [{ A := 13, j := 14, t := 6, T := 89, zs := [.bool false, .slice none 0 0, .bool false, .slice none 0 0], X := fun us w => ∃ x : FV, us = [.bool x.p.neg, .slice x.p.A x.p.n x.p.c, .bool x.l.neg, .slice x.l.A x.l.n x.l.c] ∧ RS 130 x w, up := fun ⟨x, e, hx⟩ k => ⟨x, e, hx.keeps k⟩ }]
        (by kernel_rfl) (by kernel_rfl) rfl (by kernel_rfl) rfl (Below.drew (Below.refl _ _)) ?_ ?_ ⟨rfl, rfl, trivial⟩ ?_
    ·
      refine RegSteps.cons ?_ ?_
      · intro _ az wz hC hF hD _ K hK; have q0 : az.tmps[0]? = some (.slice A l.length c) := hF 0 rfl; clear hF hD; refine want_none rfl ?_; go_simp; exact hK _ _ hC (Below.refl _ _) rfl
      refine RegSteps.cons ?_ ?_
      · intro _ az wz hC hF hD _ K hK; have q1 : az.tmps[1]? = some (.int .i64 (at_ : Int)) := hF 1 rfl; clear hF hD; refine want_none rfl ?_; go_simp; exact hK _ _ hC (Below.refl _ _) rfl
      refine RegSteps.cons ?_ ?_
      · intro _ az wz hC hF hD _ K hK; obtain ⟨_, q23, rfl⟩ := dep hD 0 rfl rfl rfl rfl; obtain ⟨_, q24, rfl⟩ := dep hD 1 rfl rfl rfl rfl; clear hF hD; refine want_none rfl ?_; go_simp; refine (HP.out at_ _ _ (by omega) rfl (hI.on hC)).mono ?_; rintro e wy ⟨rfl, k⟩; exact hK _ _ (Below.call hC k) k rfl
      refine RegSteps.cons ?_ ?_
      · intro _ az wz hC hF hD _ K hK; have q0 : az.tmps[0]? = some (.slice A l.length c) := hF 0 rfl; clear hF hD; refine want_none rfl ?_; go_simp; exact hK _ _ hC (Below.refl _ _) rfl
      refine RegSteps.cons ?_ ?_
      · intro _ az wz hC hF hD _ K hK; have q1 : az.tmps[1]? = some (.int .i64 (at_ : Int)) := hF 1 rfl; clear hF hD; refine want_none rfl ?_; go_simp; exact hK _ _ hC (Below.refl _ _) rfl
      refine RegSteps.cons ?_ ?_
      · intro _ az wz hC hF hD _ K hK; obtain ⟨_, q27, rfl⟩ := dep hD 4 rfl rfl rfl rfl; clear hF hD; refine want_none rfl ?_; go_simp; try go_ints; exact hK _ _ hC (Below.refl _ _) rfl
      refine RegSteps.cons ?_ ?_
      · intro _ az wz hC hF hD _ K hK; obtain ⟨_, q26, rfl⟩ := dep hD 3 rfl rfl rfl rfl; obtain ⟨_, q28, rfl⟩ := dep hD 5 rfl rfl rfl rfl; clear hF hD; refine want_none rfl ?_; go_simp; refine (HP.out (at_ + 1) _ _ (by omega) (by omega) (hI.on hC)).mono ?_; rintro e wy ⟨rfl, k⟩; exact hK _ _ (Below.call hC k) k rfl
      refine RegSteps.cons ?_ ?_
      · intro _ az wz hC hF hD _ K hK; obtain ⟨_, q25, rfl⟩ := dep hD 2 rfl rfl rfl rfl; obtain ⟨_, q29, rfl⟩ := dep hD 6 rfl rfl rfl rfl; clear hF hD; refine want_none rfl ?_; go_simp; refine (fNumber_any _ _ _ (HG.out _) (HG.out _)).mono ?_; rintro e wy ⟨zp, hzp, x, rfl, k, hx⟩; exact hK _ _ (Below.call hC k) k ⟨x, rfl, zp, hzp, hx⟩
      refine RegSteps.cons ?_ ?_
      · intro _ az wz hC hF hD _ K hK; have q5 : az.tmps[5]? = some (.pointer (some ⟨b5, 0, none⟩)) := hF 5 rfl; obtain ⟨l0, l1, _⟩ := (hY.on hC).all2; clear hF hD; refine want_none rfl ?_; go_simp; exact hK _ _ hC (Below.refl _ _) rfl
      refine RegSteps.cons ?_ ?_
      · intro _ az wz hC hF hD _ K hK; obtain ⟨_, q30, x30, rfl, hx30⟩ := dep hD 7 rfl rfl rfl rfl; obtain ⟨_, q31, rfl⟩ := dep hD 8 rfl rfl rfl rfl; obtain ⟨zp, hzp, hnp⟩ := hx30; clear hF hD; refine want_none rfl ?_; go_simp; refine (fMake_s hnp (hy.on hC) hzp hq hq0).mono ?_; rintro e wy ⟨x, rfl, k, hx⟩; exact hK _ _ (Below.call hC k) k ⟨x, rfl, hx⟩
      refine RegSteps.cons ?_ ?_
      · intro _ az wz hC hF hD _ K hK; obtain ⟨_, q32, x32, rfl, hx32⟩ := dep hD 9 rfl rfl rfl rfl; clear hF hD; refine want_none rfl ?_; go_simp; exact hK _ _ hC (Below.refl _ _) ⟨x32, rfl, hx32⟩
      refine RegSteps.cons ?_ ?_
      · intro _ az wz hC hF hD _ K hK; obtain ⟨_, q22, x22, rfl, hx22⟩ := dep hD 10 rfl rfl rfl rfl; clear hF hD; refine want_none rfl ?_; go_simp; exact hK _ _ hC (Below.refl _ _) ⟨x22, rfl, hx22⟩
      refine RegSteps.cons ?_ ?_
      · intro _ az wz hC hF hD _ K hK; obtain ⟨_, q22, x22, rfl, hx22⟩ := dep hD 10 rfl rfl rfl rfl; clear hF hD; refine want_none rfl ?_; go_simp; exact hK _ _ hC (Below.refl _ _) rfl
      refine RegSteps.cons ?_ ?_
      · exact fun h => by cases h
      refine RegSteps.cons ?_ ?_
      · exact fun h => by cases h
      refine RegSteps.cons ?_ ?_
      · intro _ az wz hC hF hD _ K hK; obtain ⟨_, q34, rfl⟩ := dep hD 12 rfl rfl rfl rfl; clear hF hD; refine want_none rfl ?_; go_simp; exact hK _ _ hC (Below.refl _ _) rfl
      exact RegSteps.nil
    · refine ⟨?_, trivial⟩
      · refine ⟨⟨_, rfl, rfl, rfl, fun az wz K hK => by go_simp; exact hK⟩, ⟨_, rfl, rfl, rfl, ?_⟩, by simp [Word], by simp⟩
        intro az wz gz cs hC hF hD hA K hK
        obtain ⟨p1, p2, p3, p4, p5⟩ := hA
        obtain ⟨_, q33, x, rfl, hx⟩ := dep hD 11 rfl rfl rfl rfl
        obtain ⟨c0, c1, c2, c3, rfl⟩ := list_4 (l := cs) p4
        have z0 := p3.c0
        have z1 := p3.c1
        have z2 := p3.c2
        have z3 := p3.c3
        have f0 := p3.frozen 0
        have f1 := p3.frozen 1
        have f2 := p3.frozen 2
        have f3 := p3.frozen 3
        clear hF hD p3 p5
        refine want_none rfl ?_
        go_simp
        exact hK [.bool x.p.neg, .slice x.p.A x.p.n x.p.c, .bool x.l.neg, .slice x.l.A x.l.n x.l.c] rfl (by simp [Word]) ⟨x, rfl, hx⟩
    intro w9 gs hC hgl hbf
    obtain ⟨gq, rfl⟩ := list_1 hgl
    obtain ⟨⟨hg0, us0, hOb0, ⟨f, rfl, hx⟩⟩, _⟩ := hbf
    rintro _ rfl _ rfl _ rfl _ rfl _ rfl _ rfl _ rfl _ ⟨y30, rfl, _⟩ _ rfl _ ⟨y32, rfl, _⟩ _ ⟨y22, rfl, _⟩ _ ⟨y33, rfl, _⟩ _ rfl _ rfl _ _ _ rfl
    simp only [FinOK, Act.put, List.setIfInBounds_toArray, List.set_cons_zero, List.set_cons_succ]
    have hB2 := Below.call (Below.call hB hb) hC
    have hO2 := (hO.on hb).on hC
    obtain ⟨r, hr, hf⟩ := hx
    obtain ⟨c0, c1, c2, c3, _⟩ := hOb0.all4
    obtain ⟨z0, z1, z2, z3, f0, f1, f2, f3⟩ := hO2.all4
    have HF := Lib.hid ((put_nr hB2 (by omega) hO2 (by simp) (by simp) (by simp) (by simp) hf).rs hr)
    obtain ⟨q0, q1, q2, q3, _⟩ := (hO2.put4 (.bool f.p.neg) (.slice f.p.A f.p.n f.p.c) (.bool f.l.neg) (.slice f.l.A f.l.n f.l.c)).all4
    clear hO2 hf hOb0 hO hB hb hI h hy hY
    go_wp2
    exact bodyPost_ret (v := .agg #[.bool f.p.neg, .slice f.p.A f.p.n f.p.c, .bool f.l.neg, .slice f.l.A f.l.n f.l.c]) (by simp [results, Tryz.results71, go_sem, q0, q1, q2, q3]) rfl HF.out
end Go.Proofs.YthafhbogpfggjaaGreatDoor

/-
  (second part)
-/
namespace Go.Proofs.YthafhbogpfggjaaGreatDoor
open Go.RowKit Mag
open DecM

theorem compareF {f g : FV} {a b : Rat} {w : World} (hf : FR f w a) (hg : FR g w b) : Calls Tryz.prog 90 #[.agg #[.bool f.p.neg, .slice f.p.A f.p.n f.p.c, .bool f.l.neg, .slice f.l.A f.l.n f.l.c], .agg #[.bool g.p.neg, .slice g.p.A g.p.n g.p.c, .bool g.l.neg, .slice g.l.A g.l.n g.l.c]] w (RetInt w (cmpR a b)) := Compare_frac hf hg
set_option maxRecDepth 100000 in
theorem signF {f : FV} {a : Rat} {w : World} (hf : FR f w a) : Calls Tryz.prog 84 #[.agg #[.bool f.p.neg, .slice f.p.A f.p.n f.p.c, .bool f.l.neg, .slice f.l.A f.l.n f.l.c]] w (RetInt w (sgnR a)) := by
  have HZ := Lib.hid (show cmpI a.num 0 = sgnR a from rfl)
  go_enter Tryz.func84, Tryz.ntmps84
  go_upto_region 1 with fail
  refine wp_new1 fun W hA hB => ?_
  replace hf := hf.on hB
  obtain ⟨a0, a1, a2, a3, _⟩ := hA.all4
  go_wp2_with fail
  refine (sign_iv hf.is.num).mono ?_
  rintro e w1 ⟨rfl, k1⟩
  have HB := Lib.hid (Below.call hB k1)
  clear a0 a1 a2 a3
  go_wp2
  go_returns
  exact ⟨by rw [← HZ.out]; rfl, HB.out⟩
set_option maxRecDepth 100000 in
set_option maxHeartbeats 1600000 in
theorem number_any {x : IV} {w : World} {z : Int} (hx : NI x w z) (hz : z.natAbs < top) : Calls Tryz.prog 64 #[.agg #[.bool x.neg, .slice x.A x.n x.c]] w (IntP w z) := by
  have hl := itoa_5000 hz
  obtain ⟨s, hs⟩ : ∃ s : ByteArray, s = ⟨(Lib.itoa z).toArray⟩ := ⟨_, rfl⟩
  have hd : s.data.toList = Lib.itoa z := by rw [hs]
  have hss : s.size ≤ 5000 := by rw [str_size hd]; exact hl
  have hP : ∀ w, Calls Tryz.prog 32 #[.string s] w (IntE w z 0) := fun w => by
    have := wParse_any s (by omega) w
    rwa [hd, Txt.num_itoa hz hl] at this
  have hT : ∀ w, NI x w z → Calls Tryz.prog 28 #[.agg #[.bool x.neg, .slice x.A x.n x.c]] w (fun e w' => e = .returned (.string s) ∧ Below w.heap.size w w') := fun w h => by rw [hs]; exact rText_any h
  have HP := Lib.hid hP
  have HT := Lib.hid hT
  clear hP hT hs hd hl hss
  go_enter Tryz.func64, Tryz.ntmps64
  go_upto_region 1 with fail
  refine wp_new2 fun W hA hO hB => ?_
  obtain ⟨r0, r1⟩ := hA.rules2
  have hW := Below.refl W.heap.size W
  go_wp2_with fail
  refine (HT.out _ (hx.on hB)).mono ?_
  rintro e w1 ⟨rfl, k1⟩
  go_wp2_with fail
  refine (HP.out _).mono ?_
  rintro e w2 ⟨y, rfl, k2, hy⟩
  go_upto_region 2 with fail
  refine wp_new1 fun w3 hY k3 => ?_
  have k4 := Below.call (Below.call k1 k2) k3
  have hO3 := hO.on k4
  obtain ⟨y0, y1, _, _⟩ := hY.all2
  obtain ⟨z0, z1, f0, f1⟩ := hO3.all2
  have hy3 := hy.on k3
  have hF : IntP w z (.returned (.agg #[.bool y.neg, .slice y.A y.n y.c])) ((w3.setCell ⟨w.heap.size + 1, 0, none⟩ (.bool y.neg)).setCell ⟨w.heap.size + 1, 1, none⟩ (.slice y.A y.n y.c)) :=
    ⟨y, rfl, Below.put2 (Below.call hB k4) (by omega) _ _, hy3.put2 hO3 (by simp) (by simp) _ _⟩
  have HF := Lib.hid hF
  obtain ⟨q0, q1, _⟩ := (hO3.put2 (.bool y.neg) (.slice y.A y.n y.c)).all2
  clear hF hO3 hY hO hA hy hy3 hx r0 r1
  go_wp2
  exact bodyPost_ret (v := .agg #[.bool y.neg, .slice y.A y.n y.c]) (by simp [results, Tryz.results64, go_sem, q0, q1]) rfl HF.out
/-- The fraction is in range. -/
def FitR (r : Rat) : Prop := r.num.natAbs < top ∧ (r.den : Int).natAbs < top
theorem SmR.fit {k : Nat} {r : Rat} (h : SmR k r) (hk : k ≤ 1200) : FitR r := ⟨h.1.top hk, h.2.top hk⟩
theorem FitR.sm {r : Rat} (h : FitR r) : SmR 1240 r := ⟨sm_of_top h.1, sm_of_top h.2⟩
theorem FR.fit {f : FV} {w : World} {r : Rat} (h : FR f w r) : FitR r := ⟨h.is.num.fits, h.is.fits⟩
theorem makeR_self (r : Rat) : makeR r.num r.den = (r, 0) := by
  unfold makeR
  rw [if_neg (rat_den_ne r), rat_self]
set_option maxRecDepth 100000 in
set_option maxHeartbeats 1600000 in
theorem of_any {f : FV} {r : Rat} {w : World} (hf : NR f w r) (hfit : FitR r) : Calls Tryz.prog 73 #[.agg #[.bool f.p.neg, .slice f.p.A f.p.n f.p.c, .bool f.l.neg, .slice f.l.A f.l.n f.l.c]] w (RetFR w r) := by
  have HMk : Hid (∀ (x y : IV) (u : World), x.is u r.num → y.is u (r.den : Int) → Calls Tryz.prog 63 #[.agg #[.bool x.neg, .slice x.A x.n x.c], .agg #[.bool y.neg, .slice y.A y.n y.c]] u (RetFRE u r 0)) := Lib.hid fun x y u h1 h2 => by
    have := makeF h1 h2
    rwa [makeR_self] at this
  go_enter Tryz.func73, Tryz.ntmps73
  go_upto_region 1 with fail
  refine wp_new2 fun W hA hO hB => ?_
  replace hf := hf.on hB
  refine wp_region_boxes W [Spec.eq (.pointer (some ⟨w.heap.size, 0, none⟩)), Spec.eq (.agg #[.bool f.p.neg, .slice f.p.A f.p.n f.p.c]), sWp r.num, Spec.eq (.pointer (some ⟨w.heap.size, 2, none⟩)), Spec.eq (.agg #[.bool f.l.neg, .slice f.l.A f.l.n f.l.c]), sWp (r.den : Int), sFRE r 0, sFRE r 0, sFR r, Spec.eq (.int .i64 0), Spec.any, Spec.any, Spec.eq (.int .i64 0)]
      [{ A := 10, j := 11, t := 3, T := 31, zs := [.bool false, .slice none 0 0, .bool false, .slice none 0 0], X := fun us w => ∃ x : FV, us = [.bool x.p.neg, .slice x.p.A x.p.n x.p.c, .bool x.l.neg, .slice x.l.A x.l.n x.l.c] ∧ FR x w r, up := fun ⟨x, e, hx⟩ k => ⟨x, e, hx.keeps k⟩ }]
      (by kernel_rfl) (by kernel_rfl) rfl (by kernel_rfl) rfl (Below.drew (Below.refl _ _)) ?_ ?_ ⟨rfl, rfl, trivial⟩ ?_
  ·
    refine RegSteps.cons ?_ ?_
    · intro _ az wz hC hF hD _ K hK; have q1 : az.tmps[1]? = some (.pointer (some ⟨w.heap.size, 0, none⟩)) := hF 1 rfl; clear hF hD; refine want_none rfl ?_; go_simp; exact hK _ _ hC (Below.refl _ _) rfl
    refine RegSteps.cons ?_ ?_
    · intro _ az wz hC hF hD _ K hK; obtain ⟨_, q6, rfl⟩ := dep hD 0 rfl rfl rfl rfl; obtain ⟨l0, l1, l2, l3, _⟩ := (hA.on hC).all4; clear hF hD; refine want_none rfl ?_; go_simp; exact hK _ _ hC (Below.refl _ _) rfl
    refine RegSteps.cons ?_ ?_
    · intro _ az wz hC hF hD _ K hK; obtain ⟨_, q7, rfl⟩ := dep hD 1 rfl rfl rfl rfl; clear hF hD; refine want_none rfl ?_; go_simp; refine (number_any (hf.1.on hC) hfit.1).mono ?_; rintro e wy ⟨x, rfl, k, hx⟩; exact hK _ _ (Below.call hC k) k ⟨x, rfl, hx⟩
    refine RegSteps.cons ?_ ?_
    · intro _ az wz hC hF hD _ K hK; have q1 : az.tmps[1]? = some (.pointer (some ⟨w.heap.size, 0, none⟩)) := hF 1 rfl; clear hF hD; refine want_none rfl ?_; go_simp; exact hK _ _ hC (Below.refl _ _) rfl
    refine RegSteps.cons ?_ ?_
    · intro _ az wz hC hF hD _ K hK; obtain ⟨_, q9, rfl⟩ := dep hD 3 rfl rfl rfl rfl; obtain ⟨l0, l1, l2, l3, _⟩ := (hA.on hC).all4; clear hF hD; refine want_none rfl ?_; go_simp; exact hK _ _ hC (Below.refl _ _) rfl
    refine RegSteps.cons ?_ ?_
    · intro _ az wz hC hF hD _ K hK; obtain ⟨_, q10, rfl⟩ := dep hD 4 rfl rfl rfl rfl; clear hF hD; refine want_none rfl ?_; go_simp; refine (number_any (hf.2.on hC) hfit.2).mono ?_; rintro e wy ⟨x, rfl, k, hx⟩; exact hK _ _ (Below.call hC k) k ⟨x, rfl, hx⟩
    refine RegSteps.cons ?_ ?_
    · intro _ az wz hC hF hD _ K hK; obtain ⟨_, q8, x8, rfl, hx8⟩ := dep hD 2 rfl rfl rfl rfl; obtain ⟨_, q11, x11, rfl, hx11⟩ := dep hD 5 rfl rfl rfl rfl; clear hF hD; refine want_none rfl ?_; go_simp; refine (HMk.out _ _ _ hx8 hx11).mono ?_; rintro e wy ⟨x, rfl, k, hx⟩; exact hK _ _ (Below.call hC k) k ⟨x, rfl, hx⟩
    refine RegSteps.cons ?_ ?_
    · intro _ az wz hC hF hD _ K hK; obtain ⟨_, q12, x12, rfl, hx12⟩ := dep hD 6 rfl rfl rfl rfl; clear hF hD; refine want_none rfl ?_; go_simp; exact hK _ _ hC (Below.refl _ _) ⟨x12, rfl, hx12⟩
    refine RegSteps.cons ?_ ?_
    · intro _ az wz hC hF hD _ K hK; obtain ⟨_, q5, x5, rfl, hx5⟩ := dep hD 7 rfl rfl rfl rfl; clear hF hD; refine want_none rfl ?_; go_simp; exact hK _ _ hC (Below.refl _ _) ⟨x5, rfl, hx5⟩
    refine RegSteps.cons ?_ ?_
    · intro _ az wz hC hF hD _ K hK; obtain ⟨_, q5, x5, rfl, hx5⟩ := dep hD 7 rfl rfl rfl rfl; clear hF hD; refine want_none rfl ?_; go_simp; exact hK _ _ hC (Below.refl _ _) rfl
    refine RegSteps.cons ?_ ?_
    · exact fun h => by cases h
    refine RegSteps.cons ?_ ?_
    · exact fun h => by cases h
    refine RegSteps.cons ?_ ?_
    · intro _ az wz hC hF hD _ K hK; obtain ⟨_, q14, rfl⟩ := dep hD 9 rfl rfl rfl rfl; clear hF hD; refine want_none rfl ?_; go_simp; exact hK _ _ hC (Below.refl _ _) rfl
    exact RegSteps.nil
  · refine ⟨?_, trivial⟩
    · refine ⟨⟨_, rfl, rfl, rfl, fun az wz K hK => by go_simp; exact hK⟩, ⟨_, rfl, rfl, rfl, ?_⟩, by simp [Word], by simp⟩
      intro az wz gz cs hC hF hD hA K hK
      obtain ⟨p1, p2, p3, p4, p5⟩ := hA
      obtain ⟨_, q13, x, rfl, hx⟩ := dep hD 8 rfl rfl rfl rfl
      obtain ⟨c0, c1, c2, c3, rfl⟩ := list_4 (l := cs) p4
      have z0 := p3.c0
      have z1 := p3.c1
      have z2 := p3.c2
      have z3 := p3.c3
      have f0 := p3.frozen 0
      have f1 := p3.frozen 1
      have f2 := p3.frozen 2
      have f3 := p3.frozen 3
      clear hF hD p3 p5
      refine want_none rfl ?_
      go_simp
      exact hK [.bool x.p.neg, .slice x.p.A x.p.n x.p.c, .bool x.l.neg, .slice x.l.A x.l.n x.l.c] rfl (by simp [Word]) ⟨x, rfl, hx⟩
  intro w2 gs hC hgl hbf
  obtain ⟨gq, rfl⟩ := list_1 hgl
  obtain ⟨⟨hg0, us0, hOb0, ⟨x, rfl, hx⟩⟩, _⟩ := hbf
  rintro _ rfl _ rfl _ ⟨y8, rfl, _⟩ _ rfl _ rfl _ ⟨y11, rfl, _⟩ _ ⟨y12, rfl, _⟩ _ ⟨y5, rfl, _⟩ _ ⟨y13, rfl, _⟩ _ rfl _ rfl _ _ _ rfl
  simp only [FinOK, Act.put, List.setIfInBounds_toArray, List.set_cons_zero, List.set_cons_succ]
  have hB2 := Below.call hB hC
  have hO2 := hO.on hC
  obtain ⟨c0, c1, c2, c3, _⟩ := hOb0.all4
  clear hA hO hB hf hC hOb0
  obtain ⟨z0, z1, z2, z3, f0, f1, f2, f3⟩ := hO2.all4
  have HF := Lib.hid (put_fr hB2 (by omega) hO2 (by simp) (by simp) (by simp) (by simp) hx)
  obtain ⟨q0, q1, q2, q3, _⟩ := (hO2.put4 (.bool x.p.neg) (.slice x.p.A x.p.n x.p.c) (.bool x.l.neg) (.slice x.l.A x.l.n x.l.c)).all4
  clear hO2 hx
  go_wp2
  exact bodyPost_ret (v := .agg #[.bool x.p.neg, .slice x.p.A x.p.n x.p.c, .bool x.l.neg, .slice x.l.A x.l.n x.l.c]) (by simp [results, Tryz.results73, go_sem, q0, q1, q2, q3]) rfl HF.out
set_option maxRecDepth 100000 in
set_option maxHeartbeats 1600000 in
theorem same_any {f g : FV} {r : Rat} {w : World} (hf : FR f w r) (hg : NR g w r) (ht : Tab w) : Calls Tryz.prog 66 #[.agg #[.bool f.p.neg, .slice f.p.A f.p.n f.p.c, .bool f.l.neg, .slice f.l.A f.l.n f.l.c], .agg #[.bool g.p.neg, .slice g.p.A g.p.n g.p.c, .bool g.l.neg, .slice g.l.A g.l.n g.l.c]] w (RetBool w true) := by
  obtain ⟨sp, hsp⟩ : ∃ s : ByteArray, s = ⟨(Lib.itoa r.num).toArray⟩ := ⟨_, rfl⟩
  obtain ⟨sq, hsq⟩ : ∃ s : ByteArray, s = ⟨(Lib.itoa (r.den : Int)).toArray⟩ := ⟨_, rfl⟩
  have HSP : Hid (∀ (x : IV) (u : World), x.is u r.num → Tab u → Calls Tryz.prog 35 #[.agg #[.bool x.neg, .slice x.A x.n x.c]] u (fun e w' => e = .returned (.string sp) ∧ Below u.heap.size u w')) := Lib.hid fun x u h t => by rw [hsp]; exact string_iv h t
  have HSQ : Hid (∀ (x : IV) (u : World), x.is u (r.den : Int) → Tab u → Calls Tryz.prog 35 #[.agg #[.bool x.neg, .slice x.A x.n x.c]] u (fun e w' => e = .returned (.string sq) ∧ Below u.heap.size u w')) := Lib.hid fun x u h t => by rw [hsq]; exact string_iv h t
  have HTP : Hid (∀ (x : IV) (u : World), NI x u r.num → Calls Tryz.prog 28 #[.agg #[.bool x.neg, .slice x.A x.n x.c]] u (fun e w' => e = .returned (.string sp) ∧ Below u.heap.size u w')) := Lib.hid fun x u h => by rw [hsp]; exact rText_any h
  have HTQ : Hid (∀ (x : IV) (u : World), NI x u (r.den : Int) → Calls Tryz.prog 28 #[.agg #[.bool x.neg, .slice x.A x.n x.c]] u (fun e w' => e = .returned (.string sq) ∧ Below u.heap.size u w')) := Lib.hid fun x u h => by rw [hsq]; exact rText_any h
  clear hsp hsq
  go_enter Tryz.func66, Tryz.ntmps66
  go_upto_region 1 with fail
  refine wp_new2 fun W hA hBx hB => ?_
  replace hf := hf.on hB
  replace hg := hg.on hB
  replace ht := ht.on hB
  refine wp_region_specs W [Spec.eq (.agg #[.bool f.p.neg, .slice f.p.A f.p.n f.p.c, .bool f.l.neg, .slice f.l.A f.l.n f.l.c]), Spec.eq (.agg #[.bool f.p.neg, .slice f.p.A f.p.n f.p.c]), Spec.eq (.string sp), Spec.eq (.pointer (some ⟨w.heap.size + 1, 0, none⟩)), Spec.eq (.agg #[.bool g.p.neg, .slice g.p.A g.p.n g.p.c]), Spec.eq (.string sp), Spec.eq (.bool true), Spec.eq (.bool true), Spec.eq (.agg #[.bool f.p.neg, .slice f.p.A f.p.n f.p.c, .bool f.l.neg, .slice f.l.A f.l.n f.l.c]), sW (r.den : Int), Spec.eq (.string sq), Spec.eq (.pointer (some ⟨w.heap.size + 1, 2, none⟩)), Spec.eq (.agg #[.bool g.l.neg, .slice g.l.A g.l.n g.l.c]), Spec.eq (.string sq), Spec.eq (.bool true), Spec.eq (.bool true), Spec.eq (.bool true)]
      (by kernel_rfl) (by kernel_rfl) rfl (by kernel_rfl) (Below.drew (Below.refl _ _)) ?_ ?_
  ·
    refine RegSteps.cons ?_ ?_
    · intro _ az wz hC hF hD _ K hK; have q2 : az.tmps[2]? = some (.pointer (some ⟨w.heap.size, 0, none⟩)) := hF 2 rfl; obtain ⟨l0, l1, l2, l3, _⟩ := (hA.on hC).all4; clear hF hD; refine want_none rfl ?_; go_simp; exact hK _ _ hC (Below.refl _ _) rfl
    refine RegSteps.cons ?_ ?_
    · intro _ az wz hC hF hD _ K hK; obtain ⟨_, q5, rfl⟩ := dep hD 0 rfl rfl rfl rfl; clear hF hD; refine want_none rfl ?_; go_simp; refine (Num_any).mono ?_; rintro e wy ⟨rfl, k⟩; exact hK _ _ (Below.call hC k) k rfl
    refine RegSteps.cons ?_ ?_
    · intro _ az wz hC hF hD _ K hK; obtain ⟨_, q6, rfl⟩ := dep hD 1 rfl rfl rfl rfl; clear hF hD; refine want_none rfl ?_; go_simp; refine (HSP.out _ _ (hf.on hC).is.num (ht.on hC)).mono ?_; rintro e wy ⟨rfl, k⟩; exact hK _ _ (Below.call hC k) k rfl
    refine RegSteps.cons ?_ ?_
    · intro _ az wz hC hF hD _ K hK; have q3 : az.tmps[3]? = some (.pointer (some ⟨w.heap.size + 1, 0, none⟩)) := hF 3 rfl; clear hF hD; refine want_none rfl ?_; go_simp; exact hK _ _ hC (Below.refl _ _) rfl
    refine RegSteps.cons ?_ ?_
    · intro _ az wz hC hF hD _ K hK; obtain ⟨_, q8, rfl⟩ := dep hD 3 rfl rfl rfl rfl; obtain ⟨l0, l1, l2, l3, _⟩ := (hBx.on hC).all4; clear hF hD; refine want_none rfl ?_; go_simp; exact hK _ _ hC (Below.refl _ _) rfl
    refine RegSteps.cons ?_ ?_
    · intro _ az wz hC hF hD _ K hK; obtain ⟨_, q9, rfl⟩ := dep hD 4 rfl rfl rfl rfl; clear hF hD; refine want_none rfl ?_; go_simp; refine (HTP.out _ _ (hg.on hC).1).mono ?_; rintro e wy ⟨rfl, k⟩; exact hK _ _ (Below.call hC k) k rfl
    refine RegSteps.cons ?_ ?_
    · intro _ az wz hC hF hD _ K hK; obtain ⟨_, q7, rfl⟩ := dep hD 2 rfl rfl rfl rfl; obtain ⟨_, q10, rfl⟩ := dep hD 5 rfl rfl rfl rfl; clear hF hD; refine want_none rfl ?_; go_simp; exact hK _ _ hC (Below.refl _ _) rfl
    refine RegSteps.cons ?_ ?_
    · intro _ az wz hC hF hD _ K hK; obtain ⟨_, q11, rfl⟩ := dep hD 6 rfl rfl rfl rfl; clear hF hD; refine want_none rfl ?_; go_simp; exact hK _ _ hC (Below.refl _ _) rfl
    refine RegSteps.cons ?_ ?_
    · intro _ az wz hC hF hD _ K hK; have q2 : az.tmps[2]? = some (.pointer (some ⟨w.heap.size, 0, none⟩)) := hF 2 rfl; obtain ⟨_, qg, rfl⟩ := dep hD 7 rfl rfl rfl rfl; obtain ⟨l0, l1, l2, l3, _⟩ := (hA.on hC).all4; clear hF hD; refine want_yes rfl rfl rfl qg ?_; go_simp; exact hK _ _ hC (Below.refl _ _) rfl
    refine RegSteps.cons ?_ ?_
    · intro _ az wz hC hF hD _ K hK; obtain ⟨_, q13, rfl⟩ := dep hD 8 rfl rfl rfl rfl; obtain ⟨_, qg, rfl⟩ := dep hD 7 rfl rfl rfl rfl; clear hF hD; refine want_yes rfl rfl rfl qg ?_; go_simp; refine (Den_any (hf.on hC).is).mono ?_; rintro e wy ⟨x, rfl, k, hx⟩; exact hK _ _ (Below.call hC k) k ⟨x, rfl, hx⟩
    refine RegSteps.cons ?_ ?_
    · intro _ az wz hC hF hD _ K hK; obtain ⟨_, q14, x14, rfl, hx14⟩ := dep hD 9 rfl rfl rfl rfl; obtain ⟨_, qg, rfl⟩ := dep hD 7 rfl rfl rfl rfl; clear hF hD; refine want_yes rfl rfl rfl qg ?_; go_simp; refine (HSQ.out _ _ hx14 (ht.on hC)).mono ?_; rintro e wy ⟨rfl, k⟩; exact hK _ _ (Below.call hC k) k rfl
    refine RegSteps.cons ?_ ?_
    · intro _ az wz hC hF hD _ K hK; have q3 : az.tmps[3]? = some (.pointer (some ⟨w.heap.size + 1, 0, none⟩)) := hF 3 rfl; obtain ⟨_, qg, rfl⟩ := dep hD 7 rfl rfl rfl rfl; clear hF hD; refine want_yes rfl rfl rfl qg ?_; go_simp; exact hK _ _ hC (Below.refl _ _) rfl
    refine RegSteps.cons ?_ ?_
    · intro _ az wz hC hF hD _ K hK; obtain ⟨_, q16, rfl⟩ := dep hD 11 rfl rfl rfl rfl; obtain ⟨_, qg, rfl⟩ := dep hD 7 rfl rfl rfl rfl; obtain ⟨l0, l1, l2, l3, _⟩ := (hBx.on hC).all4; clear hF hD; refine want_yes rfl rfl rfl qg ?_; go_simp; exact hK _ _ hC (Below.refl _ _) rfl
    refine RegSteps.cons ?_ ?_
    · intro _ az wz hC hF hD _ K hK; obtain ⟨_, q17, rfl⟩ := dep hD 12 rfl rfl rfl rfl; obtain ⟨_, qg, rfl⟩ := dep hD 7 rfl rfl rfl rfl; clear hF hD; refine want_yes rfl rfl rfl qg ?_; go_simp; refine (HTQ.out _ _ (hg.on hC).2).mono ?_; rintro e wy ⟨rfl, k⟩; exact hK _ _ (Below.call hC k) k rfl
    refine RegSteps.cons ?_ ?_
    · intro _ az wz hC hF hD _ K hK; obtain ⟨_, q15, rfl⟩ := dep hD 10 rfl rfl rfl rfl; obtain ⟨_, q18, rfl⟩ := dep hD 13 rfl rfl rfl rfl; obtain ⟨_, qg, rfl⟩ := dep hD 7 rfl rfl rfl rfl; clear hF hD; refine want_yes rfl rfl rfl qg ?_; go_simp; exact hK _ _ hC (Below.refl _ _) rfl
    refine RegSteps.cons ?_ ?_
    · intro _ az wz hC hF hD _ K hK; obtain ⟨_, q12, rfl⟩ := dep hD 7 rfl rfl rfl rfl; obtain ⟨_, q19, rfl⟩ := dep hD 14 rfl rfl rfl rfl; clear hF hD; refine want_none rfl ?_; go_simp; exact hK _ _ hC (Below.refl _ _) rfl
    refine RegSteps.cons ?_ ?_
    · intro _ az wz hC hF hD _ K hK; obtain ⟨_, q20, rfl⟩ := dep hD 15 rfl rfl rfl rfl; clear hF hD; refine want_none rfl ?_; go_simp; exact hK _ _ hC (Below.refl _ _) rfl
    exact RegSteps.nil
  intro w2 hC
  rintro _ rfl _ rfl _ rfl _ rfl _ rfl _ rfl _ rfl _ rfl _ rfl _ ⟨y14, rfl, _⟩ _ rfl _ rfl _ rfl _ rfl _ rfl _ rfl _ rfl
  simp only [FinOK, Act.put, List.setIfInBounds_toArray, List.set_cons_zero, List.set_cons_succ]
  have HB := Lib.hid (Below.call hB hC)
  go_wp2
  go_returns
  exact ⟨rfl, HB.out⟩
theorem FString_r {f : FV} {a : Rat} {w : World} (hf : FR f w a) (ht : Tab w) : Calls Tryz.prog 87 #[.agg #[.bool f.p.neg, .slice f.p.A f.p.n f.p.c, .bool f.l.neg, .slice f.l.A f.l.n f.l.c]] w (TxtPost w (rtext a)) := FString_any hf ht
set_option maxRecDepth 100000 in
set_option maxHeartbeats 1600000 in
theorem equalF_any {f g : FV} {a b : Rat} {w : World} (hf : FR f w a) (hg : FR g w b) (ht : Tab w) : Calls Tryz.prog 83 #[.agg #[.bool f.p.neg, .slice f.p.A f.p.n f.p.c, .bool f.l.neg, .slice f.l.A f.l.n f.l.c], .agg #[.bool g.p.neg, .slice g.p.A g.p.n g.p.c, .bool g.l.neg, .slice g.l.A g.l.n g.l.c]] w (RetBool w (decide (a = b))) := by
  obtain ⟨sa, hsa⟩ : ∃ s : ByteArray, s = ⟨(rtext a).toArray⟩ := ⟨_, rfl⟩
  obtain ⟨sb, hsb⟩ : ∃ s : ByteArray, s = ⟨(rtext b).toArray⟩ := ⟨_, rfl⟩
  have HEQ := Lib.hid (show (sa.toList == sb.toList) = decide (a = b) by
    rw [hsa, hsb, ByteArray.toList_mk, ByteArray.toList_mk]
    by_cases h : a = b
    · subst h; simp
    · rw [decide_eq_false h, beq_eq_false_iff_ne]
      exact fun e => h (rtext_inj hf.fit hg.fit e))
  have HSA : Hid (∀ (x : FV) (u : World), FR x u a → Tab u → Calls Tryz.prog 87 #[.agg #[.bool x.p.neg, .slice x.p.A x.p.n x.p.c, .bool x.l.neg, .slice x.l.A x.l.n x.l.c]] u (fun e w' => e = .returned (.string sa) ∧ Below u.heap.size u w')) := Lib.hid fun x u h t => by rw [hsa]; exact FString_r h t
  have HSB : Hid (∀ (x : FV) (u : World), FR x u b → Tab u → Calls Tryz.prog 87 #[.agg #[.bool x.p.neg, .slice x.p.A x.p.n x.p.c, .bool x.l.neg, .slice x.l.A x.l.n x.l.c]] u (fun e w' => e = .returned (.string sb) ∧ Below u.heap.size u w')) := Lib.hid fun x u h t => by rw [hsb]; exact FString_r h t
  clear hsa hsb
  go_enter Tryz.func83, Tryz.ntmps83
  go_upto_region 1 with fail
  refine wp_new2 fun W hA hBx hB => ?_
  replace hf := hf.on hB
  replace hg := hg.on hB
  replace ht := ht.on hB
  refine wp_region_specs W [Spec.eq (.agg #[.bool f.p.neg, .slice f.p.A f.p.n f.p.c, .bool f.l.neg, .slice f.l.A f.l.n f.l.c]), Spec.eq (.string sa), Spec.eq (.agg #[.bool g.p.neg, .slice g.p.A g.p.n g.p.c, .bool g.l.neg, .slice g.l.A g.l.n g.l.c]), Spec.eq (.string sb), Spec.eq (.bool (decide (a = b))), Spec.eq (.bool (decide (a = b)))]
      (by kernel_rfl) (by kernel_rfl) rfl (by kernel_rfl) (Below.drew (Below.refl _ _)) ?_ ?_
  ·
    refine RegSteps.cons ?_ ?_
    · intro _ az wz hC hF hD _ K hK; have q2 : az.tmps[2]? = some (.pointer (some ⟨w.heap.size, 0, none⟩)) := hF 2 rfl; obtain ⟨l0, l1, l2, l3, _⟩ := (hA.on hC).all4; clear hF hD; refine want_none rfl ?_; go_simp; exact hK _ _ hC (Below.refl _ _) rfl
    refine RegSteps.cons ?_ ?_
    · intro _ az wz hC hF hD _ K hK; obtain ⟨_, q5, rfl⟩ := dep hD 0 rfl rfl rfl rfl; clear hF hD; refine want_none rfl ?_; go_simp; refine (HSA.out _ _ (hf.on hC) (ht.on hC)).mono ?_; rintro e wy ⟨rfl, k⟩; exact hK _ _ (Below.call hC k) k rfl
    refine RegSteps.cons ?_ ?_
    · intro _ az wz hC hF hD _ K hK; have q3 : az.tmps[3]? = some (.pointer (some ⟨w.heap.size + 1, 0, none⟩)) := hF 3 rfl; obtain ⟨l0, l1, l2, l3, _⟩ := (hBx.on hC).all4; clear hF hD; refine want_none rfl ?_; go_simp; exact hK _ _ hC (Below.refl _ _) rfl
    refine RegSteps.cons ?_ ?_
    · intro _ az wz hC hF hD _ K hK; obtain ⟨_, q7, rfl⟩ := dep hD 2 rfl rfl rfl rfl; clear hF hD; refine want_none rfl ?_; go_simp; refine (HSB.out _ _ (hg.on hC) (ht.on hC)).mono ?_; rintro e wy ⟨rfl, k⟩; exact hK _ _ (Below.call hC k) k rfl
    refine RegSteps.cons ?_ ?_
    · intro _ az wz hC hF hD _ K hK; obtain ⟨_, q6, rfl⟩ := dep hD 1 rfl rfl rfl rfl; obtain ⟨_, q8, rfl⟩ := dep hD 3 rfl rfl rfl rfl; have heq : (sa.toList == sb.toList) = decide (a = b) := HEQ.out; clear hF hD; refine want_none rfl ?_; go_simp; exact hK _ _ hC (Below.refl _ _) rfl
    refine RegSteps.cons ?_ ?_
    · intro _ az wz hC hF hD _ K hK; obtain ⟨_, q9, rfl⟩ := dep hD 4 rfl rfl rfl rfl; clear hF hD; refine want_none rfl ?_; go_simp; exact hK _ _ hC (Below.refl _ _) rfl
    exact RegSteps.nil
  intro w2 hC
  rintro _ rfl _ rfl _ rfl _ rfl _ rfl _ rfl
  simp only [FinOK, Act.put, List.setIfInBounds_toArray, List.set_cons_zero, List.set_cons_succ]
  have HB := Lib.hid (Below.call hB hC)
  go_wp2
  go_returns
  exact ⟨rfl, HB.out⟩
theorem divInt_one (n : Int) : Rat.divInt n 1 = (n : Rat) := rat_self (n : Rat)
set_option maxRecDepth 100000 in
set_option maxHeartbeats 1600000 in
theorem whole_any (n : Int) (w : World) (hn : in64 n) : Calls Tryz.prog 68 #[.int .i64 n] w (RetFR w (n : Rat)) := by
  have HO : Hid (∀ u, Calls Tryz.prog 67 #[.int .i64 n, .int .i64 1] u (RetFRE u (n : Rat) 0)) := Lib.hid fun u => by
    rw [← divInt_one]
    exact ofF n 1 u hn ⟨by omega, by omega⟩ (by omega)
  go_enter Tryz.func68, Tryz.ntmps68
  go_upto_region 1 with fail
  refine wp_new1 fun W hO hB => ?_
  go_wp2_with fail
  refine (HO.out _).mono ?_
  rintro e w1 ⟨f, rfl, k1, hf⟩
  go_upto_region 2 with fail
  refine wp_new1 fun w2 hF k2 => ?_
  have kk := Below.call k1 k2
  have hB2 := Below.call hB kk
  have hO2 := hO.on kk
  have hf2 := hf.on k2
  obtain ⟨c0, c1, c2, c3, _⟩ := hF.all4
  clear hf k1 k2 kk hO hB hF
  obtain ⟨z0, z1, z2, z3, f0, f1, f2, f3⟩ := hO2.all4
  have HF := Lib.hid (put_fr hB2 (by omega) hO2 (by simp) (by simp) (by simp) (by simp) hf2)
  obtain ⟨q0, q1, q2, q3, _⟩ := (hO2.put4 (.bool f.p.neg) (.slice f.p.A f.p.n f.p.c) (.bool f.l.neg) (.slice f.l.A f.l.n f.l.c)).all4
  clear hO2 hf2
  go_wp2
  exact bodyPost_ret (v := .agg #[.bool f.p.neg, .slice f.p.A f.p.n f.p.c, .bool f.l.neg, .slice f.l.A f.l.n f.l.c]) (by simp [results, Tryz.results68, go_sem, q0, q1, q2, q3]) rfl HF.out
end Go.Proofs.YthafhbogpfggjaaGreatDoor

/-
  (second part)
-/
namespace Go.Proofs.YthafhbogpfggjaaGreatDoor
open Go.RowKit Mag

/-- A fraction in a list. -/
structure FAt (w : World) (g i k : Nat) (x : FV) (r : Rat) : Prop where
  sm : SmR k r
  nr : NR x w r
  c0 : w.cell? ⟨g, i * 4, none⟩ = some (.bool x.p.neg)
  c1 : w.cell? ⟨g, i * 4 + 1, none⟩ = some (.slice x.p.A x.p.n x.p.c)
  c2 : w.cell? ⟨g, i * 4 + 2, none⟩ = some (.bool x.l.neg)
  c3 : w.cell? ⟨g, i * 4 + 3, none⟩ = some (.slice x.l.A x.l.n x.l.c)
  lt : g < w.heap.size
theorem FAt.on {w w' : World} {g i k : Nat} {x : FV} {r : Rat} (h : FAt w g i k x r) (hb : Below w.heap.size w w') : FAt w' g i k x r :=
  ⟨h.sm, h.nr.on hb, (hb.cell (p := ⟨g, _, none⟩) h.lt).trans h.c0, (hb.cell (p := ⟨g, _, none⟩) h.lt).trans h.c1, (hb.cell (p := ⟨g, _, none⟩) h.lt).trans h.c2, (hb.cell (p := ⟨g, _, none⟩) h.lt).trans h.c3, Nat.lt_of_lt_of_le h.lt hb.size⟩
theorem FAt.all {w : World} {g i k : Nat} {x : FV} {r : Rat} (h : FAt w g i k x r) : ∀ u, Below w.heap.size w u → u.cell? ⟨g, i * 4, none⟩ = some (.bool x.p.neg) ∧ u.cell? ⟨g, i * 4 + 1, none⟩ = some (.slice x.p.A x.p.n x.p.c) ∧ u.cell? ⟨g, i * 4 + 2, none⟩ = some (.bool x.l.neg) ∧ u.cell? ⟨g, i * 4 + 3, none⟩ = some (.slice x.l.A x.l.n x.l.c) :=
  fun _ hu => ⟨(h.on hu).c0, (h.on hu).c1, (h.on hu).c2, (h.on hu).c3⟩
theorem FAt.rules {w : World} {g i k : Nat} {x : FV} {r : Rat} (h : FAt w g i k x r) : (∀ u, Below w.heap.size w u → u.cell? ⟨g, i * 4, none⟩ = some (.bool x.p.neg)) ∧ (∀ u, Below w.heap.size w u → u.cell? ⟨g, i * 4 + 1, none⟩ = some (.slice x.p.A x.p.n x.p.c)) ∧ (∀ u, Below w.heap.size w u → u.cell? ⟨g, i * 4 + 2, none⟩ = some (.bool x.l.neg)) ∧ (∀ u, Below w.heap.size w u → u.cell? ⟨g, i * 4 + 3, none⟩ = some (.slice x.l.A x.l.n x.l.c)) :=
  ⟨fun _ hu => (h.on hu).c0, fun _ hu => (h.on hu).c1, fun _ hu => (h.on hu).c2, fun _ hu => (h.on hu).c3⟩
def FList (w : World) (g n k : Nat) : Prop := ∀ i, i < n → ∃ x r, FAt w g i k x r
theorem FList.on {w w' : World} {g n k : Nat} (h : FList w g n k) (hb : Below w.heap.size w w') : FList w' g n k := fun i hi => by
  obtain ⟨x, r, hx⟩ := h i hi
  exact ⟨x, r, hx.on hb⟩
def sFL (n k : Nat) : Spec Bel := ⟨fun v w => ∃ g, v = .slice (some ⟨g, 0, none⟩) n n ∧ FList w g n k, fun ⟨x, e, h⟩ u => ⟨x, e, h.on u⟩⟩
theorem FList.mk4 {w : World} {t : TypeId} {x y z u : FV} {k : Nat} (hx : RS k x w) (hy : RS k y w) (hz : RS k z w) (hu : RS k u w) : FList (w.alloc (.cells #[.bool x.p.neg, .slice x.p.A x.p.n x.p.c, .bool x.l.neg, .slice x.l.A x.l.n x.l.c, .bool y.p.neg, .slice y.p.A y.p.n y.p.c, .bool y.l.neg, .slice y.l.A y.l.n y.l.c, .bool z.p.neg, .slice z.p.A z.p.n z.p.c, .bool z.l.neg, .slice z.l.A z.l.n z.l.c, .bool u.p.neg, .slice u.p.A u.p.n u.p.c, .bool u.l.neg, .slice u.l.A u.l.n u.l.c] t)) w.heap.size 4 k := fun i hi => by
  have hO : Own (w.alloc (.cells #[.bool x.p.neg, .slice x.p.A x.p.n x.p.c, .bool x.l.neg, .slice x.l.A x.l.n x.l.c, .bool y.p.neg, .slice y.p.A y.p.n y.p.c, .bool y.l.neg, .slice y.l.A y.l.n y.l.c, .bool z.p.neg, .slice z.p.A z.p.n z.p.c, .bool z.l.neg, .slice z.l.A z.l.n z.l.c, .bool u.p.neg, .slice u.p.A u.p.n u.p.c, .bool u.l.neg, .slice u.l.A u.l.n u.l.c] t)) w.heap.size t [.bool x.p.neg, .slice x.p.A x.p.n x.p.c, .bool x.l.neg, .slice x.l.A x.l.n x.l.c, .bool y.p.neg, .slice y.p.A y.p.n y.p.c, .bool y.l.neg, .slice y.l.A y.l.n y.l.c, .bool z.p.neg, .slice z.p.A z.p.n z.p.c, .bool z.l.neg, .slice z.l.A z.l.n z.l.c, .bool u.p.neg, .slice u.p.A u.p.n u.p.c, .bool u.l.neg, .slice u.l.A u.l.n u.l.c] := Own.new w t _
  have hb := below_new w (.cells #[.bool x.p.neg, .slice x.p.A x.p.n x.p.c, .bool x.l.neg, .slice x.l.A x.l.n x.l.c, .bool y.p.neg, .slice y.p.A y.p.n y.p.c, .bool y.l.neg, .slice y.l.A y.l.n y.l.c, .bool z.p.neg, .slice z.p.A z.p.n z.p.c, .bool z.l.neg, .slice z.l.A z.l.n z.l.c, .bool u.p.neg, .slice u.p.A u.p.n u.p.c, .bool u.l.neg, .slice u.l.A u.l.n u.l.c] t)
  match i, hi with
  | 0, _ => obtain ⟨r, h1, h2⟩ := hx; exact ⟨x, r, h1, h2.on hb, hO.cell 0, hO.cell 1, hO.cell 2, hO.cell 3, hO.lt⟩
  | 1, _ => obtain ⟨r, h1, h2⟩ := hy; exact ⟨y, r, h1, h2.on hb, hO.cell 4, hO.cell 5, hO.cell 6, hO.cell 7, hO.lt⟩
  | 2, _ => obtain ⟨r, h1, h2⟩ := hz; exact ⟨z, r, h1, h2.on hb, hO.cell 8, hO.cell 9, hO.cell 10, hO.cell 11, hO.lt⟩
  | 3, _ => obtain ⟨r, h1, h2⟩ := hu; exact ⟨u, r, h1, h2.on hb, hO.cell 12, hO.cell 13, hO.cell 14, hO.cell 15, hO.lt⟩
theorem FList.mk3 {w : World} {t : TypeId} {x y z : FV} {k : Nat} (hx : RS k x w) (hy : RS k y w) (hz : RS k z w) : FList (w.alloc (.cells #[.bool x.p.neg, .slice x.p.A x.p.n x.p.c, .bool x.l.neg, .slice x.l.A x.l.n x.l.c, .bool y.p.neg, .slice y.p.A y.p.n y.p.c, .bool y.l.neg, .slice y.l.A y.l.n y.l.c, .bool z.p.neg, .slice z.p.A z.p.n z.p.c, .bool z.l.neg, .slice z.l.A z.l.n z.l.c] t)) w.heap.size 3 k := fun i hi => by
  have hO : Own (w.alloc (.cells #[.bool x.p.neg, .slice x.p.A x.p.n x.p.c, .bool x.l.neg, .slice x.l.A x.l.n x.l.c, .bool y.p.neg, .slice y.p.A y.p.n y.p.c, .bool y.l.neg, .slice y.l.A y.l.n y.l.c, .bool z.p.neg, .slice z.p.A z.p.n z.p.c, .bool z.l.neg, .slice z.l.A z.l.n z.l.c] t)) w.heap.size t [.bool x.p.neg, .slice x.p.A x.p.n x.p.c, .bool x.l.neg, .slice x.l.A x.l.n x.l.c, .bool y.p.neg, .slice y.p.A y.p.n y.p.c, .bool y.l.neg, .slice y.l.A y.l.n y.l.c, .bool z.p.neg, .slice z.p.A z.p.n z.p.c, .bool z.l.neg, .slice z.l.A z.l.n z.l.c] := Own.new w t _
  have hb := below_new w (.cells #[.bool x.p.neg, .slice x.p.A x.p.n x.p.c, .bool x.l.neg, .slice x.l.A x.l.n x.l.c, .bool y.p.neg, .slice y.p.A y.p.n y.p.c, .bool y.l.neg, .slice y.l.A y.l.n y.l.c, .bool z.p.neg, .slice z.p.A z.p.n z.p.c, .bool z.l.neg, .slice z.l.A z.l.n z.l.c] t)
  match i, hi with
  | 0, _ => obtain ⟨r, h1, h2⟩ := hx; exact ⟨x, r, h1, h2.on hb, hO.cell 0, hO.cell 1, hO.cell 2, hO.cell 3, hO.lt⟩
  | 1, _ => obtain ⟨r, h1, h2⟩ := hy; exact ⟨y, r, h1, h2.on hb, hO.cell 4, hO.cell 5, hO.cell 6, hO.cell 7, hO.lt⟩
  | 2, _ => obtain ⟨r, h1, h2⟩ := hz; exact ⟨z, r, h1, h2.on hb, hO.cell 8, hO.cell 9, hO.cell 10, hO.cell 11, hO.lt⟩
theorem fZero_rs (w : World) : Calls Tryz.prog 69 #[.int .i64 0] w (RetRS w 130) :=
  (fOf_any 0 w ⟨by omega, by omega⟩).mono fun _ _ h => h.rs (SmR.zero.mono (by omega))
section
variable {f g : FV} {a b : Rat} {w : World} {j k : Nat} (hf : FR f w a) (hg : FR g w b) (sa : SmR j a) (sb : SmR k b) (hk : j + k + 1 ≤ 1200)
include hf hg sa sb hk
theorem addF_ok : Calls Tryz.prog 74 #[.agg #[.bool f.p.neg, .slice f.p.A f.p.n f.p.c, .bool f.l.neg, .slice f.l.A f.l.n f.l.c], .agg #[.bool g.p.neg, .slice g.p.A g.p.n g.p.c, .bool g.l.neg, .slice g.l.A g.l.n g.l.c]] w (RetFRE w (a + b) 0) := by
  have := addF hf hg
  rwa [addR_ok sa sb (by omega)] at this
theorem subF_ok : Calls Tryz.prog 76 #[.agg #[.bool f.p.neg, .slice f.p.A f.p.n f.p.c, .bool f.l.neg, .slice f.l.A f.l.n f.l.c], .agg #[.bool g.p.neg, .slice g.p.A g.p.n g.p.c, .bool g.l.neg, .slice g.l.A g.l.n g.l.c]] w (RetFRE w (a - b) 0) := by
  have := subF hf hg
  rwa [subR_ok sa sb (by omega)] at this
theorem mulF_ok : Calls Tryz.prog 78 #[.agg #[.bool f.p.neg, .slice f.p.A f.p.n f.p.c, .bool f.l.neg, .slice f.l.A f.l.n f.l.c], .agg #[.bool g.p.neg, .slice g.p.A g.p.n g.p.c, .bool g.l.neg, .slice g.l.A g.l.n g.l.c]] w (RetFRE w (a * b) 0) := by
  have := mulF hf hg
  rwa [mulR_ok sa sb (by omega)] at this
theorem divF_ok (h0 : b ≠ 0) : Calls Tryz.prog 80 #[.agg #[.bool f.p.neg, .slice f.p.A f.p.n f.p.c, .bool f.l.neg, .slice f.l.A f.l.n f.l.c], .agg #[.bool g.p.neg, .slice g.p.A g.p.n g.p.c, .bool g.l.neg, .slice g.l.A g.l.n g.l.c]] w (RetFRE w (a / b) 0) := by
  have := divF hf hg
  rwa [divR_ok sa sb h0 (by omega)] at this
end
end Go.Proofs.YthafhbogpfggjaaGreatDoor
