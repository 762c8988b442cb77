/-
  Chapter 38's reference: numbers, points.
-/
import Derived.Test.YtmlpibdincfgbaaDoorM2
namespace Qy
theorem hd_shape {l : List Tok} (h : Good l) : Shape (hd l) := by
  have h1 := h.shaped
  match l, h1 with
  | [], _ => intro c w e; cases e
  | t :: _, h1 => exact h1 t (by simp)
theorem see_shape {s : St} (h : Good s.1) : Shape (see s) := by
  obtain ⟨l, o⟩ := s
  cases o with
  | none => exact hd_shape h
  | some y =>
    rw [show see (l, some y) = [32] from see_bad]
    intro c w e k
    cases e
    rcases k with k | k
    · exact absurd k (by decide)
    · exact absurd k (by decide)
theorem see_none {s : St} (h : see s ≠ [32]) : s.2 = none ∧ see s = hd s.1 := by
  obtain ⟨l, o⟩ := s
  cases o with
  | none => exact ⟨rfl, rfl⟩
  | some y => exact absurd see_bad h
theorem see_ok {s : St} (h : numOK (see s) = true) : s.2 = none ∧ hd s.1 ≠ [] := by
  obtain ⟨h1, h2⟩ := see_none (s := s) (fun e => by rw [e] at h; revert h; decide)
  exact ⟨h1, by rw [← h2]; exact numOK_ne h⟩
end Qy
namespace Go.Proofs.YtmlpibdincfgbaaDoor
open Go.RowKit
set_option linter.unusedSimpArgs false
set_option linter.unusedVariables false

/-- How a reading function of the reference ends. -/
def EndF {α : Type} (B r : Nat) (w : World) (res : α × Qy.St) (val : α → Value → World → Prop) (e : Ending) (w' : World) : Prop :=
  At1 r w w' ∧ (∃ v, e = .returned v ∧ val res.1 v w') ∧ RfAt B r res.2 w'
set_option maxRecDepth 100000 in
set_option maxHeartbeats 3200000 in
theorem rNumber (B r : Nat) (s : Qy.St) (lo hi : Int) (w : World) (h : RfAt B r s w) : Calls Tryd.prog 35 #[.pointer (some ⟨r, 0, none⟩), .int .i64 lo, .int .i64 hi] w (EndF B r w (Qy.numS lo hi s) intV) := by
  have HS := Lib.hid (rSee B r s w h)
  have HI := Lib.hid (rInt (Qy.see s) (Qy.see_shape h.good))
  have HR := Lib.hid h
  by_cases hok : Qy.numOK (Qy.see s) = true
  · have hN : Qy.numS lo hi s = if lo ≤ Qy.numV (Qy.see s) ∧ Qy.numV (Qy.see s) ≤ hi then (Qy.numV (Qy.see s), Qy.adv s) else (0, Qy.failS 5 s) := by unfold Qy.numS; rw [if_pos hok]
    obtain ⟨hn1, hn2⟩ := Qy.see_ok hok
    unfold intR at HI
    rw [if_pos hok, hok] at HI
    obtain ⟨V, hV⟩ : ∃ V, Qy.numV (Qy.see s) = V := ⟨_, rfl⟩
    rw [hV] at hN HI
    rw [hN]
    clear hN hV hok
    by_cases h1 : lo ≤ V
    · by_cases h2 : V ≤ hi
      · rw [if_pos ⟨h1, h2⟩]
        have h3 : ¬ (V < lo) := by omega
        have h4 : ¬ (hi < V) := by omega
        clear h
        go_enter Tryd.func35, Tryd.ntmps35
        go_wp2_with fail
        refine HS.out.mono ?_
        rintro e w1 ⟨rfl, k1⟩
        have HK := Lib.hid k1
        clear k1
        go_wp2_with fail
        refine (HI.out _).mono ?_
        rintro e w2 ⟨rfl, e_⟩
        subst e_
        obtain ⟨n, i, g, off, c, a, b, hl, hii, hgr, hgl, hO, c8, c9, hb, hA, _⟩ := (HR.out.on HK.out).cells
        have q1 := hO.cell 1
        have f1 := hO.frozen 1
        have i0 : (0 : Int) ≤ (i : Int) := by omega
        have i1 : (i : Int) ≤ 5000 := by omega
        have HF := Lib.hid (And.intro (hA hn2) ((At1.of_below (r := r) HK.out).trans (At1.set_ (r := r) w2 (p := ⟨r, 1, none⟩) rfl (.int .i64 ((i : Int) + 1)))))
        clear hO c8 c9 hb hA hn1 hn2 hii hl hgl
        go_wp2
        go_returns
        exact ⟨HF.out.2, ⟨_, rfl, rfl⟩, HF.out.1⟩
      · rw [if_neg (fun k => h2 k.2)]
        have h3 : ¬ (V < lo) := by omega
        have h4 : hi < V := by omega
        clear h hn1 hn2
        go_enter Tryd.func35, Tryd.ntmps35
        go_wp2_with fail
        refine HS.out.mono ?_
        rintro e w1 ⟨rfl, k1⟩
        have HK := Lib.hid k1
        clear k1
        go_wp2_with fail
        refine (HI.out _).mono ?_
        rintro e w2 ⟨rfl, e_⟩
        subst e_
        go_wp2_with fail
        refine (rFail B r s 5 (by decide) _ (HR.out.on HK.out)).mono ?_
        rintro e w3 ⟨rfl, k2, k3⟩
        have HF := Lib.hid (And.intro ((At1.of_below (r := r) HK.out).trans k2) k3)
        clear k2 k3
        go_wp2
        go_returns
        exact ⟨HF.out.1, ⟨_, rfl, rfl⟩, HF.out.2⟩
    · rw [if_neg (fun k => h1 k.1)]
      have h3 : V < lo := by omega
      clear h hn1 hn2
      go_enter Tryd.func35, Tryd.ntmps35
      go_wp2_with fail
      refine HS.out.mono ?_
      rintro e w1 ⟨rfl, k1⟩
      have HK := Lib.hid k1
      clear k1
      go_wp2_with fail
      refine (HI.out _).mono ?_
      rintro e w2 ⟨rfl, e_⟩
      subst e_
      go_wp2_with fail
      refine (rFail B r s 5 (by decide) _ (HR.out.on HK.out)).mono ?_
      rintro e w3 ⟨rfl, k2, k3⟩
      have HF := Lib.hid (And.intro ((At1.of_below (r := r) HK.out).trans k2) k3)
      clear k2 k3
      go_wp2
      go_returns
      exact ⟨HF.out.1, ⟨_, rfl, rfl⟩, HF.out.2⟩
  · have hN : Qy.numS lo hi s = (0, Qy.failS 2 s) := by unfold Qy.numS; rw [if_neg hok]
    have hf : Qy.numOK (Qy.see s) = false := by simpa using hok
    unfold intR at HI
    rw [if_neg hok, hf] at HI
    rw [hN]
    clear hN hok hf h
    go_enter Tryd.func35, Tryd.ntmps35
    go_wp2_with fail
    refine HS.out.mono ?_
    rintro e w1 ⟨rfl, k1⟩
    have HK := Lib.hid k1
    clear k1
    go_wp2_with fail
    refine (HI.out _).mono ?_
    rintro e w2 ⟨rfl, e_⟩
    subst e_
    go_wp2_with fail
    refine (rFail B r s 2 (by decide) _ (HR.out.on HK.out)).mono ?_
    rintro e w3 ⟨rfl, k2, k3⟩
    have HF := Lib.hid (And.intro ((At1.of_below (r := r) HK.out).trans k2) k3)
    clear k2 k3
    go_wp2
    go_returns
    exact ⟨HF.out.1, ⟨_, rfl, rfl⟩, HF.out.2⟩
theorem RfAt.far {B r : Nat} {s : Qy.St} {w : World} (h : RfAt B r s w) {g0 : Nat} (hg : B ≤ g0) (i : Nat) (u : Value) : RfAt B r s (w.setCell ⟨g0, i, none⟩ u) :=
  h.keep ((Below.refl 0 w).setCell (Nat.zero_le _) u).size fun g hgb => Below.heap_setCell w ⟨g0, i, none⟩ u g (show g ≠ g0 by omega)
set_option maxRecDepth 100000 in
set_option maxHeartbeats 3200000 in
theorem rPoint (B r : Nat) (s : Qy.St) (lx ly : Int) (w : World) (h : RfAt B r s w) :
    Calls Tryd.prog 86 #[.pointer (some ⟨r, 0, none⟩), .int .i64 lx, .int .i64 ly] w (EndF B r w (Qy.pointS lx ly s) ptV) := by
  have hr := h.lt
  have HBw := Lib.hid h.2.1
  have H1 : Hid (∀ s u, RfAt B r s u → Calls Tryd.prog 35 #[.pointer (some ⟨r, 0, none⟩), .int .i64 lx, .int .i64 1073741824] u (EndF B r u (Qy.numS lx 1073741824 s) intV)) := Lib.hid fun s u k => rNumber B r s lx 1073741824 u k
  have H2 : Hid (∀ s u, RfAt B r s u → Calls Tryd.prog 34 #[.pointer (some ⟨r, 0, none⟩), .string ⟨#[44]⟩] u fun e w' => e = .returned (.tuple #[]) ∧ At1 r u w' ∧ RfAt B r (Qy.needS [44] s) w') := Lib.hid fun s u k => rNeed B r s [44] (by decide) u k
  have H3 : Hid (∀ s u, RfAt B r s u → Calls Tryd.prog 35 #[.pointer (some ⟨r, 0, none⟩), .int .i64 ly, .int .i64 1073741824] u (EndF B r u (Qy.numS ly 1073741824 s) intV)) := Lib.hid fun s u k => rNumber B r s ly 1073741824 u k
  obtain ⟨p1, hp1⟩ : ∃ p, Qy.numS lx 1073741824 s = p := ⟨_, rfl⟩
  obtain ⟨s2, hs2⟩ : ∃ p, Qy.needS [44] p1.2 = p := ⟨_, rfl⟩
  obtain ⟨p3, hp3⟩ : ∃ p, Qy.numS ly 1073741824 s2 = p := ⟨_, rfl⟩
  have HP : Qy.pointS lx ly s = ((p1.1, p3.1), p3.2) := by unfold Qy.pointS; simp only [hp1, hs2, hp3]
  rw [HP]
  have HN1 : Hid (∀ u, RfAt B r s u → Calls Tryd.prog 35 #[.pointer (some ⟨r, 0, none⟩), .int .i64 lx, .int .i64 1073741824] u (EndF B r u p1 intV)) := Lib.hid fun u k => hp1 ▸ H1.out s u k
  have HN2 : Hid (∀ u, RfAt B r p1.2 u → Calls Tryd.prog 34 #[.pointer (some ⟨r, 0, none⟩), .string ⟨#[44]⟩] u fun e w' => e = .returned (.tuple #[]) ∧ At1 r u w' ∧ RfAt B r s2 w') := Lib.hid fun u k => hs2 ▸ H2.out p1.2 u k
  have HN3 : Hid (∀ u, RfAt B r s2 u → Calls Tryd.prog 35 #[.pointer (some ⟨r, 0, none⟩), .int .i64 ly, .int .i64 1073741824] u (EndF B r u p3 intV)) := Lib.hid fun u k => hp3 ▸ H3.out s2 u k
  clear HP hp1 hs2 hp3 H1 H2 H3
  obtain ⟨x, s1⟩ := p1
  obtain ⟨y, s3⟩ := p3
  go_enter Tryd.func86, Tryd.ntmps86
  go_upto_region 1 with fail
  refine wp_new1 fun W0 hA hB => ?_
  have k1 := h.on hB
  have K0 := Lib.hid (At1.of_below (r := r) hB)
  have gA : w.heap.size ≠ r := by omega
  have gB : B ≤ w.heap.size := HBw.out
  have zA : w.heap.size < W0.heap.size := hA.lt
  clear hB h
  go_wp2_with fail
  refine (HN1.out _ k1).mono ?_
  rintro e2 w1 ⟨k2, ⟨v, rfl, rfl⟩, k3⟩
  have hA1 := hA.at1 k2 gA
  have K1 := Lib.hid (K0.out.trans k2)
  have z1 : w.heap.size < w1.heap.size := Nat.lt_of_lt_of_le zA k2.size
  clear k1 k2 hA
  go_upto_region 2 with fail
  refine wp_new1 fun W1 hP kn => ?_
  obtain ⟨g, hg⟩ : ∃ g, w1.heap.size = g := ⟨_, rfl⟩
  rw [hg] at hP kn z1 ⊢
  have k4 := k3.on (hg ▸ kn)
  have hA2 := hA1.on (hg ▸ kn)
  have K2 := Lib.hid (K1.out.trans (At1.of_below (r := r) (hg ▸ kn)))
  have gR : g ≠ r := by omega
  have gBg : B ≤ g := by omega
  clear k3 hA1 K1 kn hg K0
  go_wp2_with fail
  refine (HN2.out _ k4).mono ?_
  rintro e2 w2 ⟨rfl, k5, k6⟩
  have hA3 := hA2.at1 k5 gA
  have hP3 := hP.at1 k5 gR
  have K3 := Lib.hid (K2.out.trans k5)
  clear k4 k5 hA2 hP
  go_wp2_with fail
  refine (HN3.out _ k6).mono ?_
  rintro e2 w3 ⟨k7, ⟨v, rfl, rfl⟩, k8⟩
  have hA4 := hA3.at1 k7 gA
  have hP4 := hP3.at1 k7 gR
  obtain ⟨c0, c1, f0, f1⟩ := hP4.all2
  obtain ⟨z0, z1_, d0, d1⟩ := hA4.all2
  have HA4 := Lib.hid hA4
  have HP4 := Lib.hid hP4
  have K4 := Lib.hid (K3.out.trans k7)
  have HK8 := Lib.hid k8
  have hne : ¬ (w.heap.size = g) := by omega
  have hne2 : ¬ (g = w.heap.size) := by omega
  clear k6 k7 k8 hA3 hP3 hA4 hP4
  go_wp2
  have hA5 := ((HA4.out.at1 (At1.set_ (r := g) w3 (p := ⟨g, 1, none⟩) rfl (.int .i64 y)) hne).set_ 0 (.int .i64 x)).set_ 1 (.int .i64 y)
  obtain ⟨q0, q1, _⟩ := hA5.all2
  exact bodyPost_ret (v := .agg #[.int .i64 x, .int .i64 y]) (by simp [results, Tryd.results86, go_sem, q0, q1]) rfl ⟨((K4.out.setNew (p := ⟨g, 1, none⟩) (Nat.le_of_lt z1) _).setNew (p := ⟨w.heap.size, 0, none⟩) (Nat.le_refl _) _).setNew (p := ⟨w.heap.size, 1, none⟩) (Nat.le_refl _) _, ⟨_, rfl, rfl⟩, ((HK8.out.far gBg 1 _).far gB 0 _).far gB 1 _⟩
end Go.Proofs.YtmlpibdincfgbaaDoor
