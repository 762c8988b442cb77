/-
  Chapter 03's reference: Neg, Add, Sub.
-/
import Derived.Test.YthafhbogpfggjaaGreatDoorE3
namespace Go.Proofs.YthafhbogpfggjaaGreatDoor
open Go.RowKit
open Dig (val Ws Nz)

/-- The parts of a slice. -/
structure DV where
  A : Option Addr
  n : Nat
  c : Nat
def DV.is (x : DV) (w : World) (P : List Nat → Prop) : Prop := ∃ l, l.length = x.n ∧ DigIs w x.A l x.c ∧ P l
theorem DV.is.on {x : DV} {w w' : World} {P : List Nat → Prop} (h : x.is w P) (hb : Below w.heap.size w w') : x.is w' P := by
  obtain ⟨l, h1, h2, h3⟩ := h
  exact ⟨l, h1, h2.on hb, h3⟩
def sN (z : Int) : Spec Bel := ⟨fun v w => ∃ x : IV, v = .agg #[.bool x.neg, .slice x.A x.n x.c] ∧ NI x w z, fun ⟨x, e, h⟩ k => ⟨x, e, h.on k⟩⟩
def sDg (P : List Nat → Prop) : Spec Bel := ⟨fun v w => ∃ x : DV, v = .slice x.A x.n x.c ∧ x.is w P, fun ⟨x, e, h⟩ k => ⟨x, e, h.on k⟩⟩
/-- Digits are returned. -/
def RetDV (w : World) (P : List Nat → Prop) (e : Ending) (w' : World) : Prop := ∃ x : DV, e = .returned (.slice x.A x.n x.c) ∧ Below w.heap.size w w' ∧ x.is w' P
theorem RetD.dv {w : World} {P R : List Nat → Prop} {e : Ending} {w' : World} (h : RetD w P e w') (hp : ∀ l, P l → R l) : RetDV w R e w' := by
  obtain ⟨A, c, l, rfl, h2, h3, h4, _⟩ := h
  exact ⟨⟨A, l.length, c⟩, rfl, h2, l, rfl, h3, hp l h4⟩
theorem nplus {x y : IV} {w : World} {a b : Int} (hx : NI x w a) (hy : NI y w b) (h1 : x.n < many) (h2 : y.n < many) :
    Calls Tryz.prog 127 #[.slice x.A x.n x.c, .slice y.A y.n y.c] w (RetDV w (fun l => val l = a.natAbs + b.natAbs ∧ l.length ≤ many)) := by
  obtain ⟨l, e1, e2, e3, e4, e5, e6⟩ := hx.abs
  obtain ⟨m, f1, f2, f3, f4, f5, f6⟩ := hy.abs
  rw [← e5, ← f5, ← e1, ← f1]
  rw [← e1] at h1
  rw [← f1] at h2
  refine (rplus_any e3 f3 (by omega) (by omega)).mono fun e w' h => h.dv ?_
  rintro k ⟨k1, k2⟩
  exact ⟨k1, by omega⟩
theorem nminus {x y : IV} {w : World} {a b : Int} (hx : NI x w a) (hy : NI y w b) (hle : b.natAbs ≤ a.natAbs) :
    Calls Tryz.prog 129 #[.slice x.A x.n x.c, .slice y.A y.n y.c] w (RetDV w (fun l => val l = a.natAbs - b.natAbs ∧ l.length ≤ many)) := by
  obtain ⟨l, e1, e2, e3, e4, e5, e6⟩ := hx.abs
  obtain ⟨m, f1, f2, f3, f4, f5, f6⟩ := hy.abs
  rw [← e5, ← f5] at hle
  rw [← e5, ← f5, ← e1, ← f1]
  have hl : m.length ≤ l.length := by
    rcases Nat.lt_or_ge l.length m.length with h | h
    · have := Dig.lt_of_length e3.ws f4 h
      omega
    · exact h
  refine (rminus_any e3 f3 (by omega) hl hle).mono fun e w' h => h.dv ?_
  rintro k ⟨k1, k2⟩
  exact ⟨k1, by omega⟩
theorem ncompared {x y : IV} {w : World} {a b : Int} (hx : NI x w a) (hy : NI y w b) :
    Calls Tryz.prog 128 #[.slice x.A x.n x.c, .slice y.A y.n y.c] w (RetInt w (cmpI a.natAbs b.natAbs)) := by
  obtain ⟨l, e1, e2, e3, e4, e5, e6⟩ := hx.abs
  obtain ⟨m, f1, f2, f3, f4, f5, f6⟩ := hy.abs
  rw [← e5, ← f5, ← e1, ← f1]
  exact rcompared_any e3 f3 e4 f4
theorem nnormalA (neg : Bool) {d : DV} {w : World} {m : Nat} {z : Int} (h : d.is w fun l => val l = m ∧ l.length ≤ many) (hz : sgn neg m = z) :
    Calls Tryz.prog 120 #[.bool neg, .slice d.A d.n d.c] w (RetNA w d.A z) := by
  obtain ⟨l, h1, h2, h3, h4⟩ := h
  rw [← h1, ← hz, ← h3]
  exact rnormal_any neg d.A d.c l w h2 h4
theorem nnormal (neg : Bool) {d : DV} {w : World} {m : Nat} {z : Int} (h : d.is w fun l => val l = m ∧ l.length ≤ many) (hz : sgn neg m = z) :
    Calls Tryz.prog 120 #[.bool neg, .slice d.A d.n d.c] w (RetN w z) := (nnormalA neg h hz).mono fun _ _ h => h.ret
theorem NI.val {x : IV} {w : World} {z : Int} (h : NI x w z) : z = sgn x.neg z.natAbs := by
  obtain ⟨l, h1, h2, h3, h4, h5, h6⟩ := h
  rw [h6, rsgn_abs]
theorem NI.dv {x : IV} {w : World} {z : Int} (h : NI x w z) : (⟨x.A, x.n, x.c⟩ : DV).is w fun l => Dig.val l = z.natAbs ∧ l.length ≤ many := by
  obtain ⟨l, e1, e2, e3, e4, e5, e6⟩ := h.abs
  exact ⟨l, e1, e3, e5, by omega⟩
theorem rsgn_add {s : Bool} {a b : Int} (ha : a = sgn s a.natAbs) (hb : b = sgn s b.natAbs) : sgn s (a.natAbs + b.natAbs) = a + b := by
  cases s <;> simp only [sgn] at * <;> simp at * <;> omega
theorem rsgn_sub {s t : Bool} {a b : Int} (ha : a = sgn s a.natAbs) (hb : b = sgn t b.natAbs) (hs : s ≠ t) (hle : b.natAbs ≤ a.natAbs) : sgn s (a.natAbs - b.natAbs) = a + b := by
  cases s <;> cases t <;> simp only [sgn] at * <;> simp at * <;> omega
set_option maxRecDepth 100000 in
set_option maxHeartbeats 1600000 in
theorem rAdd_any {x y : IV} {w : World} {a b : Int} (hx : NI x w a) (hy : NI y w b) (h1 : x.n < many) (h2 : y.n < many) :
    Calls Tryz.prog 45 #[.agg #[.bool x.neg, .slice x.A x.n x.c], .agg #[.bool y.neg, .slice y.A y.n y.c]] w (RetN w (a + b)) := by
  go_enter Tryz.func45, Tryz.ntmps45
  go_upto_region 1 with fail
  refine wp_new3 fun W hA hB hO hBel => ?_
  obtain ⟨r0, r1⟩ := hA.rules2
  obtain ⟨s0, s1⟩ := hB.rules2
  have hW := Below.refl W.heap.size W
  have va := hx.val
  have vb := hy.val
  replace hx := hx.on hBel
  replace hy := hy.on hBel
  by_cases hs : x.neg = y.neg
  · have hb : (x.neg == y.neg) = true := by simp [hs]
    rw [← hs] at vb
    have HZ := Lib.hid (rsgn_add va vb)
    clear hs va vb
    go_wp2_with fail
    refine wp_region_last W [Spec.eq (.pointer (some ⟨w.heap.size, 0, none⟩)), Spec.eq (.bool x.neg), Spec.eq (.pointer (some ⟨w.heap.size, 1, none⟩)), Spec.eq (.slice x.A x.n x.c), Spec.eq (.pointer (some ⟨w.heap.size + 1, 1, none⟩)), Spec.eq (.slice y.A y.n y.c), sDg (fun l => val l = a.natAbs + b.natAbs ∧ l.length ≤ many), sN (a + b)]
        rfl (by kernel_rfl) (by kernel_rfl) rfl (by kernel_rfl) (by kernel_rfl) (Below.drew (Below.refl _ _)) ?_ ?_
    ·
      refine RegSteps.cons ?_ ?_
      · intro _ az wz hC hF hD _ K hK
        have q2 : az.tmps[2]? = some (.pointer (some ⟨w.heap.size, 0, none⟩)) := hF 2 rfl
        clear hF hD
        refine want_none rfl ?_
        go_simp
        exact hK _ _ hC (Below.refl _ _) rfl
      refine RegSteps.cons ?_ ?_
      · intro _ az wz hC hF hD _ K hK
        obtain ⟨_, q10, rfl⟩ := dep hD 0 rfl rfl rfl rfl
        obtain ⟨l0, l1, _⟩ := (hA.on hC).all2
        clear hF hD
        refine want_none rfl ?_
        go_simp
        exact hK _ _ hC (Below.refl _ _) rfl
      refine RegSteps.cons ?_ ?_
      · intro _ az wz hC hF hD _ K hK
        have q2 : az.tmps[2]? = some (.pointer (some ⟨w.heap.size, 0, none⟩)) := hF 2 rfl
        clear hF hD
        refine want_none rfl ?_
        go_simp
        exact hK _ _ hC (Below.refl _ _) rfl
      refine RegSteps.cons ?_ ?_
      · intro _ az wz hC hF hD _ K hK
        obtain ⟨_, q12, rfl⟩ := dep hD 2 rfl rfl rfl rfl
        obtain ⟨l0, l1, _⟩ := (hA.on hC).all2
        clear hF hD
        refine want_none rfl ?_
        go_simp
        exact hK _ _ hC (Below.refl _ _) rfl
      refine RegSteps.cons ?_ ?_
      · intro _ az wz hC hF hD _ K hK
        have q3 : az.tmps[3]? = some (.pointer (some ⟨w.heap.size + 1, 0, none⟩)) := hF 3 rfl
        clear hF hD
        refine want_none rfl ?_
        go_simp
        exact hK _ _ hC (Below.refl _ _) rfl
      refine RegSteps.cons ?_ ?_
      · intro _ az wz hC hF hD _ K hK
        obtain ⟨_, q14, rfl⟩ := dep hD 4 rfl rfl rfl rfl
        obtain ⟨l0, l1, _⟩ := (hB.on hC).all2
        clear hF hD
        refine want_none rfl ?_
        go_simp
        exact hK _ _ hC (Below.refl _ _) rfl
      refine RegSteps.cons ?_ ?_
      · intro _ az wz hC hF hD _ K hK
        obtain ⟨_, q13, rfl⟩ := dep hD 3 rfl rfl rfl rfl
        obtain ⟨_, q15, rfl⟩ := dep hD 5 rfl rfl rfl rfl
        clear hF hD
        refine want_none rfl ?_
        go_simp
        refine (nplus (hx.on hC) (hy.on hC) h1 h2).mono ?_
        rintro e wy ⟨x, rfl, k, hx⟩
        exact hK _ _ (Below.call hC k) k ⟨x, rfl, hx⟩
      refine RegSteps.cons ?_ ?_
      · intro _ az wz hC hF hD _ K hK
        obtain ⟨_, q11, rfl⟩ := dep hD 1 rfl rfl rfl rfl
        obtain ⟨_, q16, x16, rfl, hx16⟩ := dep hD 6 rfl rfl rfl rfl
        clear hF hD
        refine want_none rfl ?_
        go_simp
        refine (nnormal _ hx16 HZ.out).mono ?_
        rintro e wy ⟨x, rfl, k, hx⟩
        exact hK _ _ (Below.call hC k) k ⟨x, rfl, hx⟩
      exact RegSteps.nil
    intro w5 hC5
    rintro _ rfl _ rfl _ rfl _ rfl _ rfl _ rfl _ ⟨y16, rfl, _⟩ _ ⟨y17, rfl, hy17⟩
    simp only [List.dropLast, FinOK, Act.put, List.setIfInBounds_toArray, List.set_cons_zero, List.set_cons_succ]
    intro K hK
    refine want_none rfl ?_
    obtain ⟨z0, z1, f0, f1⟩ := (hO.on hC5).all2
    go_simp
    refine hK _ _ ?_
    clear hK K
    have hO5 := (hO.on hC5).put2 (.bool y17.neg) (.slice y17.A y17.n y17.c)
    obtain ⟨q0, q1, _⟩ := hO5.all2
    have HF := Lib.hid (retN_end (Below.call hBel hC5) (by omega) (hO.on hC5) (by simp) (by simp) hy17)
    clear hO5 hO hA hB
    go_wp2
    exact bodyPost_ret (v := .agg #[.bool y17.neg, .slice y17.A y17.n y17.c]) (by simp [results, Tryz.results45, go_sem, q0, q1]) rfl HF.out
  · have hb : (x.neg == y.neg) = false := by simp [hs]
    rcases Int.lt_trichotomy a.natAbs b.natAbs with h | h
    · have hle : a.natAbs ≤ b.natAbs := by omega
      have hc : cmpI a.natAbs b.natAbs < 0 := by rw [cmpI_lt h]; omega
      have HZ := Lib.hid (show sgn y.neg (b.natAbs - a.natAbs) = a + b by rw [rsgn_sub vb va (Ne.symm hs) hle, Int.add_comm])
      clear hs va vb h
      go_wp2_with fail
      refine (ncompared hx hy).mono ?_
      rintro e w4 ⟨rfl, k4⟩
      replace hx := hx.on k4
      replace hy := hy.on k4
      replace hA := hA.on k4
      replace hB := hB.on k4
      replace hO := hO.on k4
      replace hBel := Below.call hBel k4
      clear r0 r1 s0 s1 k4
      go_wp2_with fail
      refine wp_region_last w4 [Spec.eq (.pointer (some ⟨w.heap.size + 1, 0, none⟩)), Spec.eq (.bool y.neg), Spec.eq (.pointer (some ⟨w.heap.size + 1, 1, none⟩)), Spec.eq (.slice y.A y.n y.c), Spec.eq (.pointer (some ⟨w.heap.size, 1, none⟩)), Spec.eq (.slice x.A x.n x.c), sDg (fun l => val l = b.natAbs - a.natAbs ∧ l.length ≤ many), sN (a + b)]
          rfl (by kernel_rfl) (by kernel_rfl) rfl (by kernel_rfl) (by kernel_rfl) (Below.drew (Below.refl _ _)) ?_ ?_
      ·
        refine RegSteps.cons ?_ ?_
        · intro _ az wz hC hF hD _ K hK
          have q3 : az.tmps[3]? = some (.pointer (some ⟨w.heap.size + 1, 0, none⟩)) := hF 3 rfl
          clear hF hD
          refine want_none rfl ?_
          go_simp
          exact hK _ _ hC (Below.refl _ _) rfl
        refine RegSteps.cons ?_ ?_
        · intro _ az wz hC hF hD _ K hK
          obtain ⟨_, q24, rfl⟩ := dep hD 0 rfl rfl rfl rfl
          obtain ⟨l0, l1, _⟩ := (hB.on hC).all2
          clear hF hD
          refine want_none rfl ?_
          go_simp
          exact hK _ _ hC (Below.refl _ _) rfl
        refine RegSteps.cons ?_ ?_
        · intro _ az wz hC hF hD _ K hK
          have q3 : az.tmps[3]? = some (.pointer (some ⟨w.heap.size + 1, 0, none⟩)) := hF 3 rfl
          clear hF hD
          refine want_none rfl ?_
          go_simp
          exact hK _ _ hC (Below.refl _ _) rfl
        refine RegSteps.cons ?_ ?_
        · intro _ az wz hC hF hD _ K hK
          obtain ⟨_, q26, rfl⟩ := dep hD 2 rfl rfl rfl rfl
          obtain ⟨l0, l1, _⟩ := (hB.on hC).all2
          clear hF hD
          refine want_none rfl ?_
          go_simp
          exact hK _ _ hC (Below.refl _ _) rfl
        refine RegSteps.cons ?_ ?_
        · intro _ az wz hC hF hD _ K hK
          have q2 : az.tmps[2]? = some (.pointer (some ⟨w.heap.size, 0, none⟩)) := hF 2 rfl
          clear hF hD
          refine want_none rfl ?_
          go_simp
          exact hK _ _ hC (Below.refl _ _) rfl
        refine RegSteps.cons ?_ ?_
        · intro _ az wz hC hF hD _ K hK
          obtain ⟨_, q28, rfl⟩ := dep hD 4 rfl rfl rfl rfl
          obtain ⟨l0, l1, _⟩ := (hA.on hC).all2
          clear hF hD
          refine want_none rfl ?_
          go_simp
          exact hK _ _ hC (Below.refl _ _) rfl
        refine RegSteps.cons ?_ ?_
        · intro _ az wz hC hF hD _ K hK
          obtain ⟨_, q27, rfl⟩ := dep hD 3 rfl rfl rfl rfl
          obtain ⟨_, q29, rfl⟩ := dep hD 5 rfl rfl rfl rfl
          clear hF hD
          refine want_none rfl ?_
          go_simp
          refine (nminus (hy.on hC) (hx.on hC) hle).mono ?_
          rintro e wy ⟨x, rfl, k, hx⟩
          exact hK _ _ (Below.call hC k) k ⟨x, rfl, hx⟩
        refine RegSteps.cons ?_ ?_
        · intro _ az wz hC hF hD _ K hK
          obtain ⟨_, q25, rfl⟩ := dep hD 1 rfl rfl rfl rfl
          obtain ⟨_, q30, x30, rfl, hx30⟩ := dep hD 6 rfl rfl rfl rfl
          clear hF hD
          refine want_none rfl ?_
          go_simp
          refine (nnormal _ hx30 HZ.out).mono ?_
          rintro e wy ⟨x, rfl, k, hx⟩
          exact hK _ _ (Below.call hC k) k ⟨x, rfl, hx⟩
        exact RegSteps.nil
      intro w5 hC5
      rintro _ rfl _ rfl _ rfl _ rfl _ rfl _ rfl _ ⟨y30, rfl, _⟩ _ ⟨y31, rfl, hy31⟩
      simp only [List.dropLast, FinOK, Act.put, List.setIfInBounds_toArray, List.set_cons_zero, List.set_cons_succ]
      intro K hK
      refine want_none rfl ?_
      obtain ⟨z0, z1, f0, f1⟩ := (hO.on hC5).all2
      go_simp
      refine hK _ _ ?_
      clear hK K
      have hO5 := (hO.on hC5).put2 (.bool y31.neg) (.slice y31.A y31.n y31.c)
      obtain ⟨q0, q1, _⟩ := hO5.all2
      have HF := Lib.hid (retN_end (Below.call hBel hC5) (by omega) (hO.on hC5) (by simp) (by simp) hy31)
      clear hO5 hO hA hB
      go_wp2
      exact bodyPost_ret (v := .agg #[.bool y31.neg, .slice y31.A y31.n y31.c]) (by simp [results, Tryz.results45, go_sem, q0, q1]) rfl HF.out
    · have hle : b.natAbs ≤ a.natAbs := by omega
      have hc : ¬ cmpI a.natAbs b.natAbs < 0 := by
        rcases h with h | h
        · rw [cmpI_eq h]; omega
        · rw [cmpI_gt h]; omega
      have HZ := Lib.hid (show sgn x.neg (a.natAbs - b.natAbs) = a + b from rsgn_sub va vb hs hle)
      clear hs va vb h
      go_wp2_with fail
      refine (ncompared hx hy).mono ?_
      rintro e w4 ⟨rfl, k4⟩
      replace hx := hx.on k4
      replace hy := hy.on k4
      replace hA := hA.on k4
      replace hB := hB.on k4
      replace hO := hO.on k4
      replace hBel := Below.call hBel k4
      clear r0 r1 s0 s1 k4
      go_wp2_with fail
      refine wp_region_last w4 [Spec.eq (.pointer (some ⟨w.heap.size, 0, none⟩)), Spec.eq (.bool x.neg), Spec.eq (.pointer (some ⟨w.heap.size, 1, none⟩)), Spec.eq (.slice x.A x.n x.c), Spec.eq (.pointer (some ⟨w.heap.size + 1, 1, none⟩)), Spec.eq (.slice y.A y.n y.c), sDg (fun l => val l = a.natAbs - b.natAbs ∧ l.length ≤ many), sN (a + b)]
          rfl (by kernel_rfl) (by kernel_rfl) rfl (by kernel_rfl) (by kernel_rfl) (Below.drew (Below.refl _ _)) ?_ ?_
      ·
        refine RegSteps.cons ?_ ?_
        · intro _ az wz hC hF hD _ K hK
          have q2 : az.tmps[2]? = some (.pointer (some ⟨w.heap.size, 0, none⟩)) := hF 2 rfl
          clear hF hD
          refine want_none rfl ?_
          go_simp
          exact hK _ _ hC (Below.refl _ _) rfl
        refine RegSteps.cons ?_ ?_
        · intro _ az wz hC hF hD _ K hK
          obtain ⟨_, q32, rfl⟩ := dep hD 0 rfl rfl rfl rfl
          obtain ⟨l0, l1, _⟩ := (hA.on hC).all2
          clear hF hD
          refine want_none rfl ?_
          go_simp
          exact hK _ _ hC (Below.refl _ _) rfl
        refine RegSteps.cons ?_ ?_
        · intro _ az wz hC hF hD _ K hK
          have q2 : az.tmps[2]? = some (.pointer (some ⟨w.heap.size, 0, none⟩)) := hF 2 rfl
          clear hF hD
          refine want_none rfl ?_
          go_simp
          exact hK _ _ hC (Below.refl _ _) rfl
        refine RegSteps.cons ?_ ?_
        · intro _ az wz hC hF hD _ K hK
          obtain ⟨_, q34, rfl⟩ := dep hD 2 rfl rfl rfl rfl
          obtain ⟨l0, l1, _⟩ := (hA.on hC).all2
          clear hF hD
          refine want_none rfl ?_
          go_simp
          exact hK _ _ hC (Below.refl _ _) rfl
        refine RegSteps.cons ?_ ?_
        · intro _ az wz hC hF hD _ K hK
          have q3 : az.tmps[3]? = some (.pointer (some ⟨w.heap.size + 1, 0, none⟩)) := hF 3 rfl
          clear hF hD
          refine want_none rfl ?_
          go_simp
          exact hK _ _ hC (Below.refl _ _) rfl
        refine RegSteps.cons ?_ ?_
        · intro _ az wz hC hF hD _ K hK
          obtain ⟨_, q36, rfl⟩ := dep hD 4 rfl rfl rfl rfl
          obtain ⟨l0, l1, _⟩ := (hB.on hC).all2
          clear hF hD
          refine want_none rfl ?_
          go_simp
          exact hK _ _ hC (Below.refl _ _) rfl
        refine RegSteps.cons ?_ ?_
        · intro _ az wz hC hF hD _ K hK
          obtain ⟨_, q35, rfl⟩ := dep hD 3 rfl rfl rfl rfl
          obtain ⟨_, q37, rfl⟩ := dep hD 5 rfl rfl rfl rfl
          clear hF hD
          refine want_none rfl ?_
          go_simp
          refine (nminus (hx.on hC) (hy.on hC) hle).mono ?_
          rintro e wy ⟨x, rfl, k, hx⟩
          exact hK _ _ (Below.call hC k) k ⟨x, rfl, hx⟩
        refine RegSteps.cons ?_ ?_
        · intro _ az wz hC hF hD _ K hK
          obtain ⟨_, q33, rfl⟩ := dep hD 1 rfl rfl rfl rfl
          obtain ⟨_, q38, x38, rfl, hx38⟩ := dep hD 6 rfl rfl rfl rfl
          clear hF hD
          refine want_none rfl ?_
          go_simp
          refine (nnormal _ hx38 HZ.out).mono ?_
          rintro e wy ⟨x, rfl, k, hx⟩
          exact hK _ _ (Below.call hC k) k ⟨x, rfl, hx⟩
        exact RegSteps.nil
      intro w5 hC5
      rintro _ rfl _ rfl _ rfl _ rfl _ rfl _ rfl _ ⟨y38, rfl, _⟩ _ ⟨y39, rfl, hy39⟩
      simp only [List.dropLast, FinOK, Act.put, List.setIfInBounds_toArray, List.set_cons_zero, List.set_cons_succ]
      intro K hK
      refine want_none rfl ?_
      obtain ⟨z0, z1, f0, f1⟩ := (hO.on hC5).all2
      go_simp
      refine hK _ _ ?_
      clear hK K
      have hO5 := (hO.on hC5).put2 (.bool y39.neg) (.slice y39.A y39.n y39.c)
      obtain ⟨q0, q1, _⟩ := hO5.all2
      have HF := Lib.hid (retN_end (Below.call hBel hC5) (by omega) (hO.on hC5) (by simp) (by simp) hy39)
      clear hO5 hO hA hB
      go_wp2
      exact bodyPost_ret (v := .agg #[.bool y39.neg, .slice y39.A y39.n y39.c]) (by simp [results, Tryz.results45, go_sem, q0, q1]) rfl HF.out
end Go.Proofs.YthafhbogpfggjaaGreatDoor
