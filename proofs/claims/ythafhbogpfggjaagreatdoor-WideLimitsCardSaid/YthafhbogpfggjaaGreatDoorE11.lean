/-
  Chapter 03's reference: Power.
-/
import Derived.Test.YthafhbogpfggjaaGreatDoorE9
namespace Go.Proofs.YthafhbogpfggjaaGreatDoor
open Go.RowKit
open Dig (val Ws Nz)

theorem two_lt {b j : Nat} (h : b ≤ 13 * j) : 2 ^ b < 10000 ^ (j + 1) := by
  have h1 : (2 : Nat) ^ b ≤ 2 ^ (13 * j) := Nat.pow_le_pow_right (by omega) h
  have h2 : (2 : Nat) ^ (13 * j) = 8192 ^ j := by rw [Nat.pow_mul]
  have h3 : (8192 : Nat) ^ j ≤ 10000 ^ j := Nat.pow_le_pow_left (by omega) j
  have h4 : (10000 : Nat) ^ j < 10000 ^ (j + 1) := Nat.pow_lt_pow_right (by omega) (by omega)
  omega
theorem NI.two_ {x : IV} {w : World} {b j : Nat} (h : NI x w ((2 ^ b : Nat) : Int)) (hb : b ≤ 13 * j) : x.n ≤ j + 1 :=
  NI.len (k := j + 1) h (by rw [Int.natAbs_natCast]; exact two_lt hb)
theorem NI.two {x : IV} {w : World} {b : Nat} (h : NI x w ((2 ^ b : Nat) : Int)) (hb : b ≤ 32773) : x.n ≤ 2522 := by
  have := NI.two_ (j := 2521) h (by omega)
  omega
/-- The state of Power at a round's head. -/
structure PowSt (w : World) (g3 g4 k a b j : Nat) (x y : IV) (wr : World) : Prop where
  bel : Below w.heap.size w wr
  o3 : Own wr g3 44 [.bool x.neg, .slice x.A x.n x.c]
  o4 : Own wr g4 44 [.bool y.neg, .slice y.A y.n y.c]
  hx : NI x wr ((2 ^ a : Nat) : Int)
  hy : NI y wr ((2 ^ b : Nat) : Int)
  eq : a + b * j = k
  bb : b ≤ 2 * k + 1
  jj : j ≤ k
theorem PowSt.small {w : World} {g3 g4 k a b j : Nat} {x y : IV} {wr : World} (h : PowSt w g3 g4 k a b j x y wr) (hk : k ≤ 16384) : x.n ≤ 2522 ∧ y.n ≤ 2522 :=
  ⟨h.hx.two (by have := h.eq; have : a ≤ k := by omega
                omega), h.hy.two (by have := h.bb; omega)⟩
theorem pow_sum (a b : Nat) : ((2 ^ a : Nat) : Int) * ((2 ^ b : Nat) : Int) = ((2 ^ (a + b) : Nat) : Int) := by rw [← Int.natCast_mul, ← Nat.pow_add]
/-- An N is stored into a block of two cells, beside another. -/
theorem put_beside {w w5 : World} {g h : Nat} {t u : TypeId} {x0 x1 y0 y1 : Value} {p y : IV} {z1 z2 : Int} (hb : Below w.heap.size w w5) (hg : w.heap.size ≤ g) (hO : Own w5 g t [x0, x1]) (hP : Own w5 h u [y0, y1]) (hne : h ≠ g) (h0 : ∀ n, x0 ≠ .int .i64 n) (h1 : ∀ n, x1 ≠ .int .i64 n) (hp : NI p w5 z1) (hy : NI y w5 z2) :
    ∃ V, (w5.setCell ⟨g, 0, none⟩ (.bool p.neg)).setCell ⟨g, 1, none⟩ (.slice p.A p.n p.c) = V ∧ Below w.heap.size w V ∧ Own V g t [.bool p.neg, .slice p.A p.n p.c] ∧ Own V h u [y0, y1] ∧ NI p V z1 ∧ NI y V z2 :=
  ⟨_, rfl, Below.put2 hb hg _ _, hO.put2 _ _, (hP.far (p := ⟨g, 0, none⟩) hne _).far (p := ⟨g, 1, none⟩) hne _, hp.put2 hO h0 h1 _ _, hy.put2 hO h0 h1 _ _⟩
set_option maxRecDepth 100000 in
set_option maxHeartbeats 3200000 in
theorem rPower_any (k : Nat) (w : World) (hk : k ≤ 16384) : Calls Tryz.prog 62 #[.int .i64 (k : Int)] w (RetN w ((2 ^ k : Nat) : Int)) := by
  go_enter Tryz.func62, Tryz.ntmps62
  go_upto_region 1 with fail
  refine wp_new1 fun W hO hB => ?_
  go_wp2_with fail
  refine (rOf_any 1 _ (by omega) (by omega)).mono ?_
  rintro e w1 ⟨x, rfl, k1, hx⟩
  go_upto_region 2 with fail
  refine wp_new1 fun W2 hO3 hB2 => ?_
  go_wp2_with fail
  refine (rOf_any 2 _ (by omega) (by omega)).mono ?_
  rintro e w3 ⟨y, rfl, k3, hy⟩
  go_wp2_with fail
  refine wp_new1 fun W4 hO4 hB4 => ?_
  have hst0 : PowSt W w1.heap.size w3.heap.size k 0 1 k x y W4 :=
    ⟨Below.call (Below.call (Below.call k1 hB2) k3) hB4, hO3.on (Below.call k3 hB4), hO4, (hx.on hB2).on (Below.call k3 hB4), hy.on hB4, by omega, by omega, Nat.le_refl _⟩
  have h34 : w1.heap.size < w3.heap.size := by have := hO3.lt; have := k3.size; omega
  have h13 := k1.size
  clear hx hy hO3 hO4 k3 hB4 hB2 k1
  go_loopw [0] (fun n wr => ∃ (j a b : Nat) (x y : IV), n = .int .i64 (j : Int) ∧ PowSt W w1.heap.size w3.heap.size k a b j x y wr) (fun n _ => (intOf n).toNat)
  case atStart => exact ⟨k, 0, 1, x, y, rfl, hst0⟩
  case round =>
    obtain ⟨j, a, b, x, y, rfl, hst⟩ := hrel
    obtain ⟨a0, a1, _, _⟩ := hst.o3.all2
    obtain ⟨b0, b1, _, _⟩ := hst.o4.all2
    have hsm := hst.small hk
    rcases Nat.eq_zero_or_pos j with h0 | h0
    · subst h0
      have hOr := hO.on hst.bel
      obtain ⟨z0, z1, f0, f1⟩ := hOr.all2
      have heq := hst.eq
      have hak : a = k := by simpa using heq
      have hxx := hst.hx
      rw [hak] at hxx
      have HF := Lib.hid (retN_end (Below.call hB hst.bel) (Nat.le_refl _) hOr (by simp) (by simp) hxx)
      have hO6 := hOr.put2 (.bool x.neg) (.slice x.A x.n x.c)
      obtain ⟨q0, q1, _⟩ := hO6.all2
      clear hO6 hOr hxx heq hak hst
      go_wp2
      exact bodyPost_ret (v := .agg #[.bool x.neg, .slice x.A x.n x.c]) (by simp [results, Tryz.results62, go_sem, q0, q1]) rfl HF.out
    · have hj0 : (0 : Int) < (j : Int) := by omega
      have hbk : b ≤ k := by have := hst.eq; have := Nat.le_mul_of_pos_right b h0; omega
      have HEQ := Lib.hid hst.eq
      have hj1 := hst.jj
      rcases Nat.mod_two_eq_zero_or_one j with hm | hm
      · have hm1 : ((j : Int) % 2 == 1) = false := by have : (j : Int) % 2 = 0 := by omega
                                                      rw [this]; rfl
        have HM := Lib.hid hm
        clear hm
        go_wp2_with fail
        refine (rMul_any hst.hy hst.hy (by unfold many; omega)).mono ?_
        rintro e w5 ⟨p, rfl, k5, hp⟩
        rw [pow_sum] at hp
        obtain ⟨c0, c1, f0, f1⟩ := (hst.o4.on k5).all2
        obtain ⟨V, hV, v1, v2, v3, v4, v5⟩ := put_beside (Below.call hst.bel k5) (by omega) (hst.o4.on k5) (hst.o3.on k5) (by omega) (by simp) (by simp) hp (hst.hx.on k5)
        have HN := Lib.hid (And.intro hV (PowSt.mk (k := k) (j := j / 2) v1 v3 v2 v5 v4 (by rw [← HEQ.out, ← Nat.two_mul, Nat.mul_comm 2 b, Nat.mul_assoc]; have := HM.out; rw [show 2 * (j / 2) = j by omega]) (by omega) (by omega)))
        clear hV v1 v2 v3 v4 v5 hst hp
        go_wp2_with fail
        go_roundw
        case rel => exact ⟨j / 2, a, b + b, x, p, by go_num, by rw [HN.out.1]; exact HN.out.2⟩
        case measure => simp [intOf]; omega
      · have hm1 : ((j : Int) % 2 == 1) = true := by have : (j : Int) % 2 = 1 := by omega
                                                     rw [this]; rfl
        have HM := Lib.hid hm
        clear hm
        go_wp2_with fail
        refine (rMul_any hst.hx hst.hy (by unfold many; omega)).mono ?_
        rintro e w5 ⟨p, rfl, k5, hp⟩
        rw [pow_sum] at hp
        obtain ⟨c0, c1, f0, f1⟩ := (hst.o3.on k5).all2
        obtain ⟨V, hV, v1, v2, v3, v4, v5⟩ := put_beside (Below.call hst.bel k5) (by omega) (hst.o3.on k5) (hst.o4.on k5) (by omega) (by simp) (by simp) hp (hst.hy.on k5)
        clear hst hp a0 a1 b0 b1
        go_upto_region 6 with fail
        try rw [hV]
        clear hV c0 c1 f0 f1 k5
        obtain ⟨b0, b1, _, _⟩ := v3.all2
        go_wp2_with fail
        refine (rMul_any v5 v5 (by unfold many; omega)).mono ?_
        rintro e w6 ⟨q, rfl, k6, hq⟩
        rw [pow_sum] at hq
        obtain ⟨c0, c1, f0, f1⟩ := (v3.on k6).all2
        obtain ⟨U, hU, u1, u2, u3, u4, u5⟩ := put_beside (Below.call v1 k6) (by omega) (v3.on k6) (v2.on k6) (by omega) (by simp) (by simp) hq (v4.on k6)
        have HN := Lib.hid (And.intro hU (PowSt.mk (k := k) (j := j / 2) u1 u3 u2 u5 u4 (by
          have := HM.out
          have e := HEQ.out
          have e2 : b * j = b + (b + b) * (j / 2) := by
            rw [← Nat.two_mul, Nat.mul_comm 2 b, Nat.mul_assoc]
            have : j = 1 + 2 * (j / 2) := by omega
            generalize j / 2 = h at *
            subst this
            rw [Nat.mul_add, Nat.mul_one]
          omega) (by omega) (by omega)))
        clear hU u1 u2 u3 u4 u5 v1 v2 v3 v4 v5 hq
        go_wp2_with fail
        go_roundw
        case rel => exact ⟨j / 2, a + b, b + b, p, q, by go_num, by rw [HN.out.1]; exact HN.out.2⟩
        case measure => simp [intOf]; omega
end Go.Proofs.YthafhbogpfggjaaGreatDoor

/-
  (second part)
-/
namespace Go.Proofs.YthafhbogpfggjaaGreatDoor
open Go.RowKit
open Dig (val Ws Nz)

set_option maxRecDepth 100000 in
set_option maxHeartbeats 1600000 in
theorem rFits_any {x : IV} {w : World} {a : Int} (hx : NI x w a) : Calls Tryz.prog 59 #[.agg #[.bool x.neg, .slice x.A x.n x.c]] w (fun e w' => e = .returned (.bool (decide (a.natAbs < 2 ^ 16384))) ∧ Below w.heap.size w w') := by
  obtain ⟨N, hN⟩ : ∃ N : Nat, N = 2 ^ 16384 := ⟨_, rfl⟩
  have HP : Hid (∀ u, Calls Tryz.prog 62 #[.int .i64 16384] u (RetN u (N : Int))) := Lib.hid fun u => by
    rw [hN]
    exact rPower_any 16384 u (by omega)
  have hlow : x.n < 1230 → a.natAbs < N := fun h => by
    obtain ⟨l, e1, e2, e3, e4, e5, e6⟩ := hx.abs
    have h1 := Dig.lt_pow_of_length e3.ws (k := 1229) (by omega)
    have h2 : (10000 : Nat) ^ 1229 ≤ (2 : Nat) ^ 16384 := by
      have : (10000 : Nat) ^ 1229 ≤ (2 ^ 16384 : Nat) := by decide +kernel
      exact this
    omega
  rw [← hN]
  have HL := Lib.hid hlow
  clear hN hlow
  go_enter Tryz.func59, Tryz.ntmps59
  go_upto_region 1 with fail
  refine wp_new1 fun W hA hB => ?_
  obtain ⟨l0, l1, _, _⟩ := hA.all2
  obtain ⟨r0, r1⟩ := hA.rules2
  by_cases hlen : x.n < 1230
  · have hd : decide (a.natAbs < N) = true := by rw [decide_eq_true_iff]; exact HL.out hlen
    have HD := Lib.hid hd
    clear hd
    go_wp2
    go_returns
    exact ⟨by rw [HD.out]; rfl, hB⟩
  · replace hx := hx.on hB
    go_wp2_with fail
    refine (HP.out _).mono ?_
    rintro e w1 ⟨p, rfl, k1, hp⟩
    go_upto_region 4 with fail
    refine wp_new1 fun W2 hO hB2 => ?_
    have k2 := Below.call k1 hB2
    obtain ⟨p0, p1, _, _⟩ := hO.all2
    have hx2 := hx.on k2
    have hp2 := hp.on hB2
    have hc : decide (cmpI (a.natAbs : Int) (N : Int) < 0) = decide (a.natAbs < N) := by
      apply decide_eq_decide.2
      rcases Nat.lt_trichotomy a.natAbs N with h | h | h
      · rw [cmpI_lt (by exact_mod_cast h)]; omega
      · rw [cmpI_eq (by exact_mod_cast h)]; omega
      · rw [cmpI_gt (by exact_mod_cast h)]; omega
    have HC := Lib.hid hc
    clear hc hB2 k1 hp hx
    go_wp2_with fail
    refine (ncompared hx2 hp2).mono ?_
    rintro e w3 ⟨rfl, k3⟩
    have HB := Lib.hid (Below.call (Below.call hB k2) k3)
    go_wp2
    go_returns
    exact ⟨congrArg (fun b => Ending.returned (.bool b)) HC.out, HB.out⟩
end Go.Proofs.YthafhbogpfggjaaGreatDoor
