/-
  Chapter 03's reference: Fits.
-/
import Derived.Test.YthafhbogpfggjaaGreatDoorE10
namespace Go.Proofs.YthafhbogpfggjaaGreatDoor
open Go.RowKit
open Dig (val Ws Nz)

set_option maxRecDepth 100000 in
set_option maxHeartbeats 1600000 in
theorem rFits_any {x : IV} {w : World} {a : Int} (hx : NI x w a) : Calls Tryz.prog 59 #[.agg #[.bool x.neg, .slice x.A x.n x.c]] w (fun e w' => e = .returned (.bool (decide (a.natAbs < 2 ^ 16384))) ∧ Below w.heap.size w w') := by
  obtain ⟨N, hN⟩ : ∃ N : Nat, N = 2 ^ 16384 := ⟨_, rfl⟩
  have HP : Hid (∀ u, Calls Tryz.prog 62 #[.int .i64 16384] u (RetN u (N : Int))) := Lib.hid fun u => by
    rw [hN]
    exact rPower_any 16384 u (by omega)
  have hlow : x.n < 1230 → a.natAbs < N := fun h => by
    obtain ⟨l, e1, e2, e3, e4, e5, e6⟩ := hx.abs
    have h1 := Dig.lt_pow_of_length e3.ws (k := 1229) (by omega)
    have h2 : (10000 : Nat) ^ 1229 ≤ (2 : Nat) ^ 16384 := by
      have : (10000 : Nat) ^ 1229 ≤ (2 ^ 16384 : Nat) := by decide +kernel
      exact this
    omega
  rw [← hN]
  have HL := Lib.hid hlow
  clear hN hlow
  go_enter Tryz.func59, Tryz.ntmps59
  go_upto_region 1 with fail
  refine wp_new1 fun W hA hB => ?_
  obtain ⟨l0, l1, _, _⟩ := hA.all2
  obtain ⟨r0, r1⟩ := hA.rules2
  by_cases hlen : x.n < 1230
  · have hd : decide (a.natAbs < N) = true := by rw [decide_eq_true_iff]; exact HL.out hlen
    have HD := Lib.hid hd
    clear hd
    go_wp2
    go_returns
    exact ⟨by rw [HD.out]; rfl, hB⟩
  · replace hx := hx.on hB
    go_wp2_with fail
    refine (HP.out _).mono ?_
    rintro e w1 ⟨p, rfl, k1, hp⟩
    go_upto_region 4 with fail
    refine wp_new1 fun W2 hO hB2 => ?_
    have k2 := Below.call k1 hB2
    obtain ⟨p0, p1, _, _⟩ := hO.all2
    have hx2 := hx.on k2
    have hp2 := hp.on hB2
    have hc : decide (cmpI (a.natAbs : Int) (N : Int) < 0) = decide (a.natAbs < N) := by
      apply decide_eq_decide.2
      rcases Nat.lt_trichotomy a.natAbs N with h | h | h
      · rw [cmpI_lt (by exact_mod_cast h)]; omega
      · rw [cmpI_eq (by exact_mod_cast h)]; omega
      · rw [cmpI_gt (by exact_mod_cast h)]; omega
    have HC := Lib.hid hc
    clear hc hB2 k1 hp hx
    go_wp2_with fail
    refine (ncompared hx2 hp2).mono ?_
    rintro e w3 ⟨rfl, k3⟩
    have HB := Lib.hid (Below.call (Below.call hB k2) k3)
    go_wp2
    go_returns
    exact ⟨congrArg (fun b => Ending.returned (.bool b)) HC.out, HB.out⟩
end Go.Proofs.YthafhbogpfggjaaGreatDoor
