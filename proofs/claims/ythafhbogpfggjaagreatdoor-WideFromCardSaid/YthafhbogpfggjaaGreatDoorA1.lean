/-
  Contracts of the reference model of chapter 01: Around, Pick, Bound, Decimal.
-/
import Derived.Test.YthafhbogpfggjaaGreatDoorReg
import Derived.Test.YthafhbogpfggjaaGreatDoorW2
import Derived.Test.YthafhbogpfggjaaGreatDoorTwo
import Derived.Test.YthafhbogpfggjaaGreatDoorT0
namespace Go.Proofs.YthafhbogpfggjaaGreatDoor
open Go.RowKit

def in64 (z : Int) : Prop := -9223372036854775808 ≤ z ∧ z ≤ 9223372036854775807
/-- What Around reckons. -/
def around (n m : Int) : Int := (if n < 0 then -(n + 1) else n) % m
theorem around_neg {n m : Int} (h : n < 0) : around n m = -((n + 1).tmod m) := by
  rw [around, if_pos h, ← Int.neg_tmod, Int.tmod_eq_emod_of_nonneg (by omega)]
theorem around_pos {n m : Int} (h : ¬ n < 0) : around n m = n % m := by rw [around, if_neg h]
theorem around_bd (n : Int) {m : Int} (h : 0 < m) : 0 ≤ around n m ∧ around n m < m := ⟨Int.emod_nonneg _ (by omega), Int.emod_lt_of_pos _ h⟩
set_option maxRecDepth 100000 in
theorem Around_any (n m : Int) (w : World) (n0 : -9223372036854775808 ≤ n) (n1 : n ≤ 9223372036854775807) (m0 : 0 < m) (m1 : m ≤ 9223372036854775807) : Calls Tryz.prog 30 #[.int .i64 n, .int .i64 m] w (RetInt w (around n m)) := by
  go_enter Tryz.func30, Tryz.ntmps30
  by_cases h : n < 0
  · have HV := Lib.hid (around_neg (m := m) h)
    go_wp2
    go_returns
    exact ⟨by rw [HV.out]; simp, by go_grown⟩
  · have HV := Lib.hid (around_pos (m := m) h)
    go_wp2
    go_returns
    exact ⟨by rw [HV.out]; simp, by go_grown⟩
/-- The ints of a slice. -/
structure IntsIs (w : World) (A : Option Addr) (l : List Int) (c : Nat) : Prop where
  sl : Sl w w.heap.size A (l.map i64)
  rg : ∀ x ∈ l, -9223372036854775808 ≤ x ∧ x ≤ 9223372036854775807
  cap : l.length ≤ c
  mx : c ≤ maxLen
theorem IntsIs.on {w w' : World} {A : Option Addr} {l : List Int} {c : Nat} (h : IntsIs w A l c) (hb : Below w.heap.size w w') : IntsIs w' A l c := ⟨h.sl.on hb, h.rg, h.cap, h.mx⟩
def pick (l : List Int) (i : Nat) (m : Int) : Int := match l[i]? with
  | some x => around x m
  | none => 0
theorem pick_bd (l : List Int) (i : Nat) {m : Int} (h : 0 < m) : 0 ≤ pick l i m ∧ pick l i m < m := by
  unfold pick
  split
  · exact around_bd _ h
  · omega
set_option maxRecDepth 100000 in
theorem Pick_any {w : World} {A : Option Addr} {l : List Int} {c : Nat} (h : IntsIs w A l c) (i : Nat) (m : Int) (m0 : 0 < m) (m1 : m ≤ 9223372036854775807) :
    Calls Tryz.prog 112 #[.slice A l.length c, .int .i64 (i : Int), .int .i64 m] w (RetInt w (pick l i m)) := by
  have h0 : ¬ (i : Int) < 0 := by omega
  go_enter Tryz.func112, Tryz.ntmps112
  rcases Nat.lt_or_ge i l.length with hl | hl
  · obtain ⟨g, off, hA, hg, hc⟩ := h.sl.at_ (i := i) (x := .int .i64 l[i]) (by simp [i64, hl])
    obtain ⟨r0, r1⟩ := h.rg l[i] (List.getElem_mem hl)
    have hp : pick l i m = around l[i] m := by unfold pick; rw [List.getElem?_eq_getElem hl]
    have HP := Lib.hid hp
    subst hA
    clear hp
    go_wp2_with fail
    refine (Around_any l[i] m _ r0 r1 m0 m1).mono ?_
    rintro e w1 ⟨rfl, k1⟩
    go_wp2
    go_returns
    exact ⟨by rw [HP.out]; rfl, k1⟩
  · have hp : pick l i m = 0 := by unfold pick; rw [List.getElem?_eq_none hl]
    have HP := Lib.hid hp
    clear hp
    go_wp2
    go_returns
    exact ⟨by rw [HP.out]; rfl, by go_grown⟩
set_option maxRecDepth 100000 in
theorem Bound_any (n m : Int) (w : World) (n0 : -9223372036854775808 ≤ n) (n1 : n ≤ 9223372036854775807) (m0 : 0 ≤ m) (m1 : m ≤ 1000000000) :
    Calls Tryz.prog 51 #[.int .i64 n, .int .i64 m] w (RetInt w (around n (2 * m + 1) - m)) := by
  obtain ⟨b0, b1⟩ := around_bd n (m := 2 * m + 1) (by omega)
  go_enter Tryz.func51, Tryz.ntmps51
  go_wp2_with fail
  refine (Around_any n (2 * m + 1) _ n0 n1 (by omega) (by omega)).mono ?_
  rintro e w1 ⟨rfl, k1⟩
  go_wp2
  go_returns
  exact ⟨rfl, k1⟩
end Go.Proofs.YthafhbogpfggjaaGreatDoor
