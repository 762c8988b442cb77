/-
  What an integer of chapter 03's reference is: digits in base 10000; normal, at.
-/
import Derived.Test.YthafhbogpfggjaaGreatDoorDig
import Derived.Test.YthafhbogpfggjaaGreatDoorReg
import Derived.Test.YthafhbogpfggjaaGreatDoorW2
import Derived.Test.YthafhbogpfggjaaGreatDoorTwo
namespace Go.Proofs.YthafhbogpfggjaaGreatDoor
open Go.RowKit
open Dig (val Ws Nz)

/-- The digits of a list, as cells. -/
def d64 (x : Nat) : Value := .int .i64 (x : Int)
theorem Sl.d64at {w : World} {B : Nat} {A : Option Addr} {l : List Nat} (h : Sl w B A (l.map d64)) {i : Nat} (hi : i < l.length) : ∃ g off, A = some ⟨g, off, none⟩ ∧ g < B ∧ w.cell? ⟨g, off + i, none⟩ = some (.int .i64 (l[i] : Nat)) :=
  h.at_ (x := .int .i64 (l[i] : Nat)) (by simp [d64, hi])
/-- The digits l at A, in the world w. -/
structure DigIs (w : World) (A : Option Addr) (l : List Nat) (c : Nat) : Prop where
  sl : Sl w w.heap.size A (l.map d64)
  ws : Ws l
  cap : l.length ≤ c
  mx : c ≤ maxLen
theorem DigIs.on {w w' : World} {A : Option Addr} {l : List Nat} {c : Nat} (h : DigIs w A l c) (hb : Below w.heap.size w w') : DigIs w' A l c := ⟨h.sl.on hb, h.ws, h.cap, h.mx⟩
theorem DigIs.nil (w : World) : DigIs w none [] 0 := ⟨Sl.nil_, Ws.nil, by simp, by unfold maxLen; omega⟩
theorem DigIs.take {w : World} {A : Option Addr} {l : List Nat} {c : Nat} (h : DigIs w A l c) (k : Nat) : DigIs w A (l.take k) c :=
  ⟨by rw [List.map_take]; exact h.sl.take k, h.ws.take k, by rw [List.length_take]; have := h.cap; omega, h.mx⟩
/-- How many digits an integer of the reference may have here. -/
def many : Nat := 65536
/-- The N with these parts stands for z. -/
def NI (x : IV) (w : World) (z : Int) : Prop :=
  ∃ l, l.length = x.n ∧ x.n ≤ many ∧ DigIs w x.A l x.c ∧ Nz l ∧ (x.neg = true → x.n ≠ 0) ∧ z = sgn x.neg (val l)
theorem NI.on {x : IV} {w w' : World} {z : Int} (h : NI x w z) (hb : Below w.heap.size w w') : NI x w' z := by
  obtain ⟨l, h1, h2, h3, h4⟩ := h
  exact ⟨l, h1, h2, h3.on hb, h4⟩
def nZero : IV := ⟨false, none, 0, 0⟩
theorem NI.zero (w : World) : NI nZero w 0 := ⟨[], rfl, by simp [nZero, many], DigIs.nil w, Nz.nil, by simp [nZero], by simp [val, sgn, nZero]⟩
/-- An N is returned. -/
def RetN (w : World) (z : Int) (e : Ending) (w' : World) : Prop := ∃ x : IV, e = .returned (.agg #[.bool x.neg, .slice x.A x.n x.c]) ∧ Below w.heap.size w w' ∧ NI x w' z
/-- An N is returned, its digits at A. -/
def RetNA (w : World) (A : Option Addr) (z : Int) (e : Ending) (w' : World) : Prop := ∃ x : IV, e = .returned (.agg #[.bool x.neg, .slice x.A x.n x.c]) ∧ Below w.heap.size w w' ∧ NI x w' z ∧ x.A = A
theorem RetNA.ret {w w' : World} {A : Option Addr} {z : Int} {e : Ending} (h : RetNA w A z e w') : RetN w z e w' := by
  obtain ⟨x, h1, h2, h3, _⟩ := h
  exact ⟨x, h1, h2, h3⟩
/-- In a block from B on. -/
def Fr (B : Nat) (A : Option Addr) : Prop := ∀ ad, A = some ad → B ≤ ad.block
/-- Digits are returned, in a block of their own. -/
def RetD (w : World) (P : List Nat → Prop) (e : Ending) (w' : World) : Prop := ∃ A c l, e = .returned (.slice A l.length c) ∧ Below w.heap.size w w' ∧ DigIs w' A l c ∧ P l ∧ Fr w.heap.size A
theorem rsgn_abs (b : Bool) (m : Nat) : (sgn b m).natAbs = m := by cases b <;> simp [sgn]
theorem NI.abs {x : IV} {w : World} {z : Int} (h : NI x w z) : ∃ l, l.length = x.n ∧ x.n ≤ many ∧ DigIs w x.A l x.c ∧ Nz l ∧ val l = z.natAbs ∧ (x.neg = decide (z < 0)) := by
  obtain ⟨l, h1, h2, h3, h4, h5, rfl⟩ := h
  refine ⟨l, h1, h2, h3, h4, (rsgn_abs _ _).symm, ?_⟩
  cases hn : x.neg with
  | false => simp [sgn]
  | true =>
    have : l ≠ [] := fun e => h5 hn (by rw [← h1, e]; rfl)
    have := h4.pos this
    simp [sgn]; omega
theorem NI.len {x : IV} {w : World} {z : Int} (h : NI x w z) {k : Nat} (hk : z.natAbs < 10000 ^ k) : x.n ≤ k := by
  obtain ⟨l, h1, _, _, h4, h5, _⟩ := h.abs
  rw [← h1]
  exact Dig.length_le_of h4 (by omega)

/-- A cell that holds no digit of a number. -/
theorem Sl.put64 {w : World} {B : Nat} {A : Option Addr} {l : List Nat} (h : Sl w B A (l.map d64)) {g i : Nat} {t : TypeId} {xs : List Value} {v : Value} (hO : Own w g t xs) (hi : xs[i]? = some v) (hv : ∀ n, v ≠ .int .i64 n) (u : Value) : Sl (w.setCell ⟨g, i, none⟩ u) B A (l.map d64) := fun hn => by
  obtain ⟨g', off, e, hg, hc⟩ := h hn
  refine ⟨g', off, e, hg, fun j x hx => ?_⟩
  by_cases hp : (⟨g, i, none⟩ : Addr) = ⟨g', off + j, none⟩
  · exfalso
    have h1 := hc j x hx
    rw [← hp, hO.cell, hi] at h1
    obtain ⟨y, _, rfl⟩ := List.mem_map.1 (List.mem_of_getElem? hx)
    injection h1 with h1
    exact hv _ h1
  · exact (World.cell?_setCell_other w ⟨g, i, none⟩ ⟨g', off + j, none⟩ u hp).trans (hc j x hx)
theorem NI.set {x : IV} {w : World} {z : Int} (h : NI x w z) {g i : Nat} {t : TypeId} {xs : List Value} {v : Value} (hO : Own w g t xs) (hi : xs[i]? = some v) (hv : ∀ n, v ≠ .int .i64 n) (u : Value) : NI x (w.setCell ⟨g, i, none⟩ u) z := by
  obtain ⟨l, h1, h2, h3, h4⟩ := h
  exact ⟨l, h1, h2, ⟨(h3.sl.put64 hO hi hv u).more (by simp [World.setCell]), h3.ws, h3.cap, h3.mx⟩, h4⟩
theorem NI.put2 {x : IV} {w : World} {z : Int} (h : NI x w z) {g : Nat} {t : TypeId} {a b : Value} (hO : Own w g t [a, b]) (ha : ∀ n, a ≠ .int .i64 n) (hb : ∀ n, b ≠ .int .i64 n) (u v : Value) : NI x ((w.setCell ⟨g, 0, none⟩ u).setCell ⟨g, 1, none⟩ v) z :=
  (h.set hO (i := 0) rfl ha u).set (hO.set_ 0 u) (i := 1) rfl hb v
theorem rsigned_end {w : World} {A : Option Addr} {c k : Nat} {l : List Nat} {neg b : Bool} (h : DigIs w A l c) (hk : k ≤ l.length) (hl : l.length ≤ many) (hnz : Nz (l.take k)) (hval : val (l.take k) = val l) (hb : b = (neg && decide (0 < k))) :
    NI ⟨b, A, k, c⟩ w (sgn neg (val l)) := by
  subst hb
  refine ⟨l.take k, by rw [List.length_take]; show min k l.length = k; omega, by show k ≤ many; omega, h.take k, hnz, ?_, ?_⟩
  · intro e; simp at e; show k ≠ 0; omega
  · rw [hval]
    unfold sgn
    rcases Nat.eq_zero_or_pos k with h0 | h0
    · subst h0
      have : val l = 0 := by rw [← hval]; simp [val]
      simp [this]
    · simp [h0]
set_option maxHeartbeats 400000 in
theorem rnormal_any (neg : Bool) (A : Option Addr) (c : Nat) (l : List Nat) (w : World) (h : DigIs w A l c) (hl : l.length ≤ many) :
    Calls Tryz.prog 120 #[.bool neg, .slice A l.length c] w (RetNA w A (sgn neg (val l))) := by
  have hm := h.mx
  have hc := h.cap
  have hS := h.sl
  have hlm := hl
  unfold maxLen at hm
  unfold many at hlm
  go_enter Tryz.func120, Tryz.ntmps120
  go_upto_region 1 with fail
  refine wp_new1 fun W hO hB => ?_
  go_loop [1] (fun s => ∃ k, k ≤ l.length ∧ s = .slice A k c ∧ val (l.take k) = val l) (fun s => match s with | .slice _ k _ => k | _ => 0)
  case atStart => exact ⟨l.length, Nat.le_refl _, rfl, by rw [List.take_of_length_le (Nat.le_refl _)]⟩
  case round =>
    obtain ⟨k, hk, rfl, hv⟩ := hrel
    have HV := Lib.hid hv
    clear hv
    have hfin : ∀ b : Bool, b = (neg && decide (0 < k)) → Nz (l.take k) → RetNA w A (sgn neg (val l)) (.returned (.agg #[.bool b, .slice A k c])) ((W.setCell ⟨w.heap.size, 0, none⟩ (.bool b)).setCell ⟨w.heap.size, 1, none⟩ (.slice A k c)) := fun b hb hz => by
      have hk' := rsigned_end (neg := neg) h hk hl hz HV.out hb
      exact ⟨⟨b, A, k, c⟩, rfl, Below.put2 hB (Nat.le_refl _) _ _, (hk'.on hB).put2 hO (by simp) (by simp) _ _, rfl⟩
    obtain ⟨z0, z1, f0, f1⟩ := hO.all2
    rcases Nat.eq_zero_or_pos k with h0 | h0
    · subst h0
      have HF := Lib.hid (hfin false (by simp) (by simpa using Nz.nil))
      have hO2 := hO.put2 (.bool false) (.slice A 0 c)
      obtain ⟨q0, q1, _⟩ := hO2.all2
      clear hO2 hfin
      cases neg
      all_goals
        go_wp2
        exact bodyPost_ret (v := .agg #[.bool false, .slice A 0 c]) (by simp [results, Tryz.results120, go_sem, q0, q1]) rfl HF.out
    · obtain ⟨g, off, rfl, hg, hcell⟩ := (hS.on hB).d64at (i := k - 1) (by omega)
      by_cases hz : l[k - 1] = 0
      · have hd : (((l[k - 1] : Nat) : Int) == 0) = true := by simp [hz]
        have HZ := Lib.hid hz
        clear hz z0 z1 f0 f1 hfin
        go_wp2
        go_round
        case rel => exact ⟨k - 1, by omega, rfl, (Dig.norm_step h0 hk HZ.out).trans HV.out⟩
        case measure => show k - 1 < k; omega
      · have hd : (((l[k - 1] : Nat) : Int) == 0) = false := by simp [hz]
        have HF := Lib.hid (hfin neg (by simp [h0]) (Dig.norm_end h0 hk hz))
        have hO2 := hO.put2 (.bool neg) (.slice (some ⟨g, off, none⟩) k c)
        obtain ⟨q0, q1, _⟩ := hO2.all2
        clear hO2 hfin hz
        cases neg
        all_goals
          go_wp2
          exact bodyPost_ret (v := .agg #[.bool _, .slice (some ⟨g, off, none⟩) k c]) (by simp [results, Tryz.results120, go_sem, q0, q1]) rfl HF.out
set_option maxHeartbeats 400000 in
theorem rat_any {A : Option Addr} {c : Nat} {l : List Nat} {w : World} (h : DigIs w A l c) (i : Nat) (hi : i ≤ maxLen) :
    Calls Tryz.prog 169 #[.slice A l.length c, .int .i64 (i : Int)] w (RetInt w (l.getD i 0 : Nat)) := by
  have hm := h.mx
  have hc := h.cap
  have hS := h.sl
  unfold maxLen at hm hi
  by_cases hlt : i < l.length
  · obtain ⟨g, off, rfl, hg, hcell⟩ := hS.d64at hlt
    have HE := Lib.hid (Dig.getD_lt hlt)
    have h0 : (0 : Int) ≤ (i : Int) := by omega
    have h1 : (i : Int) < (l.length : Int) := by omega
    go_enter Tryz.func169, Tryz.ntmps169
    go_wp2
    go_returns
    exact ⟨by rw [HE.out]; rfl, by go_grown⟩
  · have HE := Lib.hid (Dig.getD_ge (l := l) (k := i) (by omega))
    have h1 : ¬ (i : Int) < (l.length : Int) := by omega
    go_enter Tryz.func169, Tryz.ntmps169
    go_wp2
    go_returns
    exact ⟨rfl, by go_grown⟩
end Go.Proofs.YthafhbogpfggjaaGreatDoor
