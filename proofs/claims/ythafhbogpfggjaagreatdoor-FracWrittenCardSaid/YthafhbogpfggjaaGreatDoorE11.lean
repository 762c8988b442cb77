/-
  What an integer of chapter 03's reference is: digits in base 10000; normal, at.
-/
import Derived.Test.YthafhbogpfggjaaGreatDoorDig
import Derived.Test.YthafhbogpfggjaaGreatDoorReg
import Derived.Test.YthafhbogpfggjaaGreatDoorW2
import Derived.Test.YthafhbogpfggjaaGreatDoorTwo
import Derived.Deep.Upon
import Derived.Test.YthafhbogpfggjaaGreatDoorW11
namespace Go.Proofs.YthafhbogpfggjaaGreatDoor
open Go.RowKit
open Dig (val Ws Nz)

/-- The digits of a list, as cells. -/
def d64 (x : Nat) : Value := .int .i64 (x : Int)
theorem Sl.d64at {w : World} {B : Nat} {A : Option Addr} {l : List Nat} (h : Sl w B A (l.map d64)) {i : Nat} (hi : i < l.length) : ∃ g off, A = some ⟨g, off, none⟩ ∧ g < B ∧ w.cell? ⟨g, off + i, none⟩ = some (.int .i64 (l[i] : Nat)) :=
  h.at_ (x := .int .i64 (l[i] : Nat)) (by simp [d64, hi])
/-- The digits l at A, in the world w. -/
structure DigIs (w : World) (A : Option Addr) (l : List Nat) (c : Nat) : Prop where
  sl : Sl w w.heap.size A (l.map d64)
  ws : Ws l
  cap : l.length ≤ c
  mx : c ≤ maxLen
theorem DigIs.on {w w' : World} {A : Option Addr} {l : List Nat} {c : Nat} (h : DigIs w A l c) (hb : Below w.heap.size w w') : DigIs w' A l c := ⟨h.sl.on hb, h.ws, h.cap, h.mx⟩
theorem DigIs.nil (w : World) : DigIs w none [] 0 := ⟨Sl.nil_, Ws.nil, by simp, by unfold maxLen; omega⟩
theorem DigIs.take {w : World} {A : Option Addr} {l : List Nat} {c : Nat} (h : DigIs w A l c) (k : Nat) : DigIs w A (l.take k) c :=
  ⟨by rw [List.map_take]; exact h.sl.take k, h.ws.take k, by rw [List.length_take]; have := h.cap; omega, h.mx⟩
/-- How many digits an integer of the reference may have here. -/
def many : Nat := 65536
/-- The N with these parts stands for z. -/
def NI (x : IV) (w : World) (z : Int) : Prop :=
  ∃ l, l.length = x.n ∧ x.n ≤ many ∧ DigIs w x.A l x.c ∧ Nz l ∧ (x.neg = true → x.n ≠ 0) ∧ z = sgn x.neg (val l)
theorem NI.on {x : IV} {w w' : World} {z : Int} (h : NI x w z) (hb : Below w.heap.size w w') : NI x w' z := by
  obtain ⟨l, h1, h2, h3, h4⟩ := h
  exact ⟨l, h1, h2, h3.on hb, h4⟩
def nZero : IV := ⟨false, none, 0, 0⟩
theorem NI.zero (w : World) : NI nZero w 0 := ⟨[], rfl, by simp [nZero, many], DigIs.nil w, Nz.nil, by simp [nZero], by simp [val, sgn, nZero]⟩
/-- An N is returned. -/
def RetN (w : World) (z : Int) (e : Ending) (w' : World) : Prop := ∃ x : IV, e = .returned (.agg #[.bool x.neg, .slice x.A x.n x.c]) ∧ Below w.heap.size w w' ∧ NI x w' z
/-- An N is returned, its digits at A. -/
def RetNA (w : World) (A : Option Addr) (z : Int) (e : Ending) (w' : World) : Prop := ∃ x : IV, e = .returned (.agg #[.bool x.neg, .slice x.A x.n x.c]) ∧ Below w.heap.size w w' ∧ NI x w' z ∧ x.A = A
theorem RetNA.ret {w w' : World} {A : Option Addr} {z : Int} {e : Ending} (h : RetNA w A z e w') : RetN w z e w' := by
  obtain ⟨x, h1, h2, h3, _⟩ := h
  exact ⟨x, h1, h2, h3⟩
/-- In a block from B on. -/
def Fr (B : Nat) (A : Option Addr) : Prop := ∀ ad, A = some ad → B ≤ ad.block
/-- Digits are returned, in a block of their own. -/
def RetD (w : World) (P : List Nat → Prop) (e : Ending) (w' : World) : Prop := ∃ A c l, e = .returned (.slice A l.length c) ∧ Below w.heap.size w w' ∧ DigIs w' A l c ∧ P l ∧ Fr w.heap.size A
theorem rsgn_abs (b : Bool) (m : Nat) : (sgn b m).natAbs = m := by cases b <;> simp [sgn]
theorem NI.abs {x : IV} {w : World} {z : Int} (h : NI x w z) : ∃ l, l.length = x.n ∧ x.n ≤ many ∧ DigIs w x.A l x.c ∧ Nz l ∧ val l = z.natAbs ∧ (x.neg = decide (z < 0)) := by
  obtain ⟨l, h1, h2, h3, h4, h5, rfl⟩ := h
  refine ⟨l, h1, h2, h3, h4, (rsgn_abs _ _).symm, ?_⟩
  cases hn : x.neg with
  | false => simp [sgn]
  | true =>
    have : l ≠ [] := fun e => h5 hn (by rw [← h1, e]; rfl)
    have := h4.pos this
    simp [sgn]; omega
theorem NI.len {x : IV} {w : World} {z : Int} (h : NI x w z) {k : Nat} (hk : z.natAbs < 10000 ^ k) : x.n ≤ k := by
  obtain ⟨l, h1, _, _, h4, h5, _⟩ := h.abs
  rw [← h1]
  exact Dig.length_le_of h4 (by omega)

/-- A cell that holds no digit of a number. -/
theorem Sl.put64 {w : World} {B : Nat} {A : Option Addr} {l : List Nat} (h : Sl w B A (l.map d64)) {g i : Nat} {t : TypeId} {xs : List Value} {v : Value} (hO : Own w g t xs) (hi : xs[i]? = some v) (hv : ∀ n, v ≠ .int .i64 n) (u : Value) : Sl (w.setCell ⟨g, i, none⟩ u) B A (l.map d64) := fun hn => by
  obtain ⟨g', off, e, hg, hc⟩ := h hn
  refine ⟨g', off, e, hg, fun j x hx => ?_⟩
  by_cases hp : (⟨g, i, none⟩ : Addr) = ⟨g', off + j, none⟩
  · exfalso
    have h1 := hc j x hx
    rw [← hp, hO.cell, hi] at h1
    obtain ⟨y, _, rfl⟩ := List.mem_map.1 (List.mem_of_getElem? hx)
    injection h1 with h1
    exact hv _ h1
  · exact (World.cell?_setCell_other w ⟨g, i, none⟩ ⟨g', off + j, none⟩ u hp).trans (hc j x hx)
theorem NI.set {x : IV} {w : World} {z : Int} (h : NI x w z) {g i : Nat} {t : TypeId} {xs : List Value} {v : Value} (hO : Own w g t xs) (hi : xs[i]? = some v) (hv : ∀ n, v ≠ .int .i64 n) (u : Value) : NI x (w.setCell ⟨g, i, none⟩ u) z := by
  obtain ⟨l, h1, h2, h3, h4⟩ := h
  exact ⟨l, h1, h2, ⟨(h3.sl.put64 hO hi hv u).more (by simp [World.setCell]), h3.ws, h3.cap, h3.mx⟩, h4⟩
theorem NI.put2 {x : IV} {w : World} {z : Int} (h : NI x w z) {g : Nat} {t : TypeId} {a b : Value} (hO : Own w g t [a, b]) (ha : ∀ n, a ≠ .int .i64 n) (hb : ∀ n, b ≠ .int .i64 n) (u v : Value) : NI x ((w.setCell ⟨g, 0, none⟩ u).setCell ⟨g, 1, none⟩ v) z :=
  (h.set hO (i := 0) rfl ha u).set (hO.set_ 0 u) (i := 1) rfl hb v
theorem rsigned_end {w : World} {A : Option Addr} {c k : Nat} {l : List Nat} {neg b : Bool} (h : DigIs w A l c) (hk : k ≤ l.length) (hl : l.length ≤ many) (hnz : Nz (l.take k)) (hval : val (l.take k) = val l) (hb : b = (neg && decide (0 < k))) :
    NI ⟨b, A, k, c⟩ w (sgn neg (val l)) := by
  subst hb
  refine ⟨l.take k, by rw [List.length_take]; show min k l.length = k; omega, by show k ≤ many; omega, h.take k, hnz, ?_, ?_⟩
  · intro e; simp at e; show k ≠ 0; omega
  · rw [hval]
    unfold sgn
    rcases Nat.eq_zero_or_pos k with h0 | h0
    · subst h0
      have : val l = 0 := by rw [← hval]; simp [val]
      simp [this]
    · simp [h0]
set_option maxHeartbeats 400000 in
theorem rnormal_any (neg : Bool) (A : Option Addr) (c : Nat) (l : List Nat) (w : World) (h : DigIs w A l c) (hl : l.length ≤ many) :
    Calls Tryz.prog 120 #[.bool neg, .slice A l.length c] w (RetNA w A (sgn neg (val l))) := by
  have hm := h.mx
  have hc := h.cap
  have hS := h.sl
  have hlm := hl
  unfold maxLen at hm
  unfold many at hlm
  go_enter Tryz.func120, Tryz.ntmps120
  go_upto_region 1 with fail
  refine wp_new1 fun W hO hB => ?_
  go_loop [1] (fun s => ∃ k, k ≤ l.length ∧ s = .slice A k c ∧ val (l.take k) = val l) (fun s => match s with | .slice _ k _ => k | _ => 0)
  case atStart => exact ⟨l.length, Nat.le_refl _, rfl, by rw [List.take_of_length_le (Nat.le_refl _)]⟩
  case round =>
    obtain ⟨k, hk, rfl, hv⟩ := hrel
    have HV := Lib.hid hv
    clear hv
    have hfin : ∀ b : Bool, b = (neg && decide (0 < k)) → Nz (l.take k) → RetNA w A (sgn neg (val l)) (.returned (.agg #[.bool b, .slice A k c])) ((W.setCell ⟨w.heap.size, 0, none⟩ (.bool b)).setCell ⟨w.heap.size, 1, none⟩ (.slice A k c)) := fun b hb hz => by
      have hk' := rsigned_end (neg := neg) h hk hl hz HV.out hb
      exact ⟨⟨b, A, k, c⟩, rfl, Below.put2 hB (Nat.le_refl _) _ _, (hk'.on hB).put2 hO (by simp) (by simp) _ _, rfl⟩
    obtain ⟨z0, z1, f0, f1⟩ := hO.all2
    rcases Nat.eq_zero_or_pos k with h0 | h0
    · subst h0
      have HF := Lib.hid (hfin false (by simp) (by simpa using Nz.nil))
      have hO2 := hO.put2 (.bool false) (.slice A 0 c)
      obtain ⟨q0, q1, _⟩ := hO2.all2
      clear hO2 hfin
      cases neg
      all_goals
        go_wp2
        exact bodyPost_ret (v := .agg #[.bool false, .slice A 0 c]) (by simp [results, Tryz.results120, go_sem, q0, q1]) rfl HF.out
    · obtain ⟨g, off, rfl, hg, hcell⟩ := (hS.on hB).d64at (i := k - 1) (by omega)
      by_cases hz : l[k - 1] = 0
      · have hd : (((l[k - 1] : Nat) : Int) == 0) = true := by simp [hz]
        have HZ := Lib.hid hz
        clear hz z0 z1 f0 f1 hfin
        go_wp2
        go_round
        case rel => exact ⟨k - 1, by omega, rfl, (Dig.norm_step h0 hk HZ.out).trans HV.out⟩
        case measure => show k - 1 < k; omega
      · have hd : (((l[k - 1] : Nat) : Int) == 0) = false := by simp [hz]
        have HF := Lib.hid (hfin neg (by simp [h0]) (Dig.norm_end h0 hk hz))
        have hO2 := hO.put2 (.bool neg) (.slice (some ⟨g, off, none⟩) k c)
        obtain ⟨q0, q1, _⟩ := hO2.all2
        clear hO2 hfin hz
        cases neg
        all_goals
          go_wp2
          exact bodyPost_ret (v := .agg #[.bool _, .slice (some ⟨g, off, none⟩) k c]) (by simp [results, Tryz.results120, go_sem, q0, q1]) rfl HF.out
set_option maxHeartbeats 400000 in
theorem rat_any {A : Option Addr} {c : Nat} {l : List Nat} {w : World} (h : DigIs w A l c) (i : Nat) (hi : i ≤ maxLen) :
    Calls Tryz.prog 169 #[.slice A l.length c, .int .i64 (i : Int)] w (RetInt w (l.getD i 0 : Nat)) := by
  have hm := h.mx
  have hc := h.cap
  have hS := h.sl
  unfold maxLen at hm hi
  by_cases hlt : i < l.length
  · obtain ⟨g, off, rfl, hg, hcell⟩ := hS.d64at hlt
    have HE := Lib.hid (Dig.getD_lt hlt)
    have h0 : (0 : Int) ≤ (i : Int) := by omega
    have h1 : (i : Int) < (l.length : Int) := by omega
    go_enter Tryz.func169, Tryz.ntmps169
    go_wp2
    go_returns
    exact ⟨by rw [HE.out]; rfl, by go_grown⟩
  · have HE := Lib.hid (Dig.getD_ge (l := l) (k := i) (by omega))
    have h1 : ¬ (i : Int) < (l.length : Int) := by omega
    go_enter Tryz.func169, Tryz.ntmps169
    go_wp2
    go_returns
    exact ⟨rfl, by go_grown⟩
end Go.Proofs.YthafhbogpfggjaaGreatDoor

/-
  (second part)
-/
namespace Go.Proofs.YthafhbogpfggjaaGreatDoor
open Go.RowKit
open Dig (val Ws Nz)

theorem Below.drewN_ {B : Nat} {a w : World} (h : Below B a w) (n : Nat) : Below B a (w.drewN n) := ⟨h.os, h.tape, h.output, h.size, h.block⟩
theorem rcmp_val {a b : List Nat} {m : Nat} (ha : Ws a) (hb : Ws b) (hl : a.length = b.length) (hm : m < a.length) (hm' : m < b.length) (hne : a[m] ≠ b[m]) (hd : a.drop (m + 1) = b.drop (m + 1)) :
    cmpI (a[m] : Nat) (b[m] : Nat) = cmpI (val a) (val b) := by
  rcases cmpI_nat_ne hne with ⟨h1, h2⟩ | ⟨h1, h2⟩
  · have := Dig.cmp_top' (k := m + 1) ha hl (by omega) (by omega) (by simpa using h2) hd
    rw [h1, cmpI_lt (by omega)]
  · have := Dig.cmp_top' (k := m + 1) hb hl.symm (by omega) (by omega) (by simpa using h2) hd.symm
    rw [h1, cmpI_gt (by omega)]
set_option maxHeartbeats 800000 in
theorem rcompared_any {A B : Option Addr} {c d : Nat} {a b : List Nat} {w : World} (ha : DigIs w A a c) (hb : DigIs w B b d) (na : Nz a) (nb : Nz b) :
    Calls Tryz.prog 128 #[.slice A a.length c, .slice B b.length d] w (RetInt w (cmpI (val a) (val b))) := by
  have h1 := ha.cap
  have h2 := hb.cap
  have h3 := ha.mx
  have h4 := hb.mx
  unfold maxLen at h3 h4
  have hwa := ha.ws
  have hwb := hb.ws
  have H1 := ha.sl
  have H2 := hb.sl
  clear ha hb
  rcases Nat.lt_trichotomy a.length b.length with h | h | h
  · have hz : cmpI (val a) (val b) = -1 := cmpI_lt (by exact_mod_cast Dig.lt_of_length hwa nb h)
    have HZ := Lib.hid hz
    clear hz
    go_enter Tryz.func128, Tryz.ntmps128
    go_wp2
    go_returns
    exact ⟨by rw [HZ.out]; rfl, by go_grown⟩
  · have HL := Lib.hid h
    have hle : a.length ≤ b.length := by omega
    have hge : b.length ≤ a.length := by omega
    clear h
    go_enter Tryz.func128, Tryz.ntmps128
    go_wp2_with fail
    simp only [Nat.not_lt.2 hle, Nat.not_lt.2 hge, decide_false]
    go_loopw [5] (fun i wr => ∃ k : Nat, k ≤ a.length ∧ i = .int .i64 ((k : Int) - 1) ∧ a.drop k = b.drop k ∧ Below w.heap.size w wr) (fun i _ => (intOf i + 1).toNat)
    case atStart => exact ⟨a.length, Nat.le_refl _, rfl, by rw [List.drop_of_length_le (by omega), List.drop_of_length_le (by omega)], by go_grown⟩
    case round =>
      obtain ⟨k, hk, rfl, hd, hbw⟩ := hrel
      have HD := Lib.hid hd
      clear hd
      rcases Nat.eq_zero_or_pos k with h0 | h0
      · subst h0
        have hv : a = b := by simpa using HD.out
        have HV := Lib.hid hv
        clear hv
        go_wp2
        go_returns
        exact ⟨by rw [HV.out, cmpI_eq rfl]; rfl, hbw⟩
      · obtain ⟨m, rfl⟩ : ∃ m, k = m + 1 := ⟨k - 1, by omega⟩
        rw [show (((m + 1 : Nat) : Int) - 1) = (m : Int) by omega]
        obtain ⟨g1, o1, rfl, hg1, hc1⟩ := (H1.below hbw).d64at (i := m) (by omega)
        obtain ⟨g2, o2, rfl, hg2, hc2⟩ := (H2.below hbw).d64at (i := m) (by omega)
        have hi1 : (m : Int) < (a.length : Int) := by omega
        have hi2 : (m : Int) < (b.length : Int) := by omega
        have hi3 : (0 : Int) ≤ (m : Int) := by omega
        by_cases e : a[m] = b[m]
        · have hd1 : ¬ ((a[m] : Nat) : Int) < ((b[m]'(by omega) : Nat) : Int) := by omega
          have hd2 : ¬ ((b[m]'(by omega) : Nat) : Int) < ((a[m] : Nat) : Int) := by omega
          have HE := Lib.hid e
          clear e
          go_wp2_with fail
          go_quiet (fail)
          go_wp2_with fail
          go_quiet (fail)
          go_wp2
          go_roundw
          case rel => exact ⟨m, by omega, by go_num, Dig.drop_pred_eq (k := m + 1) (by omega) (by omega) (by omega) (by simpa using HE.out) HD.out, Below.drewN_ hbw _⟩
          case measure => simp [intOf] <;> omega
        · have HV := Lib.hid (rcmp_val hwa hwb HL.out (by omega) (by omega) e HD.out)
          rcases cmpI_nat_ne e with ⟨e1, e2⟩ | ⟨e1, e2⟩
          · have hd1 : ((a[m] : Nat) : Int) < ((b[m]'(by omega) : Nat) : Int) := by omega
            have HE := Lib.hid e1
            clear e e1
            go_wp2_with fail
            go_quiet (fail)
            go_wp2
            go_returns
            exact ⟨by rw [← HV.out, HE.out]; rfl, by first | exact Below.drewN_ hbw _ | exact Below.drewN_ (Below.drewN_ hbw _) _⟩
          · have hd1 : ¬ ((a[m] : Nat) : Int) < ((b[m]'(by omega) : Nat) : Int) := by omega
            have hd2 : ((b[m]'(by omega) : Nat) : Int) < ((a[m] : Nat) : Int) := by omega
            have HE := Lib.hid e1
            clear e e1
            go_wp2_with fail
            go_quiet (fail)
            go_wp2_with fail
            go_quiet (fail)
            go_wp2
            go_returns
            exact ⟨by rw [← HV.out, HE.out]; rfl, by first | exact Below.drewN_ hbw _ | exact Below.drewN_ (Below.drewN_ hbw _) _⟩
  · have hz : cmpI (val a) (val b) = 1 := cmpI_gt (by exact_mod_cast Dig.lt_of_length hwb na h)
    have HZ := Lib.hid hz
    have hn : ¬ a.length < b.length := by omega
    clear hz
    go_enter Tryz.func128, Tryz.ntmps128
    go_wp2
    go_returns
    exact ⟨by rw [HZ.out]; rfl, by go_grown⟩

/-! ### Lists that grow by append -/
theorem int_info : (Tryz.prog.info? 3).map (fun i => (i.zero, i.size, i.bytes)) = some (some (.int .i64 0), 1, 8) := by kernel_rfl
theorem owns_dig {w : World} {base : Nat} {t : TypeId} {v : Value} {n : Nat} {l : List Nat} (h : w.ownsRow base t 1 v n (l.map d64)) (hw : Ws l) : ∃ A c, v = .slice A l.length c ∧ DigIs w A l c ∧ Fr base A := by
  have hn : l.length = n := by have := h.1; simpa using this
  rcases h.2 with ⟨rfl, h0⟩ | ⟨g, cap, cur, rfl, hb, hg, h1, h2, h3, h4⟩
  · have : l = [] := List.eq_nil_of_length_eq_zero (by omega)
    subst this
    exact ⟨none, 0, rfl, DigIs.nil w, fun _ h => by cases h⟩
  · subst hn
    refine ⟨some ⟨g, 0, none⟩, cap, rfl, ⟨fun _ => ⟨g, 0, rfl, (Array.getElem?_eq_some_iff.1 hg).1, fun i x hx => ?_⟩, hw, h1, h2⟩, fun ad had => by injection had with had; subst had; exact hb⟩
    have hlt : i < l.length := by
      rcases Nat.lt_or_ge i l.length with h | h
      · exact h
      · rw [List.getElem?_eq_none (by simpa using h)] at hx; cases hx
    rw [Nat.zero_add, h.cellAt i (by omega), hx]
theorem owns_keep {w w' : World} {base : Nat} {e : TypeId} {size : Nat} {v : Value} {n : Nat} {xs : List Value} (h : w.ownsRow base e size v n xs) (hb : Below w.heap.size w w') : w'.ownsRow base e size v n xs :=
  h.kept (row := none) ⟨hb.os, hb.tape, hb.output, hb.size, fun k hk _ => hb.block k hk⟩ (by cases h' : v.ownBlock <;> simp)
theorem below_owns {B : Nat} {a w w' : World} {v : Value} {e : TypeId} {size n : Nat} {xs : List Value} (h : Below B a w) (ho : w.ownsRow B e size v n xs) (hg : w.grownBy w' v.ownBlock) (hs : B ≤ w.heap.size) : Below B a w' :=
  Below.grown h hg hs fun k hk => (ho.lt k hk).1
theorem map_snoc (l : List Nat) (x : Nat) : l.map d64 ++ [.int .i64 (x : Int)] = (l ++ [x]).map d64 := by simp [d64]
/-- append(out, y), out a slice of the call's own, y an int. -/
theorem push_int {ops : Array Oper} {rest : List Oper} {o : Oper} {a : Act} {w : World} {Q : Exit → Act → World → Prop} (hgd : o.guard = none) (s x : Operand) (ho : o.op = .call { callee := .builtin .append, args := #[s, x], argTypes := #[41, 41] })
    (B : Nat) (v : Value) (n : Nat) (xs : List Value) (y : Int) (hs : a.eval s = v) (hown : w.ownsRow B 3 1 v n xs) (hx : a.eval x = .slice (some ⟨w.heap.size, 0, none⟩) 1 1) (hn : n ≤ 1099511627776) (hB : B ≤ w.heap.size)
    (h : ∀ v' w', w'.ownsRow B 3 1 v' (n + 1) (xs ++ [.int .i64 y]) → Below B w w' → wpList Tryz.prog ops Q rest (a.put o.dst v') w') : wpList Tryz.prog ops Q (o :: rest) a (w.alloc (.cells #[.int .i64 y] 3)) := by
  obtain ⟨i0, hi, hz0, hz1, hz2⟩ := info_parts int_info
  refine wpList_append_own _ hgd s x 41 ho B 3 i0 (.int .i64 0) 1 8 Tryz.underlying41 hi hz0 hz1 hz2 rfl (by decide) v n xs hs (hown.alloc _) ⟨w.heap.size, 0, none⟩ 1 1 [.int .i64 y] hx rfl ?_ ?_ ?_ ?_ ?_ ?_
  · intro j u hj
    match j, hj with
    | 0, hj => simp at hj; subst hj; simp [Addr.add]
  · intro u hu; simp at hu; subst hu; rfl
  · unfold maxLen; omega
  · omega
  · simp; omega
  intro v' w' hown' hgrow _
  refine h v' w' hown' ?_
  exact ((Below.refl B w).alloc hB _).grown hgrow (by simp; omega) (fun k hk => (hown.lt k hk).1)

theorem pow5 {k m : Nat} (hm : 0 < m) (h : 10000 ^ k * m ≤ 9223372036854775808) : k < 5 := by
  rcases Nat.lt_or_ge k 5 with h5 | h5
  · exact h5
  · have h1 := Dig.pow_mono h5
    have h2 : 10000 ^ k * 1 ≤ 10000 ^ k * m := Nat.mul_le_mul_left _ hm
    have h3 : (10000 : Nat) ^ 5 = 100000000000000000000 := by decide
    omega
theorem of_step {ds : List Nat} {k m N : Nat} (hl : ds.length = k) (h : val ds + 10000 ^ k * m = N) : val (ds ++ [m % 10000]) + 10000 ^ (k + 1) * (m / 10000) = N := by
  rw [Dig.val_snoc, hl, Nat.pow_succ, Nat.add_assoc, Nat.mul_assoc, ← Nat.mul_add, Nat.mod_add_div, h]
theorem retN_end {w w2 : World} {g : Nat} {t : TypeId} {a b : Value} (hW : Below w.heap.size w w2) (hg : w.heap.size ≤ g) (hO : Own w2 g t [a, b]) (ha : ∀ n, a ≠ .int .i64 n) (hb : ∀ n, b ≠ .int .i64 n) {x : IV} {z : Int} (hx : NI x w2 z) :
    RetN w z (.returned (.agg #[.bool x.neg, .slice x.A x.n x.c])) ((w2.setCell ⟨g, 0, none⟩ (.bool x.neg)).setCell ⟨g, 1, none⟩ (.slice x.A x.n x.c)) := ⟨x, rfl, Below.put2 hW hg _ _, hx.put2 hO ha hb _ _⟩
set_option maxRecDepth 100000 in
set_option maxHeartbeats 3200000 in
theorem rOf_any (n : Int) (w : World) (n0 : -9223372036854775808 ≤ n) (n1 : n ≤ 9223372036854775807) : Calls Tryz.prog 39 #[.int .i64 n] w (RetN w n) := by
  by_cases hneg : n < 0
  · go_enter Tryz.func39, Tryz.ntmps39
    go_upto_region 1 with fail
    refine wp_new1 fun W hO hB => ?_
    go_wp2_with fail
    go_loopw [0, 3] (fun s0 s3 wr => ∃ (m k : Nat) (ds : List Nat) (v : Value), s0 = .int .i64 (-(m : Int)) ∧ s3 = v ∧ wr.ownsRow W.heap.size 3 1 v k (ds.map d64) ∧ Ws ds ∧ Hid (val ds + 10000 ^ k * m = n.natAbs) ∧ k ≤ 5 ∧ m ≤ 9223372036854775808 ∧ Below W.heap.size W wr) (fun s0 _ _ => (intOf s0).natAbs)
    case atStart => exact ⟨n.natAbs, 0, [], _, by go_num, rfl, World.ownsRow_nil _ _ _ _, Ws.nil, Lib.hid (by simp [val]), by omega, by omega, Below.refl _ _⟩
    case round =>
      obtain ⟨m, k, ds, v, rfl, hv, hown, hws, heq, hk5, hm, hb⟩ := hrel
      have hv' := hv.symm
      subst hv'
      have hl : ds.length = k := by have := hown.1; simpa using this
      rcases Nat.eq_zero_or_pos m with h0 | h0
      · subst h0
        have hval : sgn true (val ds) = n := by
          have := heq.out
          rw [Nat.mul_zero, Nat.add_zero] at this
          rw [this]
          simp [sgn]; omega
        obtain ⟨A, c, hv, hd, _⟩ := owns_dig hown hws
        rw [hv]
        have hlm : ds.length ≤ many := by unfold many; omega
        have HV := Lib.hid hval
        clear hv hval heq hown hl
        go_wp2_with fail
        refine ((rnormal_any true A c ds _ hd hlm).mono fun _ _ h => RetNA.ret h).mono ?_
        rintro e w2 ⟨x, rfl, k2, hx⟩
        rw [HV.out] at hx
        have hO2 := (hO.on hb).on k2
        obtain ⟨z0, z1, f0, f1⟩ := hO2.all2
        have HF := Lib.hid (retN_end (Below.call (Below.call hB hb) k2) (Nat.le_refl _) hO2 (by simp) (by simp) hx)
        have hO3 := hO2.put2 (.bool x.neg) (.slice x.A x.n x.c)
        obtain ⟨q0, q1, _⟩ := hO3.all2
        clear hO3 hx hd
        go_wp2
        exact bodyPost_ret (v := .agg #[.bool x.neg, .slice x.A x.n x.c]) (by simp [results, Tryz.results39, go_sem, q0, q1]) rfl HF.out
      · have hk4 := pow5 h0 (show 10000 ^ k * m ≤ 9223372036854775808 by have := heq.out; omega)
        have hst := of_step hl heq.out
        have HS := Lib.hid hst
        have hwx : Ws (ds ++ [m % 10000]) := hws.append (Ws.cons (by omega) Ws.nil)
        clear hst hl
        have e1 : (-(m : Int)).tmod 10000 = -((m % 10000 : Nat) : Int) := by rw [Int.neg_tmod, Int.tmod_eq_emod_of_nonneg (by omega)]; omega
        have e2 : (-(m : Int)).tdiv 10000 = -((m / 10000 : Nat) : Int) := by rw [Int.neg_tdiv, Int.tdiv_eq_ediv_of_nonneg (by omega)]; omega
        obtain ⟨r, hr⟩ : ∃ r, r = m % 10000 := ⟨_, rfl⟩
        obtain ⟨q, hq⟩ : ∃ q, q = m / 10000 := ⟨_, rfl⟩
        rw [← hr] at e1 HS hwx
        rw [← hq] at e2 HS
        have hr1 : r < 10000 := by omega
        have hq1 : q < m := by omega
        have mne : ¬ -(m : Int) = 0 := by omega
        have mne2 : (-(m : Int) != 0) = true := by simp; omega
        clear hr hq
        rcases Nat.eq_zero_or_pos r with hr0 | hr0
        · subst hr0
          go_wp2_with (at_builtin; refine push_int rfl _ _ rfl W.heap.size v k (ds.map d64) 0 rfl hown rfl ?c1 ?c2 ?_)
          case c1 => omega
          case c2 => exact hb.size
          intro v' w5 hown5 hb5
          rw [show (Value.int .i64 0) = .int .i64 ((0 : Nat) : Int) from rfl, map_snoc] at hown5
          have hbb := Below.trans hb hb5
          have HO := Lib.hid hown5
          clear hown5
          go_wp2_with fail
          go_roundw
          case rel => exact ⟨q, k + 1, ds ++ [0], v', by go_num, by go_num, HO.out, hwx, HS, by omega, by omega, hbb⟩
          case measure => simp only [intOf]; omega
        · have hlt : -(r : Int) < 0 := by omega
          go_wp2_with (at_builtin; refine push_int rfl _ _ rfl W.heap.size v k (ds.map d64) (r : Int) rfl hown rfl ?c1 ?c2 ?_)
          case c1 => omega
          case c2 => exact hb.size
          intro v' w5 hown5 hb5
          rw [map_snoc] at hown5
          have hbb := Below.trans hb hb5
          have HO := Lib.hid hown5
          clear hown5
          go_wp2_with fail
          go_roundw
          case rel => exact ⟨q, k + 1, ds ++ [r], v', by go_num, by go_num, HO.out, hwx, HS, by omega, by omega, hbb⟩
          case measure => simp only [intOf]; omega
  · go_enter Tryz.func39, Tryz.ntmps39
    go_upto_region 1 with fail
    refine wp_new1 fun W hO hB => ?_
    go_wp2_with fail
    go_loopw [0, 3] (fun s0 s3 wr => ∃ (m k : Nat) (ds : List Nat) (v : Value), s0 = .int .i64 ((m : Int)) ∧ s3 = v ∧ wr.ownsRow W.heap.size 3 1 v k (ds.map d64) ∧ Ws ds ∧ Hid (val ds + 10000 ^ k * m = n.natAbs) ∧ k ≤ 5 ∧ m ≤ 9223372036854775808 ∧ Below W.heap.size W wr) (fun s0 _ _ => (intOf s0).natAbs)
    case atStart => exact ⟨n.natAbs, 0, [], _, by go_num, rfl, World.ownsRow_nil _ _ _ _, Ws.nil, Lib.hid (by simp [val]), by omega, by omega, Below.refl _ _⟩
    case round =>
      obtain ⟨m, k, ds, v, rfl, hv, hown, hws, heq, hk5, hm, hb⟩ := hrel
      have hv' := hv.symm
      subst hv'
      have hl : ds.length = k := by have := hown.1; simpa using this
      rcases Nat.eq_zero_or_pos m with h0 | h0
      · subst h0
        have hval : sgn false (val ds) = n := by
          have := heq.out
          rw [Nat.mul_zero, Nat.add_zero] at this
          rw [this]
          simp [sgn]; omega
        obtain ⟨A, c, hv, hd, _⟩ := owns_dig hown hws
        rw [hv]
        have hlm : ds.length ≤ many := by unfold many; omega
        have HV := Lib.hid hval
        clear hv hval heq hown hl
        go_wp2_with fail
        refine ((rnormal_any false A c ds _ hd hlm).mono fun _ _ h => RetNA.ret h).mono ?_
        rintro e w2 ⟨x, rfl, k2, hx⟩
        rw [HV.out] at hx
        have hO2 := (hO.on hb).on k2
        obtain ⟨z0, z1, f0, f1⟩ := hO2.all2
        have HF := Lib.hid (retN_end (Below.call (Below.call hB hb) k2) (Nat.le_refl _) hO2 (by simp) (by simp) hx)
        have hO3 := hO2.put2 (.bool x.neg) (.slice x.A x.n x.c)
        obtain ⟨q0, q1, _⟩ := hO3.all2
        clear hO3 hx hd
        go_wp2
        exact bodyPost_ret (v := .agg #[.bool x.neg, .slice x.A x.n x.c]) (by simp [results, Tryz.results39, go_sem, q0, q1]) rfl HF.out
      · have hk4 := pow5 h0 (show 10000 ^ k * m ≤ 9223372036854775808 by have := heq.out; omega)
        have hst := of_step hl heq.out
        have HS := Lib.hid hst
        have hwx : Ws (ds ++ [m % 10000]) := hws.append (Ws.cons (by omega) Ws.nil)
        clear hst hl
        have mne : ¬ (m : Int) = 0 := by omega
        have mne2 : ((m : Int) != 0) = true := by simp; omega
        have m0 : (0 : Int) ≤ (m : Int) := by omega
        have hr1 : ¬ (m : Int) % 10000 < 0 := by omega
        go_wp2_with (at_builtin; refine push_int rfl _ _ rfl W.heap.size v k (ds.map d64) ((m : Int) % 10000) rfl hown rfl ?c1 ?c2 ?_)
        case c1 => omega
        case c2 => exact hb.size
        intro v' w5 hown5 hb5
        rw [show ((m : Int) % 10000) = ((m % 10000 : Nat) : Int) by omega, map_snoc] at hown5
        have hbb := Below.trans hb hb5
        have HO := Lib.hid hown5
        clear hown5
        go_wp2_with fail
        go_roundw
        case rel => exact ⟨m / 10000, k + 1, ds ++ [m % 10000], v', by go_num, by go_num, HO.out, hwx, HS, by omega, by omega, hbb⟩
        case measure => simp only [intOf]; omega
end Go.Proofs.YthafhbogpfggjaaGreatDoor

/-
  (second part)
-/
namespace Go.Proofs.YthafhbogpfggjaaGreatDoor
open Go.RowKit
open Dig (val Ws Nz)

/-- The state of plus at a round's head. -/
structure PlusSt (w : World) (a b : List Nat) (k c : Nat) (ds : List Nat) (v : Value) (wr : World) : Prop where
  own : wr.ownsRow w.heap.size 3 1 v k (ds.map d64)
  ws : Ws ds
  c1 : c ≤ 1
  eq : val ds + c * 10000 ^ k = val (a.take k) + val (b.take k)
  cz : c = 0 ∨ k ≤ max a.length b.length
  le : k ≤ max a.length b.length + 1
  bel : Below w.heap.size w wr
theorem PlusSt.len {w : World} {a b : List Nat} {k c : Nat} {ds : List Nat} {v : Value} {wr : World} (h : PlusSt w a b k c ds v wr) : ds.length = k := by
  have := h.own.1; simpa using this
theorem PlusSt.start (w : World) (a b : List Nat) : PlusSt w a b 0 0 [] (.slice none 0 0) w :=
  ⟨World.ownsRow_nil _ _ _ _, Ws.nil, by omega, by simp [val], .inl rfl, by omega, Below.refl _ _⟩
theorem PlusSt.step {w : World} {a b : List Nat} {k c : Nat} {ds : List Nat} {v : Value} {wr : World} (h : PlusSt w a b k c ds v wr) (ha : Ws a) (hb : Ws b) (hk : k < a.length ∨ k < b.length ∨ 0 < c)
    {v' : Value} {w' : World} {y : Int} (hy : y = (((c + (a.getD k 0 + b.getD k 0)) % 10000 : Nat) : Int)) (hown : w'.ownsRow w.heap.size 3 1 v' (k + 1) (ds.map d64 ++ [.int .i64 y])) (hbel : Below w.heap.size w w') :
    PlusSt w a b (k + 1) ((c + (a.getD k 0 + b.getD k 0)) / 10000) (ds ++ [(c + (a.getD k 0 + b.getD k 0)) % 10000]) v' w' := by
  subst hy
  have hs := Dig.sum_step ha hb h.len h.c1 h.eq
  have h1 := h.c1
  rw [map_snoc] at hown
  refine ⟨hown, h.ws.append (Ws.cons (by omega) Ws.nil), hs.1, hs.2, ?_, ?_, hbel⟩
  · rcases Nat.lt_or_ge k (max a.length b.length) with hl | hl
    · right; omega
    · left
      rw [Dig.getD_ge (l := a) (by omega), Dig.getD_ge (l := b) (by omega)]
      omega
  · have := h.cz
    rcases hk with hk | hk | hk <;> omega
theorem PlusSt.fin {w : World} {a b : List Nat} {k : Nat} {ds : List Nat} {v : Value} {wr : World} (h : PlusSt w a b k 0 ds v wr) (h1 : a.length ≤ k) (h2 : b.length ≤ k) :
    RetD w (fun l => val l = val a + val b ∧ l.length ≤ max a.length b.length + 1) (.returned v) wr := by
  obtain ⟨A, c, rfl, hd, hf⟩ := owns_dig h.own h.ws
  have he := h.eq
  rw [List.take_of_length_le h1, List.take_of_length_le h2] at he
  exact ⟨A, c, ds, rfl, h.bel, hd, ⟨by omega, by rw [h.len]; exact h.le⟩, hf⟩
set_option maxRecDepth 100000 in
set_option maxHeartbeats 1600000 in
theorem rplus_any {A B : Option Addr} {ca cb : Nat} {a b : List Nat} {w : World} (ha : DigIs w A a ca) (hb : DigIs w B b cb) (la : a.length ≤ many) (lb : b.length ≤ many) :
    Calls Tryz.prog 127 #[.slice A a.length ca, .slice B b.length cb] w (RetD w (fun l => val l = val a + val b ∧ l.length ≤ max a.length b.length + 1)) := by
  have hwa := ha.ws
  have hwb := hb.ws
  have ma := ha.mx
  have mb := hb.mx
  have xa := ha.cap
  have xb := hb.cap
  unfold maxLen at ma mb
  unfold many at la lb
  go_enter Tryz.func127, Tryz.ntmps127
  go_wp2_with fail
  go_loopw [5, 6, 7] (fun v c i wr => ∃ (k cy : Nat) (ds : List Nat) (v' : Value), i = .int .i64 (k : Int) ∧ c = .int .i64 (cy : Int) ∧ v = v' ∧ PlusSt w a b k cy ds v' wr) (fun _ _ i _ => max a.length b.length + 1 - (intOf i).toNat)
  case atStart => exact ⟨0, 0, [], _, rfl, rfl, rfl, PlusSt.start w a b⟩
  case round =>
    obtain ⟨k, cy, ds, v, rfl, rfl, hv, hst⟩ := hrel
    have hv' := hv.symm
    subst hv'
    have hcy := hst.c1
    have hle := hst.le
    by_cases hin : k < a.length ∨ k < b.length ∨ 0 < cy
    · have ha' := (ha.on hst.bel)
      have hb' := (hb.on hst.bel)
      have hbel := hst.bel
      have hown := hst.own
      have HST := Lib.hid hst
      have HIN := Lib.hid hin
      have hkm : k < max a.length b.length + 1 := by have := hst.cz; omega
      have hga := hwa.getD k
      have hgb := hwb.getD k
      clear hst
      obtain ⟨x, hx⟩ : ∃ x, x = a.getD k 0 := ⟨_, rfl⟩
      obtain ⟨y, hy⟩ : ∃ y, y = b.getD k 0 := ⟨_, rfl⟩
      rw [← hx] at hga
      rw [← hy] at hgb
      have HA := fun (wq : World) (hq : DigIs wq A a ca) => rat_any hq k (by unfold maxLen; omega)
      have HB := fun (wq : World) (hq : DigIs wq B b cb) => rat_any hq k (by unfold maxLen; omega)
      rw [← hx] at HA
      rw [← hy] at HB
      have HX := Lib.hid hx
      have HY := Lib.hid hy
      have HHA := Lib.hid HA
      have HHB := Lib.hid HB
      clear hx hy HA HB
      have p0 : (0 : Int) ≤ (x : Int) + (y : Int) + (cy : Int) := by omega
      have hcond : (k < a.length) ∨ (¬ k < a.length ∧ k < b.length) ∨ (¬ k < a.length ∧ ¬ k < b.length ∧ (0 : Int) < (cy : Int)) := by omega
      clear hin
      rcases hcond with c1 | ⟨c1, c2⟩ | ⟨c1, c2, c3⟩
      all_goals
        go_wp2_with fail
        refine (HHA.out _ ha').mono ?_
        rintro e w1 ⟨rfl, k1⟩
        have hb1 := hb'.on k1
        have hown1 := owns_keep hown k1
        have hbel1 := Below.call hbel k1
        go_wp2_with fail
        refine (HHB.out _ hb1).mono ?_
        rintro e w2 ⟨rfl, k2⟩
        have hown2 := owns_keep hown1 k2
        have hbel2 := Below.call hbel1 k2
        go_wp2_with (at_builtin; refine push_int rfl _ _ rfl w.heap.size v k (ds.map d64) _ rfl hown2 rfl ?c1 ?c2 ?_)
        case c1 => omega
        case c2 => exact hbel2.size
        intro v' w5 hown5 hb5
        have hbel5 := Below.trans hbel2 hb5
        have HN := Lib.hid (HST.out.step hwa hwb HIN.out (y := ((x : Int) + (y : Int) + (cy : Int)) % 10000) (by rw [← HX.out, ← HY.out]; omega) hown5 hbel5)
        rw [← HX.out, ← HY.out] at HN
        clear hown5
        go_wp2_with fail
        go_roundw
        case rel => exact ⟨k + 1, (cy + (x + y)) / 10000, _, v', by go_num, by go_num, rfl, HN.out⟩
        case measure => simp only [intOf]; omega
    · have h1 : ¬ k < a.length := by omega
      have h2 : ¬ k < b.length := by omega
      have h3 : cy = 0 := by omega
      subst h3
      have HF := Lib.hid (hst.fin (by omega) (by omega))
      clear hst
      go_wp2
      go_returns
      exact HF.out

/-- The state of minus at a round's head. -/
structure MinusSt (w : World) (a b : List Nat) (k c : Nat) (ds : List Nat) (v : Value) (wr : World) : Prop where
  own : wr.ownsRow w.heap.size 3 1 v k (ds.map d64)
  ws : Ws ds
  c1 : c ≤ 1
  eq : val ds + val (b.take k) = val (a.take k) + c * 10000 ^ k
  le : k ≤ a.length
  bel : Below w.heap.size w wr
theorem MinusSt.len {w : World} {a b : List Nat} {k c : Nat} {ds : List Nat} {v : Value} {wr : World} (h : MinusSt w a b k c ds v wr) : ds.length = k := by
  have := h.own.1; simpa using this
theorem MinusSt.start (w : World) (a b : List Nat) : MinusSt w a b 0 0 [] (.slice none 0 0) w :=
  ⟨World.ownsRow_nil _ _ _ _, Ws.nil, by omega, by simp [val], by omega, Below.refl _ _⟩
theorem MinusSt.step {w : World} {a b : List Nat} {k c : Nat} {ds : List Nat} {v : Value} {wr : World} (h : MinusSt w a b k c ds v wr) (hk : k < a.length)
    {v' : Value} {w' : World} {d c' : Nat} (hc : c' ≤ 1) (hd : d < 10000) (he : d + (c + b.getD k 0) = a.getD k 0 + c' * 10000) (hown : w'.ownsRow w.heap.size 3 1 v' (k + 1) (ds.map d64 ++ [.int .i64 (d : Int)])) (hbel : Below w.heap.size w w') :
    MinusSt w a b (k + 1) c' (ds ++ [d]) v' w' := by
  have hs := Dig.sub_step h.len h.eq he
  rw [map_snoc] at hown
  exact ⟨hown, h.ws.append (Ws.cons hd Ws.nil), hc, hs, by omega, hbel⟩
theorem MinusSt.fin {w : World} {a b : List Nat} {k c : Nat} {ds : List Nat} {v : Value} {wr : World} (h : MinusSt w a b k c ds v wr) (h1 : a.length ≤ k) (hl : b.length ≤ a.length) (hge : val b ≤ val a) :
    RetD w (fun l => val l = val a - val b ∧ l.length = a.length) (.returned v) wr := by
  have hk : k = a.length := by have := h.le; omega
  subst hk
  obtain ⟨A, c', rfl, hd, hf⟩ := owns_dig h.own h.ws
  exact ⟨A, c', ds, rfl, h.bel, hd, ⟨Dig.sub_end hl h.len h.ws h.eq hge, h.len⟩, hf⟩
set_option maxRecDepth 100000 in
set_option maxHeartbeats 1600000 in
theorem rminus_any {A B : Option Addr} {ca cb : Nat} {a b : List Nat} {w : World} (ha : DigIs w A a ca) (hb : DigIs w B b cb) (la : a.length ≤ many) (hl : b.length ≤ a.length) (hge : val b ≤ val a) :
    Calls Tryz.prog 129 #[.slice A a.length ca, .slice B b.length cb] w (RetD w (fun l => val l = val a - val b ∧ l.length = a.length)) := by
  have hwa := ha.ws
  have hwb := hb.ws
  have ma := ha.mx
  have mb := hb.mx
  have xa := ha.cap
  have xb := hb.cap
  have HGE := Lib.hid hge
  clear hge
  unfold maxLen at ma mb
  unfold many at la
  go_enter Tryz.func129, Tryz.ntmps129
  go_wp2_with fail
  go_loopw [5, 6, 7] (fun v c i wr => ∃ (k cy : Nat) (ds : List Nat) (v' : Value), i = .int .i64 (k : Int) ∧ c = .int .i64 (cy : Int) ∧ v = v' ∧ MinusSt w a b k cy ds v' wr) (fun _ _ i _ => a.length - (intOf i).toNat)
  case atStart => exact ⟨0, 0, [], _, rfl, rfl, rfl, MinusSt.start w a b⟩
  case round =>
    obtain ⟨k, cy, ds, v, rfl, rfl, hv, hst⟩ := hrel
    have hv' := hv.symm
    subst hv'
    have hcy := hst.c1
    have hle := hst.le
    by_cases hin : k < a.length
    · have ha' := (ha.on hst.bel)
      have hb' := (hb.on hst.bel)
      have hbel := hst.bel
      have hown := hst.own
      have HST := Lib.hid hst
      have hga := hwa.getD k
      have hgb := hwb.getD k
      clear hst
      obtain ⟨x, hx⟩ : ∃ x, x = a.getD k 0 := ⟨_, rfl⟩
      obtain ⟨y, hy⟩ : ∃ y, y = b.getD k 0 := ⟨_, rfl⟩
      rw [← hx] at hga
      rw [← hy] at hgb
      have HA := fun (wq : World) (hq : DigIs wq A a ca) => rat_any hq k (by unfold maxLen; omega)
      have HB := fun (wq : World) (hq : DigIs wq B b cb) => rat_any hq k (by unfold maxLen; omega)
      rw [← hx] at HA
      rw [← hy] at HB
      have HX := Lib.hid hx
      have HY := Lib.hid hy
      have HHA := Lib.hid HA
      have HHB := Lib.hid HB
      clear hx hy HA HB
      have hcond : ((x : Int) - (y : Int) - (cy : Int) < 0 ∧ ∃ d : Nat, (x : Int) - (y : Int) - (cy : Int) + 10000 = (d : Int) ∧ d < 10000 ∧ d + (cy + y) = x + 1 * 10000) ∨ (¬ (x : Int) - (y : Int) - (cy : Int) < 0 ∧ ∃ d : Nat, (x : Int) - (y : Int) - (cy : Int) = (d : Int) ∧ d < 10000 ∧ d + (cy + y) = x + 0 * 10000) := by
        by_cases h : (x : Int) - (y : Int) - (cy : Int) < 0
        · exact .inl ⟨h, x + 10000 - (y + cy), by omega, by omega, by omega⟩
        · exact .inr ⟨h, x - (y + cy), by omega, by omega, by omega⟩
      rcases hcond with ⟨c1, d, d1, d2, d3⟩ | ⟨c1, d, d1, d2, d3⟩
      · have HD3 := Lib.hid d3
        have HD1 := Lib.hid d1
        clear d1 d3
        go_wp2_with fail
        refine (HHA.out _ ha').mono ?_
        rintro e w1 ⟨rfl, k1⟩
        have hb1 := hb'.on k1
        have hown1 := owns_keep hown k1
        have hbel1 := Below.call hbel k1
        go_wp2_with fail
        refine (HHB.out _ hb1).mono ?_
        rintro e w2 ⟨rfl, k2⟩
        have hown2 := owns_keep hown1 k2
        have hbel2 := Below.call hbel1 k2
        go_wp2_with (at_builtin; refine push_int rfl _ _ rfl w.heap.size v k (ds.map d64) _ rfl hown2 rfl ?c1 ?c2 ?_)
        case c1 => omega
        case c2 => exact hbel2.size
        intro v' w5 hown5 hb5
        have hbel5 := Below.trans hbel2 hb5
        rw [HD1.out] at hown5
        have HN := Lib.hid (HST.out.step (c' := 1) hin (by omega) d2 (by rw [← HX.out, ← HY.out]; exact HD3.out) hown5 hbel5)
        clear hown5
        go_wp2_with fail
        go_roundw
        case rel => exact ⟨k + 1, _, _, v', by go_num, rfl, rfl, HN.out⟩
        case measure => simp only [intOf]; omega
      · have HD3 := Lib.hid d3
        have HD1 := Lib.hid d1
        clear d1 d3
        go_wp2_with fail
        refine (HHA.out _ ha').mono ?_
        rintro e w1 ⟨rfl, k1⟩
        have hb1 := hb'.on k1
        have hown1 := owns_keep hown k1
        have hbel1 := Below.call hbel k1
        go_wp2_with fail
        refine (HHB.out _ hb1).mono ?_
        rintro e w2 ⟨rfl, k2⟩
        have hown2 := owns_keep hown1 k2
        have hbel2 := Below.call hbel1 k2
        go_wp2_with (at_builtin; refine push_int rfl _ _ rfl w.heap.size v k (ds.map d64) _ rfl hown2 rfl ?c1 ?c2 ?_)
        case c1 => omega
        case c2 => exact hbel2.size
        intro v' w5 hown5 hb5
        have hbel5 := Below.trans hbel2 hb5
        rw [HD1.out] at hown5
        have HN := Lib.hid (HST.out.step (c' := 0) hin (by omega) d2 (by rw [← HX.out, ← HY.out]; exact HD3.out) hown5 hbel5)
        clear hown5
        go_wp2_with fail
        go_roundw
        case rel => exact ⟨k + 1, _, _, v', by go_num, rfl, rfl, HN.out⟩
        case measure => simp only [intOf]; omega
    · have HF := Lib.hid (hst.fin (by omega) hl HGE.out)
      clear hst
      go_wp2
      go_returns
      exact HF.out
end Go.Proofs.YthafhbogpfggjaaGreatDoor

/-
  (second part)
-/
namespace Go.Proofs.YthafhbogpfggjaaGreatDoor
open Go.RowKit
open Dig (val Ws Nz)

/-- The parts of a slice. -/
structure DV where
  A : Option Addr
  n : Nat
  c : Nat
def DV.is (x : DV) (w : World) (P : List Nat → Prop) : Prop := ∃ l, l.length = x.n ∧ DigIs w x.A l x.c ∧ P l
theorem DV.is.on {x : DV} {w w' : World} {P : List Nat → Prop} (h : x.is w P) (hb : Below w.heap.size w w') : x.is w' P := by
  obtain ⟨l, h1, h2, h3⟩ := h
  exact ⟨l, h1, h2.on hb, h3⟩
def sN (z : Int) : Spec Bel := ⟨fun v w => ∃ x : IV, v = .agg #[.bool x.neg, .slice x.A x.n x.c] ∧ NI x w z, fun ⟨x, e, h⟩ k => ⟨x, e, h.on k⟩⟩
def sDg (P : List Nat → Prop) : Spec Bel := ⟨fun v w => ∃ x : DV, v = .slice x.A x.n x.c ∧ x.is w P, fun ⟨x, e, h⟩ k => ⟨x, e, h.on k⟩⟩
/-- Digits are returned. -/
def RetDV (w : World) (P : List Nat → Prop) (e : Ending) (w' : World) : Prop := ∃ x : DV, e = .returned (.slice x.A x.n x.c) ∧ Below w.heap.size w w' ∧ x.is w' P
theorem RetD.dv {w : World} {P R : List Nat → Prop} {e : Ending} {w' : World} (h : RetD w P e w') (hp : ∀ l, P l → R l) : RetDV w R e w' := by
  obtain ⟨A, c, l, rfl, h2, h3, h4, _⟩ := h
  exact ⟨⟨A, l.length, c⟩, rfl, h2, l, rfl, h3, hp l h4⟩
theorem nplus {x y : IV} {w : World} {a b : Int} (hx : NI x w a) (hy : NI y w b) (h1 : x.n < many) (h2 : y.n < many) :
    Calls Tryz.prog 127 #[.slice x.A x.n x.c, .slice y.A y.n y.c] w (RetDV w (fun l => val l = a.natAbs + b.natAbs ∧ l.length ≤ many)) := by
  obtain ⟨l, e1, e2, e3, e4, e5, e6⟩ := hx.abs
  obtain ⟨m, f1, f2, f3, f4, f5, f6⟩ := hy.abs
  rw [← e5, ← f5, ← e1, ← f1]
  rw [← e1] at h1
  rw [← f1] at h2
  refine (rplus_any e3 f3 (by omega) (by omega)).mono fun e w' h => h.dv ?_
  rintro k ⟨k1, k2⟩
  exact ⟨k1, by omega⟩
theorem nminus {x y : IV} {w : World} {a b : Int} (hx : NI x w a) (hy : NI y w b) (hle : b.natAbs ≤ a.natAbs) :
    Calls Tryz.prog 129 #[.slice x.A x.n x.c, .slice y.A y.n y.c] w (RetDV w (fun l => val l = a.natAbs - b.natAbs ∧ l.length ≤ many)) := by
  obtain ⟨l, e1, e2, e3, e4, e5, e6⟩ := hx.abs
  obtain ⟨m, f1, f2, f3, f4, f5, f6⟩ := hy.abs
  rw [← e5, ← f5] at hle
  rw [← e5, ← f5, ← e1, ← f1]
  have hl : m.length ≤ l.length := by
    rcases Nat.lt_or_ge l.length m.length with h | h
    · have := Dig.lt_of_length e3.ws f4 h
      omega
    · exact h
  refine (rminus_any e3 f3 (by omega) hl hle).mono fun e w' h => h.dv ?_
  rintro k ⟨k1, k2⟩
  exact ⟨k1, by omega⟩
theorem ncompared {x y : IV} {w : World} {a b : Int} (hx : NI x w a) (hy : NI y w b) :
    Calls Tryz.prog 128 #[.slice x.A x.n x.c, .slice y.A y.n y.c] w (RetInt w (cmpI a.natAbs b.natAbs)) := by
  obtain ⟨l, e1, e2, e3, e4, e5, e6⟩ := hx.abs
  obtain ⟨m, f1, f2, f3, f4, f5, f6⟩ := hy.abs
  rw [← e5, ← f5, ← e1, ← f1]
  exact rcompared_any e3 f3 e4 f4
theorem nnormalA (neg : Bool) {d : DV} {w : World} {m : Nat} {z : Int} (h : d.is w fun l => val l = m ∧ l.length ≤ many) (hz : sgn neg m = z) :
    Calls Tryz.prog 120 #[.bool neg, .slice d.A d.n d.c] w (RetNA w d.A z) := by
  obtain ⟨l, h1, h2, h3, h4⟩ := h
  rw [← h1, ← hz, ← h3]
  exact rnormal_any neg d.A d.c l w h2 h4
theorem nnormal (neg : Bool) {d : DV} {w : World} {m : Nat} {z : Int} (h : d.is w fun l => val l = m ∧ l.length ≤ many) (hz : sgn neg m = z) :
    Calls Tryz.prog 120 #[.bool neg, .slice d.A d.n d.c] w (RetN w z) := (nnormalA neg h hz).mono fun _ _ h => h.ret
theorem NI.val {x : IV} {w : World} {z : Int} (h : NI x w z) : z = sgn x.neg z.natAbs := by
  obtain ⟨l, h1, h2, h3, h4, h5, h6⟩ := h
  rw [h6, rsgn_abs]
theorem NI.dv {x : IV} {w : World} {z : Int} (h : NI x w z) : (⟨x.A, x.n, x.c⟩ : DV).is w fun l => Dig.val l = z.natAbs ∧ l.length ≤ many := by
  obtain ⟨l, e1, e2, e3, e4, e5, e6⟩ := h.abs
  exact ⟨l, e1, e3, e5, by omega⟩
theorem rsgn_add {s : Bool} {a b : Int} (ha : a = sgn s a.natAbs) (hb : b = sgn s b.natAbs) : sgn s (a.natAbs + b.natAbs) = a + b := by
  cases s <;> simp only [sgn] at * <;> simp at * <;> omega
theorem rsgn_sub {s t : Bool} {a b : Int} (ha : a = sgn s a.natAbs) (hb : b = sgn t b.natAbs) (hs : s ≠ t) (hle : b.natAbs ≤ a.natAbs) : sgn s (a.natAbs - b.natAbs) = a + b := by
  cases s <;> cases t <;> simp only [sgn] at * <;> simp at * <;> omega
set_option maxRecDepth 100000 in
set_option maxHeartbeats 1600000 in
theorem rAdd_any {x y : IV} {w : World} {a b : Int} (hx : NI x w a) (hy : NI y w b) (h1 : x.n < many) (h2 : y.n < many) :
    Calls Tryz.prog 45 #[.agg #[.bool x.neg, .slice x.A x.n x.c], .agg #[.bool y.neg, .slice y.A y.n y.c]] w (RetN w (a + b)) := by
  go_enter Tryz.func45, Tryz.ntmps45
  go_upto_region 1 with fail
  refine wp_new3 fun W hA hB hO hBel => ?_
  obtain ⟨r0, r1⟩ := hA.rules2
  obtain ⟨s0, s1⟩ := hB.rules2
  have hW := Below.refl W.heap.size W
  have va := hx.val
  have vb := hy.val
  replace hx := hx.on hBel
  replace hy := hy.on hBel
  by_cases hs : x.neg = y.neg
  · have hb : (x.neg == y.neg) = true := by simp [hs]
    rw [← hs] at vb
    have HZ := Lib.hid (rsgn_add va vb)
    clear hs va vb
    go_wp2_with fail
    refine wp_region_last W [Spec.eq (.pointer (some ⟨w.heap.size, 0, none⟩)), Spec.eq (.bool x.neg), Spec.eq (.pointer (some ⟨w.heap.size, 1, none⟩)), Spec.eq (.slice x.A x.n x.c), Spec.eq (.pointer (some ⟨w.heap.size + 1, 1, none⟩)), Spec.eq (.slice y.A y.n y.c), sDg (fun l => val l = a.natAbs + b.natAbs ∧ l.length ≤ many), sN (a + b)]
        rfl (by kernel_rfl) (by kernel_rfl) rfl (by kernel_rfl) (by kernel_rfl) (Below.drew (Below.refl _ _)) ?_ ?_
    ·
      refine RegSteps.cons ?_ ?_
      · intro _ az wz hC hF hD _ K hK
        have q2 : az.tmps[2]? = some (.pointer (some ⟨w.heap.size, 0, none⟩)) := hF 2 rfl
        clear hF hD
        refine want_none rfl ?_
        go_simp
        exact hK _ _ hC (Below.refl _ _) rfl
      refine RegSteps.cons ?_ ?_
      · intro _ az wz hC hF hD _ K hK
        obtain ⟨_, q10, rfl⟩ := dep hD 0 rfl rfl rfl rfl
        obtain ⟨l0, l1, _⟩ := (hA.on hC).all2
        clear hF hD
        refine want_none rfl ?_
        go_simp
        exact hK _ _ hC (Below.refl _ _) rfl
      refine RegSteps.cons ?_ ?_
      · intro _ az wz hC hF hD _ K hK
        have q2 : az.tmps[2]? = some (.pointer (some ⟨w.heap.size, 0, none⟩)) := hF 2 rfl
        clear hF hD
        refine want_none rfl ?_
        go_simp
        exact hK _ _ hC (Below.refl _ _) rfl
      refine RegSteps.cons ?_ ?_
      · intro _ az wz hC hF hD _ K hK
        obtain ⟨_, q12, rfl⟩ := dep hD 2 rfl rfl rfl rfl
        obtain ⟨l0, l1, _⟩ := (hA.on hC).all2
        clear hF hD
        refine want_none rfl ?_
        go_simp
        exact hK _ _ hC (Below.refl _ _) rfl
      refine RegSteps.cons ?_ ?_
      · intro _ az wz hC hF hD _ K hK
        have q3 : az.tmps[3]? = some (.pointer (some ⟨w.heap.size + 1, 0, none⟩)) := hF 3 rfl
        clear hF hD
        refine want_none rfl ?_
        go_simp
        exact hK _ _ hC (Below.refl _ _) rfl
      refine RegSteps.cons ?_ ?_
      · intro _ az wz hC hF hD _ K hK
        obtain ⟨_, q14, rfl⟩ := dep hD 4 rfl rfl rfl rfl
        obtain ⟨l0, l1, _⟩ := (hB.on hC).all2
        clear hF hD
        refine want_none rfl ?_
        go_simp
        exact hK _ _ hC (Below.refl _ _) rfl
      refine RegSteps.cons ?_ ?_
      · intro _ az wz hC hF hD _ K hK
        obtain ⟨_, q13, rfl⟩ := dep hD 3 rfl rfl rfl rfl
        obtain ⟨_, q15, rfl⟩ := dep hD 5 rfl rfl rfl rfl
        clear hF hD
        refine want_none rfl ?_
        go_simp
        refine (nplus (hx.on hC) (hy.on hC) h1 h2).mono ?_
        rintro e wy ⟨x, rfl, k, hx⟩
        exact hK _ _ (Below.call hC k) k ⟨x, rfl, hx⟩
      refine RegSteps.cons ?_ ?_
      · intro _ az wz hC hF hD _ K hK
        obtain ⟨_, q11, rfl⟩ := dep hD 1 rfl rfl rfl rfl
        obtain ⟨_, q16, x16, rfl, hx16⟩ := dep hD 6 rfl rfl rfl rfl
        clear hF hD
        refine want_none rfl ?_
        go_simp
        refine (nnormal _ hx16 HZ.out).mono ?_
        rintro e wy ⟨x, rfl, k, hx⟩
        exact hK _ _ (Below.call hC k) k ⟨x, rfl, hx⟩
      exact RegSteps.nil
    intro w5 hC5
    rintro _ rfl _ rfl _ rfl _ rfl _ rfl _ rfl _ ⟨y16, rfl, _⟩ _ ⟨y17, rfl, hy17⟩
    simp only [List.dropLast, FinOK, Act.put, List.setIfInBounds_toArray, List.set_cons_zero, List.set_cons_succ]
    intro K hK
    refine want_none rfl ?_
    obtain ⟨z0, z1, f0, f1⟩ := (hO.on hC5).all2
    go_simp
    refine hK _ _ ?_
    clear hK K
    have hO5 := (hO.on hC5).put2 (.bool y17.neg) (.slice y17.A y17.n y17.c)
    obtain ⟨q0, q1, _⟩ := hO5.all2
    have HF := Lib.hid (retN_end (Below.call hBel hC5) (by omega) (hO.on hC5) (by simp) (by simp) hy17)
    clear hO5 hO hA hB
    go_wp2
    exact bodyPost_ret (v := .agg #[.bool y17.neg, .slice y17.A y17.n y17.c]) (by simp [results, Tryz.results45, go_sem, q0, q1]) rfl HF.out
  · have hb : (x.neg == y.neg) = false := by simp [hs]
    rcases Int.lt_trichotomy a.natAbs b.natAbs with h | h
    · have hle : a.natAbs ≤ b.natAbs := by omega
      have hc : cmpI a.natAbs b.natAbs < 0 := by rw [cmpI_lt h]; omega
      have HZ := Lib.hid (show sgn y.neg (b.natAbs - a.natAbs) = a + b by rw [rsgn_sub vb va (Ne.symm hs) hle, Int.add_comm])
      clear hs va vb h
      go_wp2_with fail
      refine (ncompared hx hy).mono ?_
      rintro e w4 ⟨rfl, k4⟩
      replace hx := hx.on k4
      replace hy := hy.on k4
      replace hA := hA.on k4
      replace hB := hB.on k4
      replace hO := hO.on k4
      replace hBel := Below.call hBel k4
      clear r0 r1 s0 s1 k4
      go_wp2_with fail
      refine wp_region_last w4 [Spec.eq (.pointer (some ⟨w.heap.size + 1, 0, none⟩)), Spec.eq (.bool y.neg), Spec.eq (.pointer (some ⟨w.heap.size + 1, 1, none⟩)), Spec.eq (.slice y.A y.n y.c), Spec.eq (.pointer (some ⟨w.heap.size, 1, none⟩)), Spec.eq (.slice x.A x.n x.c), sDg (fun l => val l = b.natAbs - a.natAbs ∧ l.length ≤ many), sN (a + b)]
          rfl (by kernel_rfl) (by kernel_rfl) rfl (by kernel_rfl) (by kernel_rfl) (Below.drew (Below.refl _ _)) ?_ ?_
      ·
        refine RegSteps.cons ?_ ?_
        · intro _ az wz hC hF hD _ K hK
          have q3 : az.tmps[3]? = some (.pointer (some ⟨w.heap.size + 1, 0, none⟩)) := hF 3 rfl
          clear hF hD
          refine want_none rfl ?_
          go_simp
          exact hK _ _ hC (Below.refl _ _) rfl
        refine RegSteps.cons ?_ ?_
        · intro _ az wz hC hF hD _ K hK
          obtain ⟨_, q24, rfl⟩ := dep hD 0 rfl rfl rfl rfl
          obtain ⟨l0, l1, _⟩ := (hB.on hC).all2
          clear hF hD
          refine want_none rfl ?_
          go_simp
          exact hK _ _ hC (Below.refl _ _) rfl
        refine RegSteps.cons ?_ ?_
        · intro _ az wz hC hF hD _ K hK
          have q3 : az.tmps[3]? = some (.pointer (some ⟨w.heap.size + 1, 0, none⟩)) := hF 3 rfl
          clear hF hD
          refine want_none rfl ?_
          go_simp
          exact hK _ _ hC (Below.refl _ _) rfl
        refine RegSteps.cons ?_ ?_
        · intro _ az wz hC hF hD _ K hK
          obtain ⟨_, q26, rfl⟩ := dep hD 2 rfl rfl rfl rfl
          obtain ⟨l0, l1, _⟩ := (hB.on hC).all2
          clear hF hD
          refine want_none rfl ?_
          go_simp
          exact hK _ _ hC (Below.refl _ _) rfl
        refine RegSteps.cons ?_ ?_
        · intro _ az wz hC hF hD _ K hK
          have q2 : az.tmps[2]? = some (.pointer (some ⟨w.heap.size, 0, none⟩)) := hF 2 rfl
          clear hF hD
          refine want_none rfl ?_
          go_simp
          exact hK _ _ hC (Below.refl _ _) rfl
        refine RegSteps.cons ?_ ?_
        · intro _ az wz hC hF hD _ K hK
          obtain ⟨_, q28, rfl⟩ := dep hD 4 rfl rfl rfl rfl
          obtain ⟨l0, l1, _⟩ := (hA.on hC).all2
          clear hF hD
          refine want_none rfl ?_
          go_simp
          exact hK _ _ hC (Below.refl _ _) rfl
        refine RegSteps.cons ?_ ?_
        · intro _ az wz hC hF hD _ K hK
          obtain ⟨_, q27, rfl⟩ := dep hD 3 rfl rfl rfl rfl
          obtain ⟨_, q29, rfl⟩ := dep hD 5 rfl rfl rfl rfl
          clear hF hD
          refine want_none rfl ?_
          go_simp
          refine (nminus (hy.on hC) (hx.on hC) hle).mono ?_
          rintro e wy ⟨x, rfl, k, hx⟩
          exact hK _ _ (Below.call hC k) k ⟨x, rfl, hx⟩
        refine RegSteps.cons ?_ ?_
        · intro _ az wz hC hF hD _ K hK
          obtain ⟨_, q25, rfl⟩ := dep hD 1 rfl rfl rfl rfl
          obtain ⟨_, q30, x30, rfl, hx30⟩ := dep hD 6 rfl rfl rfl rfl
          clear hF hD
          refine want_none rfl ?_
          go_simp
          refine (nnormal _ hx30 HZ.out).mono ?_
          rintro e wy ⟨x, rfl, k, hx⟩
          exact hK _ _ (Below.call hC k) k ⟨x, rfl, hx⟩
        exact RegSteps.nil
      intro w5 hC5
      rintro _ rfl _ rfl _ rfl _ rfl _ rfl _ rfl _ ⟨y30, rfl, _⟩ _ ⟨y31, rfl, hy31⟩
      simp only [List.dropLast, FinOK, Act.put, List.setIfInBounds_toArray, List.set_cons_zero, List.set_cons_succ]
      intro K hK
      refine want_none rfl ?_
      obtain ⟨z0, z1, f0, f1⟩ := (hO.on hC5).all2
      go_simp
      refine hK _ _ ?_
      clear hK K
      have hO5 := (hO.on hC5).put2 (.bool y31.neg) (.slice y31.A y31.n y31.c)
      obtain ⟨q0, q1, _⟩ := hO5.all2
      have HF := Lib.hid (retN_end (Below.call hBel hC5) (by omega) (hO.on hC5) (by simp) (by simp) hy31)
      clear hO5 hO hA hB
      go_wp2
      exact bodyPost_ret (v := .agg #[.bool y31.neg, .slice y31.A y31.n y31.c]) (by simp [results, Tryz.results45, go_sem, q0, q1]) rfl HF.out
    · have hle : b.natAbs ≤ a.natAbs := by omega
      have hc : ¬ cmpI a.natAbs b.natAbs < 0 := by
        rcases h with h | h
        · rw [cmpI_eq h]; omega
        · rw [cmpI_gt h]; omega
      have HZ := Lib.hid (show sgn x.neg (a.natAbs - b.natAbs) = a + b from rsgn_sub va vb hs hle)
      clear hs va vb h
      go_wp2_with fail
      refine (ncompared hx hy).mono ?_
      rintro e w4 ⟨rfl, k4⟩
      replace hx := hx.on k4
      replace hy := hy.on k4
      replace hA := hA.on k4
      replace hB := hB.on k4
      replace hO := hO.on k4
      replace hBel := Below.call hBel k4
      clear r0 r1 s0 s1 k4
      go_wp2_with fail
      refine wp_region_last w4 [Spec.eq (.pointer (some ⟨w.heap.size, 0, none⟩)), Spec.eq (.bool x.neg), Spec.eq (.pointer (some ⟨w.heap.size, 1, none⟩)), Spec.eq (.slice x.A x.n x.c), Spec.eq (.pointer (some ⟨w.heap.size + 1, 1, none⟩)), Spec.eq (.slice y.A y.n y.c), sDg (fun l => val l = a.natAbs - b.natAbs ∧ l.length ≤ many), sN (a + b)]
          rfl (by kernel_rfl) (by kernel_rfl) rfl (by kernel_rfl) (by kernel_rfl) (Below.drew (Below.refl _ _)) ?_ ?_
      ·
        refine RegSteps.cons ?_ ?_
        · intro _ az wz hC hF hD _ K hK
          have q2 : az.tmps[2]? = some (.pointer (some ⟨w.heap.size, 0, none⟩)) := hF 2 rfl
          clear hF hD
          refine want_none rfl ?_
          go_simp
          exact hK _ _ hC (Below.refl _ _) rfl
        refine RegSteps.cons ?_ ?_
        · intro _ az wz hC hF hD _ K hK
          obtain ⟨_, q32, rfl⟩ := dep hD 0 rfl rfl rfl rfl
          obtain ⟨l0, l1, _⟩ := (hA.on hC).all2
          clear hF hD
          refine want_none rfl ?_
          go_simp
          exact hK _ _ hC (Below.refl _ _) rfl
        refine RegSteps.cons ?_ ?_
        · intro _ az wz hC hF hD _ K hK
          have q2 : az.tmps[2]? = some (.pointer (some ⟨w.heap.size, 0, none⟩)) := hF 2 rfl
          clear hF hD
          refine want_none rfl ?_
          go_simp
          exact hK _ _ hC (Below.refl _ _) rfl
        refine RegSteps.cons ?_ ?_
        · intro _ az wz hC hF hD _ K hK
          obtain ⟨_, q34, rfl⟩ := dep hD 2 rfl rfl rfl rfl
          obtain ⟨l0, l1, _⟩ := (hA.on hC).all2
          clear hF hD
          refine want_none rfl ?_
          go_simp
          exact hK _ _ hC (Below.refl _ _) rfl
        refine RegSteps.cons ?_ ?_
        · intro _ az wz hC hF hD _ K hK
          have q3 : az.tmps[3]? = some (.pointer (some ⟨w.heap.size + 1, 0, none⟩)) := hF 3 rfl
          clear hF hD
          refine want_none rfl ?_
          go_simp
          exact hK _ _ hC (Below.refl _ _) rfl
        refine RegSteps.cons ?_ ?_
        · intro _ az wz hC hF hD _ K hK
          obtain ⟨_, q36, rfl⟩ := dep hD 4 rfl rfl rfl rfl
          obtain ⟨l0, l1, _⟩ := (hB.on hC).all2
          clear hF hD
          refine want_none rfl ?_
          go_simp
          exact hK _ _ hC (Below.refl _ _) rfl
        refine RegSteps.cons ?_ ?_
        · intro _ az wz hC hF hD _ K hK
          obtain ⟨_, q35, rfl⟩ := dep hD 3 rfl rfl rfl rfl
          obtain ⟨_, q37, rfl⟩ := dep hD 5 rfl rfl rfl rfl
          clear hF hD
          refine want_none rfl ?_
          go_simp
          refine (nminus (hx.on hC) (hy.on hC) hle).mono ?_
          rintro e wy ⟨x, rfl, k, hx⟩
          exact hK _ _ (Below.call hC k) k ⟨x, rfl, hx⟩
        refine RegSteps.cons ?_ ?_
        · intro _ az wz hC hF hD _ K hK
          obtain ⟨_, q33, rfl⟩ := dep hD 1 rfl rfl rfl rfl
          obtain ⟨_, q38, x38, rfl, hx38⟩ := dep hD 6 rfl rfl rfl rfl
          clear hF hD
          refine want_none rfl ?_
          go_simp
          refine (nnormal _ hx38 HZ.out).mono ?_
          rintro e wy ⟨x, rfl, k, hx⟩
          exact hK _ _ (Below.call hC k) k ⟨x, rfl, hx⟩
        exact RegSteps.nil
      intro w5 hC5
      rintro _ rfl _ rfl _ rfl _ rfl _ rfl _ rfl _ ⟨y38, rfl, _⟩ _ ⟨y39, rfl, hy39⟩
      simp only [List.dropLast, FinOK, Act.put, List.setIfInBounds_toArray, List.set_cons_zero, List.set_cons_succ]
      intro K hK
      refine want_none rfl ?_
      obtain ⟨z0, z1, f0, f1⟩ := (hO.on hC5).all2
      go_simp
      refine hK _ _ ?_
      clear hK K
      have hO5 := (hO.on hC5).put2 (.bool y39.neg) (.slice y39.A y39.n y39.c)
      obtain ⟨q0, q1, _⟩ := hO5.all2
      have HF := Lib.hid (retN_end (Below.call hBel hC5) (by omega) (hO.on hC5) (by simp) (by simp) hy39)
      clear hO5 hO hA hB
      go_wp2
      exact bodyPost_ret (v := .agg #[.bool y39.neg, .slice y39.A y39.n y39.c]) (by simp [results, Tryz.results45, go_sem, q0, q1]) rfl HF.out
end Go.Proofs.YthafhbogpfggjaaGreatDoor

/-
  (second part)
-/
namespace Go.Proofs.YthafhbogpfggjaaGreatDoor
open Go.RowKit
open Dig (val Ws Nz)

theorem make_int (n : Nat) (hn : n ≤ 1099511627776) (m : Int) (hm : m = (n : Int)) (u : World) :
    (Instr.makeSlice 41 (.int .i64 m) (.int .i64 m)).run Tryz.prog u = .ok (.slice (some ⟨u.heap.size, 0, none⟩) n n) (u.alloc (.cells (List.replicate n (d64 0)).toArray 3)) := by
  obtain ⟨i0, hi, hz0, hz1, hz2⟩ := info_parts int_info
  exact run_make1 _ _ i0 _ Tryz.underlying41 hi hz0 hz1 rfl (by rw [hz2]; decide) n hn m hm u
/-- The state of a product: S is what the result holds. -/
structure MSt (w : World) (go : Nat) (n : Nat) (z : Nat) (S : List Nat) (wr : World) : Prop where
  len : S.length = n
  ws : Ws S
  zero : ∀ j, z ≤ j → S.getD j 0 = 0
  out : Own wr go 3 (S.map d64)
  bel : Below w.heap.size w wr
theorem MSt.cell {w : World} {go n z : Nat} {S : List Nat} {wr : World} (h : MSt w go n z S wr) {j : Nat} (hj : j < n) : wr.cell? ⟨go, j, none⟩ = some (.int .i64 (S.getD j 0 : Nat)) := by
  have hl := h.len
  rw [h.out.cell, List.getElem?_map, List.getElem?_eq_getElem (by omega), Dig.getD_lt (by omega)]; rfl
theorem MSt.on {w : World} {go n z : Nat} {S : List Nat} {wr w' : World} (h : MSt w go n z S wr) (hb : Below wr.heap.size wr w') : MSt w go n z S w' :=
  ⟨h.len, h.ws, h.zero, h.out.on hb, h.bel.trans (hb.mono h.bel.size)⟩
theorem MSt.set_ {w : World} {go n z : Nat} {S : List Nat} {wr : World} (h : MSt w go n z S wr) (hB : w.heap.size ≤ go) {j x z' : Nat} (hx : x < 10000) (hz : z ≤ z') (hj : j < z') {s : Int} (hs : s = (x : Int)) :
    MSt w go n z' (S.set j x) (wr.setCell ⟨go, j, none⟩ (.int .i64 s)) := by
  subst hs
  refine ⟨by simp [h.len], h.ws.set j hx, fun i hi => ?_, ?_, h.bel.setCell hB _⟩
  · have := h.zero i (by omega)
    rw [List.getD_eq_getElem?_getD, List.getElem?_set_ne (by omega), ← List.getD_eq_getElem?_getD, this]
  · have := h.out.set_ j (d64 x)
    rw [← List.map_set] at this
    exact this
theorem MSt.dv {w : World} {go n z : Nat} {S : List Nat} {wr : World} (h : MSt w go n z S wr) (hn : n ≤ many) {m : Nat} (hv : val S = m) : (⟨some ⟨go, 0, none⟩, n, n⟩ : DV).is wr fun l => val l = m ∧ l.length ≤ many := by
  have hm : many = 65536 := rfl
  exact ⟨S, h.len, ⟨h.out.sl h.out.lt, h.ws, by rw [h.len]; exact Nat.le_refl _, by show n ≤ maxLen; unfold maxLen; omega⟩, hv, by rw [h.len]; exact hn⟩
theorem mul_lim4 {x y : Nat} (hx : x < 10000) (hy : y < 10000) : x * y ≤ 99980001 := by
  have : x * y ≤ 9999 * 9999 := Nat.mul_le_mul (by omega) (by omega)
  omega
theorem sgn_mul4 {p q : Bool} {a b : Int} (ha : a = sgn p a.natAbs) (hb : b = sgn q b.natAbs) : sgn (p != q) (a.natAbs * b.natAbs) = a * b := by
  rw [ha, hb, rsgn_abs, rsgn_abs]
  unfold sgn
  cases p <;> cases q <;> simp [Int.mul_neg, Int.neg_mul]
set_option maxRecDepth 100000 in
set_option maxHeartbeats 3200000 in
theorem rMul_any {x y : IV} {w : World} {p q : Int} (hx : NI x w p) (hy : NI y w q) (hn : x.n + y.n ≤ many) :
    Calls Tryz.prog 44 #[.agg #[.bool x.neg, .slice x.A x.n x.c], .agg #[.bool y.neg, .slice y.A y.n y.c]] w (RetN w (p * q)) := by
  have HZ := Lib.hid (sgn_mul4 hx.val hy.val)
  obtain ⟨a, e1, e2, e3, e4, e5, e6⟩ := hx.abs
  obtain ⟨b, f1, f2, f3, f4, f5, f6⟩ := hy.abs
  obtain ⟨xneg, A, xn, ca⟩ := x
  obtain ⟨yneg, B, yn, cb⟩ := y
  simp only at e1 e2 e3 f1 f2 f3 hn HZ
  subst e1 f1
  have hA0 := e3.sl
  have hB0 := f3.sl
  have hwa := e3.ws
  have hwb := f3.ws
  have ca1 := e3.cap
  have cb1 := f3.cap
  have ca2 := e3.mx
  have cb2 := f3.mx
  unfold maxLen at ca2 cb2
  rw [← e5, ← f5] at HZ
  have hnm := hn
  unfold many at hn
  clear hx hy e2 e3 e4 e5 e6 f2 f3 f4 f5 f6
  have hmk := make_int (a.length + b.length) (by omega) ((a.length : Int) + (b.length : Int)) (by omega)
  go_enter Tryz.func44, Tryz.ntmps44
  go_upto_region 1 with fail
  refine wp_new3 fun W hA hB hO hBel => ?_
  replace hA0 := hA0.on hBel
  replace hB0 := hB0.on hBel
  obtain ⟨r0, r1⟩ := hA.rules2
  obtain ⟨s0, s1⟩ := hB.rules2
  have hW := Below.refl W.heap.size W
  go_wp2
  clear hW
  go_loopw [6] (fun i wr => ∃ (k : Nat) (S : List Nat), k ≤ a.length ∧ i = .int .i64 k ∧ Hid (val S = val (a.take k) * val b) ∧ MSt W W.heap.size (a.length + b.length) (k + b.length) S wr)
    (fun i _ => a.length - (intOf i).toNat)
  case atStart => exact ⟨0, List.replicate (a.length + b.length) 0, by omega, rfl, Lib.hid (by simp [val, Dig.val_replicate]), by simp, Ws.replicate _, fun j _ => by simp [List.getD_eq_getElem?_getD, List.getElem?_replicate]; split <;> rfl, by simpa using Own.rep W 3 (a.length + b.length) (d64 0), by go_grown⟩
  case round =>
    obtain ⟨i, S, hi, rfl, hv, hst⟩ := hrel
    have hbr := hst.bel
    by_cases hlt : i < a.length
    · obtain ⟨g1, o1, rfl, hg1, hc1⟩ := hA0.d64at (i := i) hlt
      have ba := hwa.get hlt
      have hgx := Dig.getD_lt hlt
      obtain ⟨x, hx⟩ : ∃ x, x = a[i] := ⟨_, rfl⟩
      rw [← hx] at hc1 ba hgx
      have HEA := Lib.hid hgx
      clear hx hgx
      obtain ⟨wo, rfl⟩ : ∃ wo : World, wo = wr := ⟨_, rfl⟩
      go_wp2
      clear hbr
      go_loopw [8, 7] (fun ki cy wi => ∃ (k : Nat) (S2 : List Nat) (cc : Nat), k ≤ b.length ∧ ki = .int .i64 k ∧ cy = .int .i64 (cc : Nat) ∧ cc < 10000 ∧
          Hid (val S2 + cc * 10000 ^ (i + k) = val S + x * val (b.take k) * 10000 ^ i) ∧ MSt W W.heap.size (a.length + b.length) (i + b.length) S2 wi)
        (fun ki _ _ => b.length - (intOf ki).toNat)
      case atStart => exact ⟨0, S, 0, by omega, rfl, rfl, by omega, Lib.hid (by simp [val]), hst⟩
      case round =>
        obtain ⟨k, S2, cc, hk, rfl, rfl, hcc, hv2, hs2⟩ := hrel
        have hbr := hs2.bel
        by_cases hkl : k < b.length
        · obtain ⟨g2, o2, rfl, hg2, hc2⟩ := hB0.d64at (i := k) hkl
          have bb := hwb.get hkl
          have hgy := Dig.getD_lt hkl
          obtain ⟨y, hy⟩ : ∃ y, y = b[k] := ⟨_, rfl⟩
          rw [← hy] at hc2 bb hgy
          have hj : i + k < a.length + b.length := by omega
          have hsc := hs2.cell hj
          have hsf := hs2.out.frozen (i + k)
          have hsw := hs2.ws.getD (i + k)
          obtain ⟨s, hs⟩ : ∃ s, s = S2.getD (i + k) 0 := ⟨_, rfl⟩
          have hm := Dig.mul_step (b := b) (x := x) (by rw [hs2.len]; exact hj) hv2.out (t := x * y + s + cc) (by rw [hgy, ← hs])
          rw [← hs] at hsc hsw
          clear hs hy hgy
          have e : ((x * y : Nat) : Int) = (x : Int) * (y : Int) := Int.natCast_mul _ _
          have hp1 := mul_lim4 ba bb
          obtain ⟨t, ht⟩ : ∃ t, t = x * y + s + cc := ⟨_, rfl⟩
          rw [← ht] at hm
          have HT := Lib.hid (show (t : Int) = (s : Int) + (x : Int) * (y : Int) + (cc : Int) by omega)
          have hp0 : (0 : Int) ≤ (x : Int) * (y : Int) := by omega
          have hp2 : (x : Int) * (y : Int) ≤ 99980001 := by omega
          have ht1 : t ≤ 99999999 := by omega
          have HM := Lib.hid hm
          clear hm e hp1 ht
          have hAi := hA.on hs2.bel
          have hBi := hB.on hs2.bel
          have hCs : ∀ wz, Below wr.heap.size wr wz → wz.cell? ⟨W.heap.size, i + k, none⟩ = some (.int .i64 (s : Int)) := fun wz hz => (hz.cell (World.block_lt_of_cell? _ _ hsc)).trans hsc
          have hCx : ∀ wz, Below wr.heap.size wr wz → wz.cell? ⟨g1, o1 + i, none⟩ = some (.int .i64 (x : Int)) := fun wz hz => ((hbr.trans (hz.mono hbr.size)).cell (p := ⟨g1, o1 + i, none⟩) hg1).trans hc1
          have hCy : ∀ wz, Below wr.heap.size wr wz → wz.cell? ⟨g2, o2 + k, none⟩ = some (.int .i64 (y : Int)) := fun wz hz => ((hbr.trans (hz.mono hbr.size)).cell (p := ⟨g2, o2 + k, none⟩) hg2).trans hc2
          go_upto_region 9 with fail
          refine wp_region_specs wr [Spec.eq (.slice (some ⟨W.heap.size, 0, none⟩) (a.length + b.length) (a.length + b.length)), Spec.eq (.int .i64 (i : Int)), Spec.eq (.int .i64 (k : Int)), Spec.eq (.int .i64 ((i : Int) + (k : Int))), Spec.eq (.pointer (some ⟨W.heap.size, i + k, none⟩)), Spec.eq (.int .i64 (s : Int)), Spec.eq (.pointer (some ⟨w.heap.size, 1, none⟩)), Spec.eq (.slice (some ⟨g1, o1, none⟩) a.length ca), Spec.eq (.int .i64 (i : Int)), Spec.eq (.pointer (some ⟨g1, o1 + i, none⟩)), Spec.eq (.int .i64 (x : Int)), Spec.eq (.pointer (some ⟨w.heap.size + 1, 1, none⟩)), Spec.eq (.slice (some ⟨g2, o2, none⟩) b.length cb), Spec.eq (.int .i64 (k : Int)), Spec.eq (.pointer (some ⟨g2, o2 + k, none⟩)), Spec.eq (.int .i64 (y : Int)), Spec.eq (.int .i64 ((x : Int) * (y : Int))), Spec.eq (.int .i64 ((s : Int) + (x : Int) * (y : Int))), Spec.eq (.int .i64 (cc : Int)), Spec.eq (.int .i64 (t : Int)), Spec.eq (.int .i64 (t : Int))]
              (by kernel_rfl) (by kernel_rfl) rfl (by kernel_rfl) (Below.drew (Below.refl _ _)) ?_ ?_
          ·
            refine RegSteps.cons ?_ ?_
            · intro _ az wz hC hF hD _ K hK
              have q5 : az.tmps[5]? = some (.slice (some ⟨W.heap.size, 0, none⟩) (a.length + b.length) (a.length + b.length)) := hF 5 rfl
              clear hF hD
              refine want_none rfl ?_
              go_simp
              exact hK _ _ hC (Below.refl _ _) rfl
            refine RegSteps.cons ?_ ?_
            · intro _ az wz hC hF hD _ K hK
              have q6 : az.tmps[6]? = some (.int .i64 (i : Int)) := hF 6 rfl
              clear hF hD
              refine want_none rfl ?_
              go_simp
              exact hK _ _ hC (Below.refl _ _) rfl
            refine RegSteps.cons ?_ ?_
            · intro _ az wz hC hF hD _ K hK
              have q8 : az.tmps[8]? = some (.int .i64 (k : Int)) := hF 8 rfl
              clear hF hD
              refine want_none rfl ?_
              go_simp
              exact hK _ _ hC (Below.refl _ _) rfl
            refine RegSteps.cons ?_ ?_
            · intro _ az wz hC hF hD _ K hK
              obtain ⟨_, q33, rfl⟩ := dep hD 1 rfl rfl rfl rfl
              obtain ⟨_, q34, rfl⟩ := dep hD 2 rfl rfl rfl rfl
              clear hF hD
              refine want_none rfl ?_
              go_simp
              try go_ints
              exact hK _ _ hC (Below.refl _ _) rfl
            refine RegSteps.cons ?_ ?_
            · intro _ az wz hC hF hD _ K hK
              obtain ⟨_, q32, rfl⟩ := dep hD 0 rfl rfl rfl rfl
              obtain ⟨_, q35, rfl⟩ := dep hD 3 rfl rfl rfl rfl
              have j1 : (0 : Int) ≤ (i : Int) + (k : Int) := by omega
              have j2 : (i : Int) + (k : Int) < (a.length : Int) + (b.length : Int) := by omega
              have j3 : ((i : Int) + (k : Int)).toNat = i + k := by omega
              clear hF hD
              refine want_none rfl ?_
              go_simp
              exact hK _ _ hC (Below.refl _ _) rfl
            refine RegSteps.cons ?_ ?_
            · intro _ az wz hC hF hD _ K hK
              obtain ⟨_, q36, rfl⟩ := dep hD 4 rfl rfl rfl rfl
              have lc := hCs wz hC
              clear hF hD
              refine want_none rfl ?_
              go_simp
              exact hK _ _ hC (Below.refl _ _) rfl
            refine RegSteps.cons ?_ ?_
            · intro _ az wz hC hF hD _ K hK
              have q2 : az.tmps[2]? = some (.pointer (some ⟨w.heap.size, 0, none⟩)) := hF 2 rfl
              clear hF hD
              refine want_none rfl ?_
              go_simp
              exact hK _ _ hC (Below.refl _ _) rfl
            refine RegSteps.cons ?_ ?_
            · intro _ az wz hC hF hD _ K hK
              obtain ⟨_, q38, rfl⟩ := dep hD 6 rfl rfl rfl rfl
              obtain ⟨l0, l1, _⟩ := (hAi.on hC).all2
              clear hF hD
              refine want_none rfl ?_
              go_simp
              exact hK _ _ hC (Below.refl _ _) rfl
            refine RegSteps.cons ?_ ?_
            · intro _ az wz hC hF hD _ K hK
              have q6 : az.tmps[6]? = some (.int .i64 (i : Int)) := hF 6 rfl
              clear hF hD
              refine want_none rfl ?_
              go_simp
              exact hK _ _ hC (Below.refl _ _) rfl
            refine RegSteps.cons ?_ ?_
            · intro _ az wz hC hF hD _ K hK
              obtain ⟨_, q39, rfl⟩ := dep hD 7 rfl rfl rfl rfl
              obtain ⟨_, q40, rfl⟩ := dep hD 8 rfl rfl rfl rfl
              clear hF hD
              refine want_none rfl ?_
              go_simp
              exact hK _ _ hC (Below.refl _ _) rfl
            refine RegSteps.cons ?_ ?_
            · intro _ az wz hC hF hD _ K hK
              obtain ⟨_, q41, rfl⟩ := dep hD 9 rfl rfl rfl rfl
              have lc := hCx wz hC
              clear hF hD
              refine want_none rfl ?_
              go_simp
              exact hK _ _ hC (Below.refl _ _) rfl
            refine RegSteps.cons ?_ ?_
            · intro _ az wz hC hF hD _ K hK
              have q3 : az.tmps[3]? = some (.pointer (some ⟨w.heap.size + 1, 0, none⟩)) := hF 3 rfl
              clear hF hD
              refine want_none rfl ?_
              go_simp
              exact hK _ _ hC (Below.refl _ _) rfl
            refine RegSteps.cons ?_ ?_
            · intro _ az wz hC hF hD _ K hK
              obtain ⟨_, q43, rfl⟩ := dep hD 11 rfl rfl rfl rfl
              obtain ⟨l0, l1, _⟩ := (hBi.on hC).all2
              clear hF hD
              refine want_none rfl ?_
              go_simp
              exact hK _ _ hC (Below.refl _ _) rfl
            refine RegSteps.cons ?_ ?_
            · intro _ az wz hC hF hD _ K hK
              have q8 : az.tmps[8]? = some (.int .i64 (k : Int)) := hF 8 rfl
              clear hF hD
              refine want_none rfl ?_
              go_simp
              exact hK _ _ hC (Below.refl _ _) rfl
            refine RegSteps.cons ?_ ?_
            · intro _ az wz hC hF hD _ K hK
              obtain ⟨_, q44, rfl⟩ := dep hD 12 rfl rfl rfl rfl
              obtain ⟨_, q45, rfl⟩ := dep hD 13 rfl rfl rfl rfl
              clear hF hD
              refine want_none rfl ?_
              go_simp
              exact hK _ _ hC (Below.refl _ _) rfl
            refine RegSteps.cons ?_ ?_
            · intro _ az wz hC hF hD _ K hK
              obtain ⟨_, q46, rfl⟩ := dep hD 14 rfl rfl rfl rfl
              have lc := hCy wz hC
              clear hF hD
              refine want_none rfl ?_
              go_simp
              exact hK _ _ hC (Below.refl _ _) rfl
            refine RegSteps.cons ?_ ?_
            · intro _ az wz hC hF hD _ K hK
              obtain ⟨_, q42, rfl⟩ := dep hD 10 rfl rfl rfl rfl
              obtain ⟨_, q47, rfl⟩ := dep hD 15 rfl rfl rfl rfl
              clear hF hD
              refine want_none rfl ?_
              go_simp
              try go_ints
              exact hK _ _ hC (Below.refl _ _) rfl
            refine RegSteps.cons ?_ ?_
            · intro _ az wz hC hF hD _ K hK
              obtain ⟨_, q37, rfl⟩ := dep hD 5 rfl rfl rfl rfl
              obtain ⟨_, q48, rfl⟩ := dep hD 16 rfl rfl rfl rfl
              clear hF hD
              refine want_none rfl ?_
              go_simp
              try go_ints
              exact hK _ _ hC (Below.refl _ _) rfl
            refine RegSteps.cons ?_ ?_
            · intro _ az wz hC hF hD _ K hK
              have q7 : az.tmps[7]? = some (.int .i64 (cc : Int)) := hF 7 rfl
              clear hF hD
              refine want_none rfl ?_
              go_simp
              exact hK _ _ hC (Below.refl _ _) rfl
            refine RegSteps.cons ?_ ?_
            · intro _ az wz hC hF hD _ K hK
              obtain ⟨_, q49, rfl⟩ := dep hD 17 rfl rfl rfl rfl
              obtain ⟨_, q50, rfl⟩ := dep hD 18 rfl rfl rfl rfl
              clear hF hD
              refine want_none rfl ?_
              go_simp
              try go_ints
              exact hK _ _ hC (Below.refl _ _) (by rw [HT.out]; rfl)
            refine RegSteps.cons ?_ ?_
            · intro _ az wz hC hF hD _ K hK
              obtain ⟨_, q51, rfl⟩ := dep hD 19 rfl rfl rfl rfl
              clear hF hD
              refine want_none rfl ?_
              go_simp
              exact hK _ _ hC (Below.refl _ _) rfl
            exact RegSteps.nil
          intro w7 hC7
          rintro _ rfl _ rfl _ rfl _ rfl _ rfl _ rfl _ rfl _ rfl _ rfl _ rfl _ rfl _ rfl _ rfl _ rfl _ rfl _ rfl _ rfl _ rfl _ rfl _ rfl _ rfl
          simp only [FinOK, Act.put, List.setIfInBounds_toArray, List.set_cons_zero, List.set_cons_succ]
          have hs3 := hs2.on hC7
          clear hs2 hbr hAi hBi hCs hCx hCy hsc hsf r0 r1 s0 s1
          have hn := fun (s' : Int) (h' : s' = (t % 10000 : Nat)) => hs3.set_ (Nat.le_refl _) (j := i + k) (x := t % 10000) (by omega) (Nat.le_refl _) (by omega) h'
          have HN := Lib.hid hn
          have hsc := hs3.cell hj
          have hsf := hs3.out.frozen (i + k)
          clear hn hs3 hC7
          have ht0 : (0 : Int) ≤ (t : Int) := by omega
          go_wp2
          go_roundw
          case rel => exact ⟨k + 1, _, t / 10000, by omega, by go_num, by go_num, by omega, HM, HN.out _ (by omega)⟩
          case measure => simp [intOf] <;> omega
        · obtain rfl : k = b.length := by omega
          have hj : i + b.length < a.length + b.length := by omega
          have hsc := hs2.cell hj
          have hz0 := hs2.zero (i + b.length) (Nat.le_refl _)
          rw [hz0] at hsc
          have hsf := hs2.out.frozen (i + b.length)
          have hn := fun (s' : Int) (h' : s' = (cc : Nat)) => hs2.set_ (z' := i + 1 + b.length) (Nat.le_refl _) (j := i + b.length) (x := cc) hcc (by omega) (by omega) h'
          have hm := Dig.mul_row (by rw [hs2.len]; exact hj) hz0 rfl hv2.out
          have hm2 : val (S2.set (i + b.length) cc) = val (a.take (i + 1)) * val b := by
            rw [hm, hv.out, Dig.val_take_succ, HEA.out]; grind
          have HN := Lib.hid hn
          have HM := Lib.hid hm2
          clear hn hm hm2 hz0
          go_wp2
          go_roundw
          case rel => exact ⟨i + 1, _, by omega, by go_num, HM, HN.out _ (by omega)⟩
          case measure => simp [intOf] <;> omega
    · obtain rfl : i = a.length := by omega
      have hd := hst.dv hnm (m := val a * val b) (by rw [hv.out, List.take_of_length_le (Nat.le_refl _)])
      go_wp2_with fail
      refine (nnormal (d := ⟨some ⟨W.heap.size, 0, none⟩, a.length + b.length, a.length + b.length⟩) _ hd HZ.out).mono ?_
      rintro e w5 ⟨y, rfl, k5, hy⟩
      have hO5 := (hO.on hbr).on k5
      obtain ⟨z0, z1, f0, f1⟩ := hO5.all2
      have HF := Lib.hid (retN_end (Below.call (Below.call hBel hbr) k5) (by omega) hO5 (by simp) (by simp) hy)
      have hO6 := hO5.put2 (.bool y.neg) (.slice y.A y.n y.c)
      obtain ⟨q0, q1, _⟩ := hO6.all2
      clear hO5 hO6 hO hA hB r0 r1 s0 s1 hbr hy hd hst
      go_wp2
      exact bodyPost_ret (v := .agg #[.bool y.neg, .slice y.A y.n y.c]) (by simp [results, Tryz.results44, go_sem, q0, q1]) rfl HF.out
end Go.Proofs.YthafhbogpfggjaaGreatDoor

/-
  (second part)
-/
namespace Go.Proofs.YthafhbogpfggjaaGreatDoor
open Go.RowKit
open Dig (val Ws Nz)

theorem sgn_neg {s : Bool} {a : Int} (ha : a = sgn s a.natAbs) : sgn (!s) a.natAbs = -a := by
  cases s <;> simp only [sgn] at * <;> simp at * <;> omega
theorem NI.len_eq {x y : IV} {w w' : World} {a b : Int} (hx : NI x w a) (hy : NI y w' b) (h : a.natAbs = b.natAbs) : x.n ≤ y.n := by
  obtain ⟨l, e1, e2, e3, e4, e5, e6⟩ := hx.abs
  obtain ⟨m, f1, f2, f3, f4, f5, f6⟩ := hy.abs
  rw [← e1, ← f1, Dig.norm_eq e3.ws f3.ws e4 f4 (by omega)]
  exact Nat.le_refl _
set_option maxRecDepth 100000 in
set_option maxHeartbeats 800000 in
theorem rNeg_any {x : IV} {w : World} {a : Int} (hx : NI x w a) : Calls Tryz.prog 52 #[.agg #[.bool x.neg, .slice x.A x.n x.c]] w (RetN w (-a)) := by
  go_enter Tryz.func52, Tryz.ntmps52
  go_upto_region 1 with fail
  refine wp_new2 fun W hA hO hBel => ?_
  obtain ⟨r0, r1⟩ := hA.rules2
  have hW := Below.refl W.heap.size W
  have va := hx.val
  have HZ := Lib.hid (sgn_neg va)
  replace hx := hx.on hBel
  have hd := hx.dv
  clear va
  go_wp2_with fail
  refine (nnormal (d := ⟨x.A, x.n, x.c⟩) _ hd HZ.out).mono ?_
  rintro e w5 ⟨y, rfl, k5, hy⟩
  have hO5 := hO.on k5
  obtain ⟨z0, z1, f0, f1⟩ := hO5.all2
  have HF := Lib.hid (retN_end (Below.call hBel k5) (by omega) hO5 (by simp) (by simp) hy)
  have hO6 := hO5.put2 (.bool y.neg) (.slice y.A y.n y.c)
  obtain ⟨q0, q1, _⟩ := hO6.all2
  clear hO5 hO6 hO hA r0 r1 hW hy hd hx
  go_wp2
  exact bodyPost_ret (v := .agg #[.bool y.neg, .slice y.A y.n y.c]) (by simp [results, Tryz.results52, go_sem, q0, q1]) rfl HF.out
set_option maxRecDepth 100000 in
set_option maxHeartbeats 800000 in
theorem rSub_any {x y : IV} {w : World} {a b : Int} (hx : NI x w a) (hy : NI y w b) (h1 : x.n < many) (h2 : y.n < many) :
    Calls Tryz.prog 50 #[.agg #[.bool x.neg, .slice x.A x.n x.c], .agg #[.bool y.neg, .slice y.A y.n y.c]] w (RetN w (a - b)) := by
  rw [Int.sub_eq_add_neg]
  go_enter Tryz.func50, Tryz.ntmps50
  go_upto_region 1 with fail
  refine wp_new3 fun W hA hB hO hBel => ?_
  replace hx := hx.on hBel
  replace hy := hy.on hBel
  refine wp_region_last W [Spec.eq (.agg #[.bool x.neg, .slice x.A x.n x.c]), Spec.eq (.agg #[.bool y.neg, .slice y.A y.n y.c]), sN (-b), sN (a + -b)]
      rfl (by kernel_rfl) (by kernel_rfl) rfl (by kernel_rfl) (by kernel_rfl) (Below.drew (Below.refl _ _)) ?_ ?_
  ·
    refine RegSteps.cons ?_ ?_
    · intro _ az wz hC hF hD _ K hK
      have q2 : az.tmps[2]? = some (.pointer (some ⟨w.heap.size, 0, none⟩)) := hF 2 rfl
      obtain ⟨l0, l1, _⟩ := (hA.on hC).all2
      clear hF hD
      refine want_none rfl ?_
      go_simp
      exact hK _ _ hC (Below.refl _ _) rfl
    refine RegSteps.cons ?_ ?_
    · intro _ az wz hC hF hD _ K hK
      have q3 : az.tmps[3]? = some (.pointer (some ⟨w.heap.size + 1, 0, none⟩)) := hF 3 rfl
      obtain ⟨l0, l1, _⟩ := (hB.on hC).all2
      clear hF hD
      refine want_none rfl ?_
      go_simp
      exact hK _ _ hC (Below.refl _ _) rfl
    refine RegSteps.cons ?_ ?_
    · intro _ az wz hC hF hD _ K hK
      obtain ⟨_, q6, rfl⟩ := dep hD 1 rfl rfl rfl rfl
      clear hF hD
      refine want_none rfl ?_
      go_simp
      refine (rNeg_any (hy.on hC)).mono ?_
      rintro e wy ⟨x, rfl, k, hx⟩
      exact hK _ _ (Below.call hC k) k ⟨x, rfl, hx⟩
    refine RegSteps.cons ?_ ?_
    · intro _ az wz hC hF hD _ K hK
      obtain ⟨_, q5, rfl⟩ := dep hD 0 rfl rfl rfl rfl
      obtain ⟨_, q7, x7, rfl, hx7⟩ := dep hD 2 rfl rfl rfl rfl
      clear hF hD
      refine want_none rfl ?_
      go_simp
      refine (rAdd_any (hx.on hC) hx7 h1 (Nat.lt_of_le_of_lt (NI.len_eq hx7 (hy.on hC) (by omega)) h2)).mono ?_
      rintro e wy ⟨x, rfl, k, hx⟩
      exact hK _ _ (Below.call hC k) k ⟨x, rfl, hx⟩
    exact RegSteps.nil
  intro w5 hC5
  rintro _ rfl _ rfl _ ⟨y7, rfl, _⟩ _ ⟨y8, rfl, hy8⟩
  simp only [List.dropLast, FinOK, Act.put, List.setIfInBounds_toArray, List.set_cons_zero, List.set_cons_succ]
  intro K hK
  refine want_none rfl ?_
  obtain ⟨z0, z1, f0, f1⟩ := (hO.on hC5).all2
  go_simp
  refine hK _ _ ?_
  clear hK K
  have hO5 := (hO.on hC5).put2 (.bool y8.neg) (.slice y8.A y8.n y8.c)
  obtain ⟨q0, q1, _⟩ := hO5.all2
  have HF := Lib.hid (retN_end (Below.call hBel hC5) (by omega) (hO.on hC5) (by simp) (by simp) hy8)
  clear hO5 hO hA hB
  go_wp2
  exact bodyPost_ret (v := .agg #[.bool y8.neg, .slice y8.A y8.n y8.c]) (by simp [results, Tryz.results50, go_sem, q0, q1]) rfl HF.out
theorem cmp_nat {a b : Nat} : (a < b ∧ cmpI a b = -1) ∨ (a = b ∧ cmpI a b = 0) ∨ (b < a ∧ cmpI a b = 1) := by
  rcases Nat.lt_trichotomy a b with h | h | h
  · exact .inl ⟨h, cmpI_lt (by exact_mod_cast h)⟩
  · exact .inr (.inl ⟨h, cmpI_eq (by exact_mod_cast h)⟩)
  · exact .inr (.inr ⟨h, cmpI_gt (by exact_mod_cast h)⟩)
theorem cmp_pos {a b : Int} (ha : a = sgn false a.natAbs) (hb : b = sgn false b.natAbs) : cmpI a.natAbs b.natAbs = cmpI a b := by
  have h1 : (a.natAbs : Int) = a := by simp [sgn] at ha; omega
  have h2 : (b.natAbs : Int) = b := by simp [sgn] at hb; omega
  rw [h1, h2]
theorem cmp_neg {a b : Int} (ha : a = sgn true a.natAbs) (hb : b = sgn true b.natAbs) : cmpI b.natAbs a.natAbs = cmpI a b := by
  have h1 : (a.natAbs : Int) = -a := by simp [sgn] at ha; omega
  have h2 : (b.natAbs : Int) = -b := by simp [sgn] at hb; omega
  rw [h1, h2]
  rcases Int.lt_trichotomy a b with h | h | h
  · rw [cmpI_lt h, cmpI_lt (by omega)]
  · rw [cmpI_eq h, cmpI_eq (by omega)]
  · rw [cmpI_gt h, cmpI_gt (by omega)]
set_option maxRecDepth 100000 in
set_option maxHeartbeats 800000 in
theorem rCompare_any {x y : IV} {w : World} {a b : Int} (hx : NI x w a) (hy : NI y w b) :
    Calls Tryz.prog 54 #[.agg #[.bool x.neg, .slice x.A x.n x.c], .agg #[.bool y.neg, .slice y.A y.n y.c]] w (RetInt w (cmpI a b)) := by
  have xa := hx.abs
  have ya := hy.abs
  obtain ⟨_, _, _, _, _, _, na⟩ := xa
  obtain ⟨_, _, _, _, _, _, nb⟩ := ya
  have va := hx.val
  have vb := hy.val
  obtain ⟨xn, xA, xl, xc⟩ := x
  obtain ⟨yn, yA, yl, yc⟩ := y
  cases xn <;> cases yn
  · have HC := Lib.hid (cmp_pos va vb)
    clear va vb na nb
    go_enter Tryz.func54, Tryz.ntmps54
    go_upto_region 1 with fail
    refine wp_new2 fun W hA hB hBel => ?_
    obtain ⟨r0, r1⟩ := hA.rules2
    obtain ⟨s0, s1⟩ := hB.rules2
    have hW := Below.refl W.heap.size W
    replace hx := hx.on hBel
    replace hy := hy.on hBel
    go_wp2_with fail
    refine (ncompared hx hy).mono ?_
    rintro e w4 ⟨rfl, k4⟩
    have HB := Lib.hid (Below.call hBel k4)
    go_wp2
    go_returns
    exact ⟨by rw [← HC.out]; rfl, HB.out⟩
  · have HC := Lib.hid (show cmpI a b = 1 by
      simp at na nb
      exact cmpI_gt (by omega))
    clear va vb na nb
    go_enter Tryz.func54, Tryz.ntmps54
    go_upto_region 1 with fail
    refine wp_new2 fun W hA hB hBel => ?_
    obtain ⟨r0, r1⟩ := hA.rules2
    obtain ⟨s0, s1⟩ := hB.rules2
    have hW := Below.refl W.heap.size W
    go_wp2
    go_returns
    exact ⟨by rw [HC.out]; rfl, hBel⟩
  · have HC := Lib.hid (show cmpI a b = -1 by
      simp at na nb
      exact cmpI_lt (by omega))
    clear va vb na nb
    go_enter Tryz.func54, Tryz.ntmps54
    go_upto_region 1 with fail
    refine wp_new2 fun W hA hB hBel => ?_
    obtain ⟨r0, r1⟩ := hA.rules2
    obtain ⟨s0, s1⟩ := hB.rules2
    have hW := Below.refl W.heap.size W
    go_wp2
    go_returns
    exact ⟨by rw [HC.out]; rfl, hBel⟩
  · have HC := Lib.hid (cmp_neg va vb)
    clear va vb na nb
    go_enter Tryz.func54, Tryz.ntmps54
    go_upto_region 1 with fail
    refine wp_new2 fun W hA hB hBel => ?_
    obtain ⟨r0, r1⟩ := hA.rules2
    obtain ⟨s0, s1⟩ := hB.rules2
    have hW := Below.refl W.heap.size W
    replace hx := hx.on hBel
    replace hy := hy.on hBel
    go_wp2_with fail
    refine (ncompared hy hx).mono ?_
    rintro e w4 ⟨rfl, k4⟩
    have HB := Lib.hid (Below.call hBel k4)
    go_wp2
    go_returns
    exact ⟨by rw [← HC.out]; rfl, HB.out⟩
end Go.Proofs.YthafhbogpfggjaaGreatDoor

/-
  (second part)
-/
namespace Go.Proofs.YthafhbogpfggjaaGreatDoor
open Go.RowKit
open Dig (val Ws Nz)

/-- append([]int{y}, d...). -/
theorem join_int {ops : Array Oper} {rest : List Oper} {o : Oper} {a : Act} {w : World} {Q : Exit → Act → World → Prop} (hgd : o.guard = none) (s x : Operand) (ho : o.op = .call { callee := .builtin .append, args := #[s, x], argTypes := #[41, 41] })
    (y : Nat) (hy : y < 10000) (d : DV) (l : List Nat) (hs : a.eval s = .slice (some ⟨w.heap.size, 0, none⟩) 1 1) (hx : a.eval x = .slice d.A d.n d.c) (hd : DigIs w d.A l d.c) (hl : l.length = d.n) (hn : d.n ≤ many)
    (h : ∀ (z : DV) w', Below w.heap.size w w' → z.is w' (fun k => k = y :: l) → wpList Tryz.prog ops Q rest (a.put o.dst (.slice z.A z.n z.c)) w') : wpList Tryz.prog ops Q (o :: rest) a (w.alloc (.cells #[.int .i64 (y : Int)] 3)) := by
  have hO := Own.new w 3 [.int .i64 (y : Int)]
  unfold many at hn
  obtain ⟨i0, hi, hz0, hz1, hz2⟩ := info_parts int_info
  by_cases h0 : d.n = 0
  · have hl0 : l = [] := List.eq_nil_of_length_eq_zero (by omega)
    subst hl0
    refine wpList_plain hgd fun K hK => ?_
    have hsrc : Src Tryz.prog i0.size 41 (.slice d.A d.n d.c) 0 [] (w.alloc (.cells #[.int .i64 (y : Int)] 3)) := by
      rw [h0]
      cases d.A with
      | none => exact Src.ofNil _ Tryz.underlying41 d.c
      | some ad => exact Src.ofSlice _ Tryz.underlying41 ad 0 d.c [] (by simp) (by simp) (by simp)
    have hrun := run_append_nothing (P := Tryz.prog) (w.alloc (.cells #[.int .i64 (y : Int)] 3)) 41 41 o.type 3 i0 Tryz.underlying41 hi (some ⟨w.heap.size, 0, none⟩) 1 1 (Nat.le_refl _) _ hsrc
    unfold Oper.wp
    simp [execOp, ho, resolve, invoke, builtin, hs, hx, hrun, Result.andThen]
    exact hK _ _ (h ⟨some ⟨w.heap.size, 0, none⟩, 1, 1⟩ _ (below_new w _) ⟨[y], rfl, ⟨hO.sl hO.lt, Ws.cons hy Ws.nil, by simp, by show 1 ≤ maxLen; unfold maxLen; omega⟩, rfl⟩)
  · obtain ⟨g, off, hA, hg, hc⟩ := hd.sl (by intro e; rw [List.map_eq_nil_iff] at e; subst e; exact h0 hl.symm)
    refine wpList_append_own _ hgd s x 41 ho w.heap.size 3 i0 (.int .i64 0) 1 8 Tryz.underlying41 hi hz0 hz1 hz2 rfl (by decide) (.slice (some ⟨w.heap.size, 0, none⟩) 1 1) 1 [.int .i64 (y : Int)] hs
      (World.ownsRow_lit w #[.int .i64 (y : Int)] 1 (Nat.le_refl _) (by unfold maxLen; omega) rfl) ⟨g, off, none⟩ d.n d.c (l.map d64) (by rw [hx, hA]) (by simp [hl]) ?_ ?_ (by unfold maxLen; omega) (by omega) (by simp) ?_
    · intro j u hu
      rw [show (⟨g, off, none⟩ : Addr).add j = ⟨g, off + j, none⟩ by cases j <;> rfl, World.cell?_alloc_lt _ _ _ hg]
      exact hc j u hu
    · intro u hu
      obtain ⟨k, _, rfl⟩ := List.mem_map.1 hu
      rfl
    · intro v' w' hown hgrow _
      have e : [Value.int .i64 (y : Int)] ++ l.map d64 = (y :: l).map d64 := rfl
      rw [e] at hown
      obtain ⟨A, c, hv, hdd, _⟩ := owns_dig hown (Ws.cons hy hd.ws)
      rw [hv]
      exact h ⟨A, (y :: l).length, c⟩ w' ((below_new w _).grown hgrow (by simp) (fun k hk => by simp [Value.ownBlock] at hk; omega)) ⟨y :: l, rfl, hdd, rfl⟩

/-- Digits without zeros at the end, of the value m. -/
def ND (d : DV) (w : World) (m : Nat) : Prop := d.is w fun l => Nz l ∧ val l = m ∧ l.length ≤ many
theorem ND.on {d : DV} {w w' : World} {m : Nat} (h : ND d w m) (hb : Below w.heap.size w w') : ND d w' m := DV.is.on h hb
theorem NI.nd {x : IV} {w : World} {z : Int} (h : NI x w z) {m : Nat} (hm : z.natAbs = m) : ND ⟨x.A, x.n, x.c⟩ w m := by
  obtain ⟨l, e1, e2, e3, e4, e5, e6⟩ := h.abs
  exact ⟨l, e1, e3, e4, by omega, by omega⟩
theorem ND.ni {d : DV} {w : World} {m : Nat} (h : ND d w m) : NI ⟨false, d.A, d.n, d.c⟩ w (m : Int) := by
  obtain ⟨l, e1, e2, e3, e4, e5⟩ := h
  exact ⟨l, e1, by show d.n ≤ many; omega, e2, e3, by simp, by rw [e4]; simp [sgn]⟩
theorem ND.nil (w : World) : ND ⟨none, 0, 0⟩ w 0 := ⟨[], rfl, DigIs.nil w, Nz.nil, rfl, by simp⟩
set_option maxRecDepth 100000 in
set_option maxHeartbeats 1600000 in
theorem rsmall_any {d : DV} {w : World} {m k : Nat} (hd : ND d w m) (hk : k < 10000) (hn : d.n < many) :
    Calls Tryz.prog 174 #[.slice d.A d.n d.c, .int .i64 (k : Int)] w (fun e w' => ∃ x : DV, e = .returned (.slice x.A x.n x.c) ∧ Below w.heap.size w w' ∧ ND x w' (m * k)) := by
  have HO : Hid (∀ u, Calls Tryz.prog 39 #[.int .i64 (k : Int)] u (RetN u k)) := Lib.hid fun u => rOf_any k u (by omega) (by omega)
  have e : ((m : Int) * (k : Int)).natAbs = m * k := by rw [Int.natAbs_mul]; simp
  have HE := Lib.hid e
  clear e
  go_enter Tryz.func174, Tryz.ntmps174
  go_wp2_with fail
  refine (HO.out _).mono ?_
  rintro e w1 ⟨x, rfl, k1, hx⟩
  have hx1 : x.n ≤ 1 := NI.len hx (by simp; omega)
  have hd1 := hd.on k1
  have hni := hd1.ni
  go_wp2_with fail
  refine (rMul_any hni hx (by show d.n + x.n ≤ many; omega)).mono ?_
  rintro e w2 ⟨y, rfl, k2, hy⟩
  have hB := Below.call k1 k2
  have hnd := hy.nd HE.out
  have hnd3 := hnd.on (below_new w2 (.cells #[.bool y.neg, .slice y.A y.n y.c] 44))
  have HF := Lib.hid (And.intro (Below.call hB (below_new w2 (.cells #[.bool y.neg, .slice y.A y.n y.c] 44))) hnd3)
  clear hnd hnd3 hy hx hd1 hni
  go_wp2
  go_returns
  exact ⟨⟨y.A, y.n, y.c⟩, rfl, HF.out.1, HF.out.2⟩
end Go.Proofs.YthafhbogpfggjaaGreatDoor
/-
  (second part)
-/
namespace Go.Proofs.YthafhbogpfggjaaGreatDoor
open Go.RowKit
open Dig (val Ws Nz)

theorem dcompared {d e : DV} {w : World} {m k : Nat} (hd : ND d w m) (he : ND e w k) : Calls Tryz.prog 128 #[.slice d.A d.n d.c, .slice e.A e.n e.c] w (RetInt w (cmpI (m : Int) (k : Int))) := by
  have := ncompared hd.ni he.ni
  simpa using this
theorem dminus {d e : DV} {w : World} {m k : Nat} (hd : ND d w m) (he : ND e w k) (h : k ≤ m) : Calls Tryz.prog 129 #[.slice d.A d.n d.c, .slice e.A e.n e.c] w (RetDV w (fun l => val l = m - k ∧ l.length ≤ many)) := by
  have := nminus hd.ni he.ni (by simpa using h)
  simpa using this
theorem ND.len {d e : DV} {w w' : World} {m k : Nat} (hd : ND d w m) (he : ND e w' k) (h : m ≤ k) : d.n ≤ e.n := by
  obtain ⟨l, e1, e2, e3, e4, e5⟩ := hd
  obtain ⟨j, f1, f2, f3, f4, f5⟩ := he
  rw [← e1, ← f1]
  rcases Nat.lt_or_ge j.length l.length with h1 | h1
  · have := Dig.lt_of_length f2.ws e3 h1
    omega
  · exact h1
/-- The state of a division at a round's head. -/
structure RDivSt (w : World) (go n : Nat) (a : List Nat) (B i : Nat) (ds : List Nat) (R : Nat) (rest : DV) (wr : World) : Prop where
  len : ds.length + i = n
  ws : Ws ds
  eq : val (a.drop i) = val ds * B + R
  lt : R < B
  out : Own wr go 3 ((List.replicate i 0 ++ ds).map d64)
  bel : Below w.heap.size w wr
  rest : ND rest wr R
theorem RDivSt.step {w : World} {go n : Nat} {a : List Nat} {B m : Nat} {ds : List Nat} {R : Nat} {rest : DV} {wr : World} (h : RDivSt w go n a B (m + 1) ds R rest wr) (hg : w.heap.size ≤ go) (hm : m < a.length) {w' : World} (hb : Below wr.heap.size wr w')
    {q : Nat} (hq : q < 10000) {y : DV} (hy : ND y w' (a[m] + 10000 * R - B * q)) (h1 : B * q ≤ a[m] + 10000 * R) (h2 : a[m] + 10000 * R < B * (q + 1)) {s : Int} (hs : s = (q : Int)) (hgy : ∀ g off, y.A = some ⟨g, off, none⟩ → y.n ≠ 0 → g ≠ go) :
    RDivSt w go n a B m (q :: ds) (a[m] + 10000 * R - B * q) y (w'.setCell ⟨go, m, none⟩ (.int .i64 s)) := by
  subst hs
  refine ⟨by have := h.len; simp; omega, Ws.cons hq h.ws, ?_, ?_, ?_, ?_, ?_⟩
  · rw [Dig.val_drop_cons hm, Dig.getD_lt hm, h.eq, Dig.val_cons]
    have : (q + 10000 * val ds) * B = B * q + 10000 * (val ds * B) := by grind
    rw [this]
    omega
  · rw [Nat.mul_add, Nat.mul_one] at h2
    omega
  · have := (h.out.on hb).set_ m (d64 q)
    rw [← List.map_set] at this
    have e : (List.replicate (m + 1) 0 ++ ds).set m q = List.replicate m 0 ++ q :: ds := by
      rw [List.replicate_succ', List.append_assoc, List.set_append_right _ _ (by simp)]
      simp
    rw [e] at this
    exact this
  · exact (h.bel.trans (hb.mono h.bel.size)).setCell hg _
  · obtain ⟨l, k1, k2, k3, k4, k5⟩ := hy
    refine ⟨l, k1, ⟨fun hn => ?_, k2.ws, k2.cap, k2.mx⟩, k3, k4, k5⟩
    obtain ⟨g, off, e, hg', hc⟩ := k2.sl hn
    refine ⟨g, off, e, by simpa [World.setCell] using hg', fun i x hx => ?_⟩
    rw [World.cell?_setCell_other]
    · exact hc i x hx
    · intro ee
      injection ee with e1 e2
      have hne : y.n ≠ 0 := by
        intro h0
        rw [h0] at k1
        exact hn (by simp [List.eq_nil_of_length_eq_zero k1])
      exact hgy g off e hne e1.symm
theorem dminusF {d e : DV} {w : World} {m k : Nat} (hd : ND d w m) (he : ND e w k) (h : k ≤ m) :
    Calls Tryz.prog 129 #[.slice d.A d.n d.c, .slice e.A e.n e.c] w (fun r w' => ∃ x : DV, r = .returned (.slice x.A x.n x.c) ∧ Below w.heap.size w w' ∧ x.is w' (fun l => val l = m - k ∧ l.length ≤ many) ∧ Hid (Fr w.heap.size x.A)) := by
  have hlen := ND.len he hd h
  obtain ⟨l, e1, e2, e3, e4, e5⟩ := hd
  obtain ⟨j, f1, f2, f3, f4, f5⟩ := he
  rw [← e1, ← f1] at hlen
  rw [← e4, ← f4] at h
  rw [← e1, ← f1, ← e4, ← f4]
  refine (rminus_any e2 f2 e5 hlen h).mono ?_
  rintro r w' ⟨A, c, i, rfl, k1, k2, ⟨k3, k4⟩, k5⟩
  exact ⟨⟨A, i.length, c⟩, rfl, k1, ⟨i, rfl, k2, k3, by omega⟩, Lib.hid k5⟩
theorem dnormalA {d : DV} {w : World} {m : Nat} (h : d.is w fun l => val l = m ∧ l.length ≤ many) :
    Calls Tryz.prog 120 #[.bool false, .slice d.A d.n d.c] w (fun r w' => ∃ x : IV, r = .returned (.agg #[.bool x.neg, .slice x.A x.n x.c]) ∧ Below w.heap.size w w' ∧ ND ⟨x.A, x.n, x.c⟩ w' m ∧ Hid (x.A = d.A)) := by
  refine (nnormalA false h rfl).mono ?_
  rintro r w' ⟨x, rfl, h1, h2, h3⟩
  exact ⟨x, rfl, h1, h2.nd (by simp [sgn]), Lib.hid h3⟩
theorem ND.parts {d : DV} {w : World} {m : Nat} (h : ND d w m) : ∃ l, DigIs w d.A l d.c ∧ l.length = d.n ∧ val l = m := by
  obtain ⟨l, e1, e2, e3, e4, e5⟩ := h
  exact ⟨l, e2, e1, e4⟩
set_option maxRecDepth 100000 in
set_option maxHeartbeats 3200000 in
theorem rdivided_any {d e : DV} {w : World} {p q : Nat} (hd : ND d w p) (he : ND e w q) (hq : 0 < q) (hn : e.n < many) :
    Calls Tryz.prog 132 #[.slice d.A d.n d.c, .slice e.A e.n e.c] w (fun r w' => ∃ x y : DV, r = .returned (.tuple #[.slice x.A x.n x.c, .slice y.A y.n y.c]) ∧ Below w.heap.size w w' ∧ x.is w' (fun l => val l = p / q ∧ l.length ≤ many) ∧ ND y w' (p % q)) := by
  obtain ⟨a, e1, e2, e3, e4, e5⟩ := hd
  obtain ⟨A, n, ca⟩ := d
  simp only at e1 e2
  subst e1 e4
  have hwa := e2.ws
  have hA0 := e2.sl
  have ca1 := e2.cap
  have ca2 := e2.mx
  have hnm := hn
  unfold maxLen at ca2
  unfold many at e5 hn
  clear e2 e3
  have hmk := make_int a.length (by omega) (a.length : Int) rfl
  go_enter Tryz.func132, Tryz.ntmps132
  go_wp2
  go_loopw [7, 8] (fun rv i wr => ∃ (k R : Nat) (ds : List Nat) (rest : DV), i = .int .i64 ((k : Int) - 1) ∧ rv = .slice rest.A rest.n rest.c ∧ k ≤ a.length ∧ RDivSt w w.heap.size a.length a q k ds R rest wr) (fun _ i _ => (intOf i + 1).toNat)
  case atStart => exact ⟨a.length, 0, [], ⟨none, 0, 0⟩, rfl, rfl, Nat.le_refl _, by simp, Ws.nil, by rw [List.drop_of_length_le (Nat.le_refl _)]; simp [val], hq, by simpa using Own.rep w 3 a.length (d64 0), by go_grown, ND.nil _⟩
  case round =>
    obtain ⟨k, R, ds, rest, rfl, hv, hk, hst⟩ := hrel
    have hv' := hv.symm
    subst hv'
    have hbel := hst.bel
    rcases Nat.eq_zero_or_pos k with h0 | h0
    · subst h0
      have hlen := hst.len
      have heq := hst.eq
      have hO := hst.out
      rw [List.replicate_zero, List.nil_append] at hO
      rw [List.drop_zero] at heq
      have hdm := (Nat.div_mod_unique hq).2 ⟨show R + q * val ds = val a by rw [heq, Nat.mul_comm]; omega, hst.lt⟩
      have hx : (⟨some ⟨w.heap.size, 0, none⟩, a.length, a.length⟩ : DV).is wr fun l => val l = val a / q ∧ l.length ≤ many :=
        ⟨ds, by simp at hlen; exact hlen, ⟨hO.sl hO.lt, hst.ws, by show ds.length ≤ a.length; omega, by show a.length ≤ maxLen; unfold maxLen; omega⟩, hdm.1.symm, by unfold many; omega⟩
      have hy := hst.rest
      rw [← hdm.2] at hy
      have HF := Lib.hid (And.intro hx hy)
      clear hx hy hdm heq hlen hO hst
      go_wp2
      go_returns
      exact ⟨⟨some ⟨w.heap.size, 0, none⟩, a.length, a.length⟩, rest, rfl, hbel, HF.out.1, HF.out.2⟩
    · obtain ⟨m, rfl⟩ : ∃ m, k = m + 1 := ⟨k - 1, by omega⟩
      rw [show (((m + 1 : Nat) : Int) - 1) = (m : Int) by omega]
      obtain ⟨g1, o1, rfl, hg1, hc1⟩ := (hA0.below hst.bel).d64at (i := m) (by omega)
      have hxa := hwa.get (i := m) (by omega)
      have hm : m < a.length := by omega
      have hrn : rest.n ≤ e.n := hst.rest.len he (Nat.le_of_lt hst.lt)
      have HSTEP := fun (w' : World) (hb : Below wr.heap.size wr w') (q' : Nat) (hq : q' < 10000) (y : DV) => hst.step (Nat.le_refl _) hm hb hq (y := y)
      obtain ⟨l, l1, l2, l3⟩ := hst.rest.parts
      have hlt := hst.lt
      have hOut := hst.out
      obtain ⟨x, hx⟩ : ∃ x, x = a[m] := ⟨_, rfl⟩
      rw [← hx] at hc1 hxa HSTEP
      obtain ⟨R', hR'⟩ : ∃ R', R' = x + 10000 * R := ⟨_, rfl⟩
      rw [← hR'] at HSTEP
      have hR0 : R' < q * (9999 + 1) := by omega
      have HS := Lib.hid HSTEP
      have HR := Lib.hid hR'
      have HL3 := Lib.hid l3
      clear HSTEP hx hR' l3 hst
      have hi1 : (m : Int) < (a.length : Int) := by omega
      have hi3 : (0 : Int) ≤ (m : Int) := by omega
      go_wp2_with (at_builtin; refine join_int rfl _ _ rfl x hxa rest l rfl rfl l1 l2 (by omega) ?_)
      intro z w4 hb4 hz
      have hz' : z.is w4 fun l => val l = R' ∧ l.length ≤ many := by
        obtain ⟨_, z1, z2, rfl⟩ := hz
        exact ⟨_, z1, z2, by rw [Dig.val_cons, HL3.out, HR.out], by simp only [List.length_cons, l2]; omega⟩
      clear hz l1 l2 hc1
      go_wp2_with fail
      refine (dnormalA hz').mono ?_
      rintro e w5 ⟨xr, rfl, k5, hxr, _⟩
      have hb5 := Below.call hb4 k5
      clear hz' hb4 k5
      go_upto_region 8 with fail
      refine wp_new1 fun W6 hO6 hB6 => ?_
      replace hb5 := Below.call hb5 hB6
      replace hxr := hxr.on hB6
      have he6 := he.on (Below.call hbel hb5)
      have hO7 := hOut.on hb5
      obtain ⟨r0, r1⟩ := hO6.rules2
      have hW := Below.refl W6.heap.size W6
      have hRX := Lib.hid (And.intro hxr hO6)
      go_wp2
      clear hW
      go_loopw [10, 11] (fun lo hi wr => ∃ L H : Nat, lo = .int .i64 L ∧ hi = .int .i64 H ∧ L ≤ H ∧ H ≤ 9999 ∧ Hid (q * L ≤ R' ∧ R' < q * (H + 1)) ∧ Below W6.heap.size W6 wr) (fun lo hi _ => (intOf hi).toNat - (intOf lo).toNat)
      case atStart => exact ⟨0, 9999, rfl, rfl, by omega, by omega, Lib.hid ⟨by omega, hR0⟩, Below.refl _ _⟩
      case round =>
        obtain ⟨L, H, rfl, rfl, hLH, hH, hinv, hb7⟩ := hrel
        have he7 := he6.on hb7
        have hxr7 := hxr.on hb7
        by_cases hlt2 : L < H
        · obtain ⟨M, hM⟩ : ∃ M, M = (L + H + 1) / 2 := ⟨_, rfl⟩
          have hM1 : L < M := by omega
          have hM2 : M ≤ H := by omega
          have HM : Hid (((L : Int) + (H : Int) + 1) / 2 = (M : Int)) := Lib.hid (by omega)
          obtain ⟨P, hP⟩ : ∃ P, P = q * M := ⟨_, rfl⟩
          have HP := Lib.hid hP
          have HSM : Hid (∀ u, ND e u q → Calls Tryz.prog 174 #[.slice e.A e.n e.c, .int .i64 (((L : Int) + (H : Int) + 1) / 2)] u (fun r w' => ∃ x : DV, r = .returned (.slice x.A x.n x.c) ∧ Below u.heap.size u w' ∧ ND x w' P)) := Lib.hid fun u hu => by
            rw [HM.out, HP.out]
            exact rsmall_any hu (by omega) hnm
          have hsum : (0 : Int) ≤ (L : Int) + (H : Int) + 1 := by omega
          clear hM hP
          go_wp2_with fail
          refine (HSM.out _ he7).mono ?_
          rintro e w8 ⟨y, rfl, k8, hy⟩
          have hxr8 := hxr7.on k8
          have hb8 := Below.call hb7 k8
          rcases Nat.lt_or_ge R' P with hc | hc
          · have hcc : ¬ cmpI (P : Int) (R' : Int) ≤ 0 := by rw [cmpI_gt (by omega)]; omega
            have HC := Lib.hid hc
            clear hc k8
            go_wp2_with fail
            refine (dcompared hy hxr8).mono ?_
            rintro e w9 ⟨rfl, k9⟩
            have hb9 := Below.call hb8 k9
            go_wp2_with fail
            go_roundw
            case rel => exact ⟨L, M - 1, by go_num, by have := HM.out; go_num, by omega, by omega, Lib.hid ⟨hinv.out.1, by rw [Nat.sub_add_cancel (by omega), ← HP.out]; exact HC.out⟩, hb9⟩
            case measure => have := HM.out; simp [intOf] <;> omega
          · have hcc : cmpI (P : Int) (R' : Int) ≤ 0 := by
              rcases Nat.eq_or_lt_of_le hc with h | h
              · rw [cmpI_eq (by omega)]; omega
              · rw [cmpI_lt (by omega)]; omega
            have HC := Lib.hid hc
            clear hc k8
            go_wp2_with fail
            refine (dcompared hy hxr8).mono ?_
            rintro e w9 ⟨rfl, k9⟩
            have hb9 := Below.call hb8 k9
            go_wp2_with fail
            go_roundw
            case rel => exact ⟨M, H, by have := HM.out; go_num, by go_num, by omega, by omega, Lib.hid ⟨by rw [← HP.out]; exact HC.out, hinv.out.2⟩, hb9⟩
            case measure => have := HM.out; simp [intOf] <;> omega
        · obtain rfl : L = H := by omega
          have hL : L < 10000 := by omega
          obtain ⟨P, hP⟩ : ∃ P, P = q * L := ⟨_, rfl⟩
          have HP := Lib.hid hP
          have HSM : Hid (∀ u, ND e u q → Calls Tryz.prog 174 #[.slice e.A e.n e.c, .int .i64 (L : Int)] u (fun r w' => ∃ x : DV, r = .returned (.slice x.A x.n x.c) ∧ Below u.heap.size u w' ∧ ND x w' P)) := Lib.hid fun u hu => by
            rw [HP.out]
            exact rsmall_any hu hL hnm
          have hPR : P ≤ R' := by rw [hP]; exact hinv.out.1
          clear hP
          go_wp2_with fail
          refine (HSM.out _ he7).mono ?_
          rintro e w8 ⟨y, rfl, k8, hy⟩
          have hxr8 := hxr7.on k8
          have hb8 := Below.call hb7 k8
          clear k8
          go_wp2_with fail
          refine (dminusF hxr8 hy hPR).mono ?_
          rintro e w9 ⟨z, rfl, k9, hz, hfr⟩
          have hb9 := Below.call hb8 k9
          clear k9
          go_wp2_with fail
          refine (dnormalA hz).mono ?_
          rintro e w10 ⟨yr, rfl, k10, hyr, hsame⟩
          have hb10 := Below.call hb9 k10
          clear k10
          go_upto_region 16 with fail
          refine wp_new1 fun W11 hO11 hB11 => ?_
          have hb11 := Below.call hb10 hB11
          have hyr11 := hyr.on hB11
          have hO12 := hO7.on hb11
          have hcm := hO12.cell m
          rw [List.getElem?_map, List.getElem?_append_left (by simp), List.getElem?_replicate, if_pos (by omega)] at hcm
          have hcm' : W11.cell? ⟨w.heap.size, m, none⟩ = some (.int .i64 0) := hcm
          have hcf := hO12.frozen m
          obtain ⟨z0, z1, _, _⟩ := hO11.all2
          have hne : w10.heap.size ≠ w.heap.size := by have := hO7.lt; have := hb10.size; omega
          have z1' : ∀ u, (W11.setCell ⟨w.heap.size, m, none⟩ u).cell? ⟨w10.heap.size, 1, none⟩ = some (.slice yr.A yr.n yr.c) := fun u => (World.cell?_setCell_other W11 ⟨w.heap.size, m, none⟩ ⟨w10.heap.size, 1, none⟩ u (by intro e; injection e with e; exact hne e.symm)).trans z1
          have hN := HS.out W11 (Below.call hb5 hb11) L hL ⟨yr.A, yr.n, yr.c⟩ (by rw [← HP.out]; exact hyr11) hinv.out.1 hinv.out.2 (s := (L : Int)) rfl (fun g off e _ => by
            have h1 := hfr.out ⟨g, off, none⟩ (hsame.out.symm.trans e)
            have h2 := hO7.lt
            have h3 := hb8.size
            simp only at h1
            omega)
          have HN := Lib.hid hN
          clear hN hyr11 hyr hz hy hxr8 hxr7 hxr he7 he6 hO12 hcm hO11 hfr hsame hO7 hRX hOut
          go_wp2_with fail
          go_roundw
          case rel => exact ⟨m, R' - q * L, L :: ds, ⟨yr.A, yr.n, yr.c⟩, by go_num, rfl, by omega, HN.out⟩
          case measure => simp [intOf] <;> omega
end Go.Proofs.YthafhbogpfggjaaGreatDoor

/-
  (second part)
-/
namespace Go.Proofs.YthafhbogpfggjaaGreatDoor
open Go.RowKit
open Dig (val Ws Nz)

section
variable {P : Program} {c : Code} {Q : Exit → Act → World → Prop} {a : Act} {w : World} {T U V X : TypeId} {xs ys zs us : List Value}
theorem wp_new4 (h : ∀ W, Own W w.heap.size T xs → Own W (w.heap.size + 1) U ys → Own W (w.heap.size + 1 + 1) V zs → Own W (w.heap.size + 1 + 1 + 1) X us → Below w.heap.size w W → c.wp P Q a W) :
    c.wp P Q a ((((w.alloc (.cells xs.toArray T)).alloc (.cells ys.toArray U)).alloc (.cells zs.toArray V)).alloc (.cells us.toArray X)) := by
  have h2 := Own.new (w.alloc (.cells xs.toArray T)) U ys
  rw [show (w.alloc (.cells xs.toArray T)).heap.size = w.heap.size + 1 by simp] at h2
  have h3 := Own.new ((w.alloc (.cells xs.toArray T)).alloc (.cells ys.toArray U)) V zs
  rw [show ((w.alloc (.cells xs.toArray T)).alloc (.cells ys.toArray U)).heap.size = w.heap.size + 1 + 1 by simp] at h3
  have h4 := Own.new (((w.alloc (.cells xs.toArray T)).alloc (.cells ys.toArray U)).alloc (.cells zs.toArray V)) X us
  rw [show (((w.alloc (.cells xs.toArray T)).alloc (.cells ys.toArray U)).alloc (.cells zs.toArray V)).heap.size = w.heap.size + 1 + 1 + 1 by simp] at h4
  exact h _ ((((Own.new w T xs).alloc _).alloc _).alloc _) ((h2.alloc _).alloc _) (h3.alloc _) h4 (by go_grown)
end
/-- Two N's are returned. -/
def RetNN (w : World) (z1 z2 : Int) (e : Ending) (w' : World) : Prop := ∃ x y : IV, e = .returned (.tuple #[.agg #[.bool x.neg, .slice x.A x.n x.c], .agg #[.bool y.neg, .slice y.A y.n y.c]]) ∧ Below w.heap.size w w' ∧ NI x w' z1 ∧ NI y w' z2
theorem ND.len_pos {d : DV} {w : World} {m : Nat} (h : ND d w m) : (0 < d.n ↔ 0 < m) := by
  obtain ⟨l, e1, e2, e3, e4, e5⟩ := h
  rw [← e1, ← e4]
  constructor
  · intro h
    exact e3.pos (by intro e; subst e; simp at h)
  · intro h
    rcases Nat.eq_zero_or_pos l.length with h0 | h0
    · rw [List.eq_nil_of_length_eq_zero h0] at h
      simp [val] at h
    · exact h0
/-- What stands behind a division's digits. -/
structure DivMid2 (w W : World) (s t : Bool) (a b : Int) (u v : IV) (g8 g9 : Nat) (cur : World) : Prop where
  bel : Below W.heap.size W cur
  o8 : Own cur g8 44 [.bool u.neg, .slice u.A u.n u.c]
  o9 : Own cur g9 44 [.bool v.neg, .slice v.A v.n v.c]
  h8 : W.heap.size ≤ g8
  h9 : g8 < g9
  q : NI u cur (sgn (s != t) (a.natAbs / b.natAbs))
  r : NI v cur ((a.natAbs % b.natAbs : Nat) : Int)
theorem NI.drew_ {x : IV} {w : World} {z : Int} (h : NI x w z) : NI x w.drew z := by
  obtain ⟨l, a1, a2, a3, a4⟩ := h
  exact ⟨l, a1, a2, ⟨a3.sl, a3.ws, a3.cap, a3.mx⟩, a4⟩
theorem Own.drew_ {w : World} {g : Nat} {t : TypeId} {xs : List Value} (h : Own w g t xs) : Own w.drew g t xs := h
/-- The end of a call that stores two N's into its results. -/
theorem retNN_end {w W : World} {g1 g2 : Nat} {t1 t2 : TypeId} {p0 p1 r0 r1 : Value} {u v : IV} {z1 z2 : Int} (hb : Below w.heap.size w W) (hg1 : w.heap.size ≤ g1) (hg2 : w.heap.size ≤ g2) (h1 : Own W g1 t1 [p0, p1]) (h2 : Own W g2 t2 [r0, r1]) (hne : g1 ≠ g2)
    (hp0 : ∀ n, p0 ≠ .int .i64 n) (hp1 : ∀ n, p1 ≠ .int .i64 n) (hr0 : ∀ n, r0 ≠ .int .i64 n) (hr1 : ∀ n, r1 ≠ .int .i64 n) (hu : NI u W z1) (hv : NI v W z2) :
    RetNN w z1 z2 (.returned (.tuple #[.agg #[.bool u.neg, .slice u.A u.n u.c], .agg #[.bool v.neg, .slice v.A v.n v.c]])) ((((W.setCell ⟨g1, 0, none⟩ (.bool u.neg)).setCell ⟨g1, 1, none⟩ (.slice u.A u.n u.c)).setCell ⟨g2, 0, none⟩ (.bool v.neg)).setCell ⟨g2, 1, none⟩ (.slice v.A v.n v.c)).drew ∧
    Own ((((W.setCell ⟨g1, 0, none⟩ (.bool u.neg)).setCell ⟨g1, 1, none⟩ (.slice u.A u.n u.c)).setCell ⟨g2, 0, none⟩ (.bool v.neg)).setCell ⟨g2, 1, none⟩ (.slice v.A v.n v.c)).drew g1 t1 [.bool u.neg, .slice u.A u.n u.c] ∧
    Own ((((W.setCell ⟨g1, 0, none⟩ (.bool u.neg)).setCell ⟨g1, 1, none⟩ (.slice u.A u.n u.c)).setCell ⟨g2, 0, none⟩ (.bool v.neg)).setCell ⟨g2, 1, none⟩ (.slice v.A v.n v.c)).drew g2 t2 [.bool v.neg, .slice v.A v.n v.c] := by
  have k2 := (h2.far (p := ⟨g1, 0, none⟩) (Ne.symm hne) (.bool u.neg)).far (p := ⟨g1, 1, none⟩) (Ne.symm hne) (.slice u.A u.n u.c)
  have k1 := h1.put2 (.bool u.neg) (.slice u.A u.n u.c)
  have hu2 := (hu.put2 h1 hp0 hp1 (.bool u.neg) (.slice u.A u.n u.c)).put2 k2 hr0 hr1 (.bool v.neg) (.slice v.A v.n v.c)
  have hv2 := (hv.put2 h1 hp0 hp1 (.bool u.neg) (.slice u.A u.n u.c)).put2 k2 hr0 hr1 (.bool v.neg) (.slice v.A v.n v.c)
  have hbb := Below.put2 (Below.put2 hb hg1 (.bool u.neg) (.slice u.A u.n u.c)) hg2 (.bool v.neg) (.slice v.A v.n v.c)
  refine ⟨⟨u, v, rfl, hbb.drew, ?_, ?_⟩, ?_, ?_⟩
  · exact hu2.drew_
  · exact hv2.drew_
  · exact Own.drew_ ((k1.far (p := ⟨g2, 0, none⟩) hne (.bool v.neg)).far (p := ⟨g2, 1, none⟩) hne (.slice v.A v.n v.c))
  · exact Own.drew_ (k2.put2 (.bool v.neg) (.slice v.A v.n v.c))
set_option maxRecDepth 100000 in
set_option maxHeartbeats 3200000 in
theorem rDiv_any {x y : IV} {w : World} {a b : Int} (hx : NI x w a) (hy : NI y w b) (h0 : b ≠ 0) (hn : x.n < many - 2) (hm : y.n < many - 2) :
    Calls Tryz.prog 47 #[.agg #[.bool x.neg, .slice x.A x.n x.c], .agg #[.bool y.neg, .slice y.A y.n y.c]] w (RetNN w (a / b) (a % b)) := by
  have va := hx.val
  have vb := hy.val
  have hnm : many = 65536 := rfl
  obtain ⟨s, xA, xn, xc⟩ := x
  obtain ⟨t, yA, yn, yc⟩ := y
  simp only at hn hm va vb
  have hB : 0 < b.natAbs := by omega
  have HV := Lib.hid (And.intro va vb)
  clear va vb
  go_enter Tryz.func47, Tryz.ntmps47
  go_upto_region 1 with fail
  refine wp_new4 fun W hA hBx hO1 hO2 hBel => ?_
  obtain ⟨r0, r1⟩ := hA.rules2
  obtain ⟨s0, s1⟩ := hBx.rules2
  replace hx := hx.on hBel
  replace hy := hy.on hBel
  have hW := Below.refl W.heap.size W
  go_wp2_with fail
  refine (rdivided_any (d := ⟨xA, xn, xc⟩) (e := ⟨yA, yn, yc⟩) (hx.nd rfl) (hy.nd rfl) hB (by show yn < many; omega)).mono ?_
  rintro e w1 ⟨dq, dr, rfl, k1, hq1, hr1⟩
  go_wp2_with fail
  refine (nnormal (s != t) hq1 rfl).mono ?_
  rintro e w2 ⟨u, rfl, k2, hu⟩
  have hr2 := hr1.on k2
  have k2' := Below.call k1 k2
  go_upto_region 3 with fail
  refine wp_new1 fun W3 hO8 hB3 => ?_
  have k3 := Below.call k2' hB3
  have hu3 := hu.on hB3
  have hr3 : dr.is W3 fun l => val l = a.natAbs % b.natAbs ∧ l.length ≤ many := by
    obtain ⟨l, e1, e2, e3, e4, e5⟩ := hr2.on hB3
    exact ⟨l, e1, e2, e4, e5⟩
  have hs2 := k2'.size
  clear hr1 hr2 hq1 k2 k2' k1 hu
  go_wp2_with fail
  refine (nnormal false hr3 rfl).mono ?_
  rintro e w4 ⟨v, rfl, k4, hv⟩
  go_upto_region 4 with fail
  refine wp_new1 fun W5 hO9 hB5 => ?_
  have k34 := Below.call k4 hB5
  have hst : DivMid2 w W s t a b u v w2.heap.size w4.heap.size W5 :=
    ⟨Below.call k3 k34, hO8.on k34, hO9, hs2, by have := (hO8.on k4).lt; exact this, hu3.on k34, by have := hv.on hB5; simpa [sgn] using this⟩
  have hnd : ND ⟨v.A, v.n, v.c⟩ W5 (a.natAbs % b.natAbs) := hst.r.nd (by omega)
  have hlp := hnd.len_pos
  simp only at hlp
  have HST := Lib.hid hst
  have hbel := hst.bel
  have hO1' := hO1.on hst.bel
  have hO2' := hO2.on hst.bel
  clear hr3 hv hu3 hO8 k3 k4 k34 hW hst
  obtain ⟨q0, q1, fq0, fq1⟩ := HST.out.o8.all2
  obtain ⟨v0, v1, fv0, fv1⟩ := HST.out.o9.all2
  obtain ⟨d0, d1, fd0, fd1⟩ := hO1'.all2
  obtain ⟨c0, c1, fc0, fc1⟩ := hO2'.all2
  have hl2 := hO2.lt
  have m0 := HST.out.h8
  have m9 := HST.out.h9
  have m1 : ¬ (w.heap.size + 1 + 1 = w2.heap.size) := by omega
  have m2 : ¬ (w.heap.size + 1 + 1 + 1 = w2.heap.size) := by omega
  have m3 : ¬ (w.heap.size + 1 + 1 = w4.heap.size) := by omega
  have m4 : ¬ (w.heap.size + 1 + 1 + 1 = w4.heap.size) := by omega
  have m5 : ¬ (w2.heap.size = w.heap.size + 1 + 1) := by omega
  have m6 : ¬ (w2.heap.size = w.heap.size + 1 + 1 + 1) := by omega
  have m7 : ¬ (w4.heap.size = w.heap.size + 1 + 1) := by omega
  have m8 : ¬ (w4.heap.size = w.heap.size + 1 + 1 + 1) := by omega
  clear m0 m9 hl2
  have hcase : s = false ∨ (s = true ∧ v.n = 0) ∨ (s = true ∧ 0 < v.n) := by
    cases s
    · exact .inl rfl
    · rcases Nat.eq_zero_or_pos v.n with h | h
      · exact .inr (.inl ⟨rfl, h⟩)
      · exact .inr (.inr ⟨rfl, h⟩)
  rcases hcase with rfl | ⟨rfl, hvn⟩ | ⟨rfl, hvn⟩
  · have hdv := div_pos (n2 := t) (x := a.natAbs) (y := b.natAbs)
    rw [← HV.out.1, ← HV.out.2] at hdv
    have HD := Lib.hid hdv
    clear hdv
    go_wp2_with fail
    have HF := Lib.hid (retNN_end (g1 := w.heap.size + 1 + 1) (g2 := w.heap.size + 1 + 1 + 1) (Below.call hBel hbel) (by omega) (by omega) hO1' hO2' (by omega) (by simp) (by simp) (by simp) (by simp) HST.out.q HST.out.r)
    rw [show sgn (false != t) (a.natAbs / b.natAbs) = a / b by rw [HD.out.1]; cases t <;> rfl, ← HD.out.2] at HF
    clear HST hO1' hO2' hnd hlp hx hy hA hBx hO1 hO2 hO9
    clear r0 r1 s0 s1
    go_region
    obtain ⟨e0, e1, _⟩ := HF.out.2.1.all2
    obtain ⟨g0, g1, _⟩ := HF.out.2.2.all2
    clear q0 q1 fq0 fq1 v0 v1 fv0 fv1 d0 d1 fd0 fd1 c0 c1 fc0 fc1
    go_wp2
    exact bodyPost_ret (v := .tuple #[.agg #[.bool u.neg, .slice u.A u.n u.c], .agg #[.bool v.neg, .slice v.A v.n v.c]]) (by simp [results, Tryz.results47, go_sem, e0, e1, g0, g1]) rfl HF.out.1
  · have hmod : a.natAbs % b.natAbs = 0 := by omega
    obtain ⟨vneg, vA, vn, vc⟩ := v
    simp only at hvn
    subst hvn
    have hdv := div_neg0 (n2 := t) hmod
    rw [← HV.out.1, ← HV.out.2] at hdv
    have HD := Lib.hid hdv
    have HM := Lib.hid hmod
    clear hdv hmod
    go_wp2_with fail
    have HF := Lib.hid (retNN_end (g1 := w.heap.size + 1 + 1) (g2 := w.heap.size + 1 + 1 + 1) (Below.call hBel hbel) (by omega) (by omega) hO1' hO2' (by omega) (by simp) (by simp) (by simp) (by simp) HST.out.q HST.out.r)
    rw [show sgn (true != t) (a.natAbs / b.natAbs) = a / b by rw [HD.out.1]; cases t <;> rfl, HM.out, show ((0 : Nat) : Int) = a % b by rw [HD.out.2]; rfl] at HF
    clear HST hO1' hO2' hnd hlp hx hy hA hBx hO1 hO2 hO9
    clear r0 r1 s0 s1
    go_region
    obtain ⟨e0, e1, _⟩ := HF.out.2.1.all2
    obtain ⟨g0, g1, _⟩ := HF.out.2.2.all2
    clear q0 q1 fq0 fq1 v0 v1 fv0 fv1 d0 d1 fd0 fd1 c0 c1 fc0 fc1
    go_wp2
    exact bodyPost_ret (v := .tuple #[.agg #[.bool u.neg, .slice u.A u.n u.c], .agg #[.bool (⟨vneg, vA, 0, vc⟩ : IV).neg, .slice (⟨vneg, vA, 0, vc⟩ : IV).A (⟨vneg, vA, 0, vc⟩ : IV).n (⟨vneg, vA, 0, vc⟩ : IV).c]]) (by simp [results, Tryz.results47, go_sem, e0, e1, g0, g1]) rfl HF.out.1
  · have hmod : 0 < a.natAbs % b.natAbs := hlp.1 hvn
    have hdv := div_neg1 (n2 := t) hB hmod
    rw [← HV.out.1, ← HV.out.2] at hdv
    have HD := Lib.hid hdv
    have hvd : decide (0 < v.n) = true := by rw [decide_eq_true_iff]; exact hvn
    have hux : u.n ≤ xn := ND.len (d := ⟨u.A, u.n, u.c⟩) (e := ⟨xA, xn, xc⟩) (HST.out.q.nd (rsgn_abs _ _)) (hx.nd rfl) (Nat.div_le_self _ _)
    have hn1 := Own.new W5 3 [.int .i64 1]
    have hd1 : (⟨some ⟨W5.heap.size, 0, none⟩, 1, 1⟩ : DV).is (W5.alloc (.cells #[.int .i64 1] 3)) fun l => val l = 1 ∧ l.length ≤ many :=
      ⟨[1], rfl, ⟨hn1.sl hn1.lt, Ws.cons (by omega) Ws.nil, by simp, by show 1 ≤ maxLen; unfold maxLen; omega⟩, rfl, by simp [many]⟩
    have hmb : a.natAbs % b.natAbs ≤ b.natAbs := Nat.le_of_lt (Nat.mod_lt _ hB)
    have HMB := Lib.hid hmb
    clear hdv hmod hn1 hmb q0 q1 fq0 fq1 v0 v1 fv0 fv1 d0 d1 fd0 fd1 c0 c1 fc0 fc1
    obtain ⟨v0, v1, _, _⟩ := HST.out.o9.all2
    go_wp2_with fail
    refine (nnormal (!t) hd1 rfl).mono ?_
    rintro e w6 ⟨o, rfl, k6, ho⟩
    have k56 := Below.call (below_new W5 (.cells #[.int .i64 1] 3)) k6
    go_upto_region 6 with fail
    refine wp_new1 fun W7 hO10 hB7 => ?_
    have k57 := Below.call k56 hB7
    have hu7 := HST.out.q.on k57
    have ho7 := ho.on hB7
    have ho1 : o.n ≤ 1 := NI.len ho (by rw [rsgn_abs]; omega)
    obtain ⟨a0, a1, _, _⟩ := (HST.out.o8.on k57).all2
    obtain ⟨b0, b1, _, _⟩ := hO10.all2
    clear hd1 ho v0 v1 k56 k6
    have huq : NI u W7 (sgn (!t) (a.natAbs / b.natAbs)) := by have := hu7; cases t <;> exact this
    have HSUM : sgn (!t) (a.natAbs / b.natAbs) + sgn (!t) 1 = a / b := by
      rw [HD.out.1]; cases t <;> simp [sgn] <;> omega
    clear hu7
    go_wp2_with fail
    refine (rAdd_any huq ho7 (by omega) (by omega)).mono ?_
    rintro e w8 ⟨p, rfl, k8, hp⟩
    rw [HSUM] at hp
    have k58 := Below.call k57 k8
    have o8 := HST.out.o8.on k58
    have o9 := HST.out.o9.on k58
    have hg89 : w4.heap.size ≠ w2.heap.size := by have := HST.out.h9; omega
    have bel9 := Below.put2 (Below.call hbel k58) HST.out.h8 (.bool p.neg) (.slice p.A p.n p.c)
    have hp9 := hp.put2 o8 (by simp) (by simp) (.bool p.neg) (.slice p.A p.n p.c)
    have hr9 := (HST.out.r.on k58).put2 o8 (by simp) (by simp) (.bool p.neg) (.slice p.A p.n p.c)
    have hy9 := (hy.on (Below.call hbel k58)).put2 o8 (by simp) (by simp) (.bool p.neg) (.slice p.A p.n p.c)
    have O8 := o8.put2 (.bool p.neg) (.slice p.A p.n p.c)
    have O9 := (o9.far (p := ⟨w2.heap.size, 0, none⟩) hg89 (.bool p.neg)).far (p := ⟨w2.heap.size, 1, none⟩) hg89 (.slice p.A p.n p.c)
    have D1 := ((hO1'.on k58).far (p := ⟨w2.heap.size, 0, none⟩) m1 (.bool p.neg)).far (p := ⟨w2.heap.size, 1, none⟩) m1 (.slice p.A p.n p.c)
    have D2 := ((hO2'.on k58).far (p := ⟨w2.heap.size, 0, none⟩) m2 (.bool p.neg)).far (p := ⟨w2.heap.size, 1, none⟩) m2 (.slice p.A p.n p.c)
    obtain ⟨z0, z1, f0, f1⟩ := o8.all2
    clear a0 a1 b0 b1 o8 o9 k58 k8 k57 hB7 hO10 ho7 huq hp HSUM
    go_upto_region 7 with fail
    clear z0 z1 f0 f1
    generalize (w8.setCell ⟨w2.heap.size, 0, none⟩ (.bool p.neg)).setCell ⟨w2.heap.size, 1, none⟩ (.slice p.A p.n p.c) = W9 at bel9 hp9 hr9 hy9 O8 O9 D1 D2 ⊢
    obtain ⟨v0, v1, fv0, fv1⟩ := O9.all2
    go_wp2_with fail
    refine (nminus hy9 hr9 (by have := HMB.out; omega)).mono ?_
    rintro e w10 ⟨d, rfl, k10, hd⟩
    go_wp2_with fail
    refine (nnormal false hd rfl).mono ?_
    rintro e w11 ⟨r, rfl, k11, hr⟩
    have hra : sgn false (b.natAbs - ((a.natAbs % b.natAbs : Nat) : Int).natAbs) = a % b := by
      rw [HD.out.2, Int.natAbs_natCast]; rfl
    rw [hra] at hr
    have kk := Below.call k10 k11
    have o9 := O9.on kk
    have hgr := HST.out.h9
    have bel12 := Below.put2 (Below.call bel9 kk) (Nat.le_trans HST.out.h8 (Nat.le_of_lt hgr)) (.bool r.neg) (.slice r.A r.n r.c)
    have hr12 := hr.put2 o9 (by simp) (by simp) (.bool r.neg) (.slice r.A r.n r.c)
    have hp12 := (hp9.on kk).put2 o9 (by simp) (by simp) (.bool r.neg) (.slice r.A r.n r.c)
    have O9' := o9.put2 (.bool r.neg) (.slice r.A r.n r.c)
    have O8' := ((O8.on kk).far (p := ⟨w4.heap.size, 0, none⟩) (Ne.symm hg89) (.bool r.neg)).far (p := ⟨w4.heap.size, 1, none⟩) (Ne.symm hg89) (.slice r.A r.n r.c)
    have D1' := ((D1.on kk).far (p := ⟨w4.heap.size, 0, none⟩) m3 (.bool r.neg)).far (p := ⟨w4.heap.size, 1, none⟩) m3 (.slice r.A r.n r.c)
    have D2' := ((D2.on kk).far (p := ⟨w4.heap.size, 0, none⟩) m4 (.bool r.neg)).far (p := ⟨w4.heap.size, 1, none⟩) m4 (.slice r.A r.n r.c)
    obtain ⟨z0, z1, f0, f1⟩ := o9.all2
    clear v0 v1 fv0 fv1 o9 kk k10 k11 hd hr hra hp9 hr9 hy9 O8 O9 D1 D2 bel9
    go_upto_region 8 with fail
    clear z0 z1 f0 f1
    generalize (w11.setCell ⟨w4.heap.size, 0, none⟩ (.bool r.neg)).setCell ⟨w4.heap.size, 1, none⟩ (.slice r.A r.n r.c) = W12 at bel12 hr12 hp12 O9' O8' D1' D2' ⊢
    obtain ⟨z0, z1, f0, f1⟩ := O8'.all2
    obtain ⟨y0, y1, fy0, fy1⟩ := O9'.all2
    obtain ⟨d0, d1, fd0, fd1⟩ := D1'.all2
    obtain ⟨c0, c1, fc0, fc1⟩ := D2'.all2
    have HF := Lib.hid (retNN_end (g1 := w.heap.size + 1 + 1) (g2 := w.heap.size + 1 + 1 + 1) (Below.call hBel bel12) (by omega) (by omega) D1' D2' (by omega) (by simp) (by simp) (by simp) (by simp) hp12 hr12)
    clear HST hO1' hO2' hnd hlp hx hy hA hBx hO1 hO2 hO9 O8' O9' D1' D2' hp12 hr12 bel12 hgr hg89
    clear r0 r1 s0 s1
    go_region
    obtain ⟨e0, e1, _⟩ := HF.out.2.1.all2
    obtain ⟨g0, g1, _⟩ := HF.out.2.2.all2
    clear z0 z1 f0 f1 y0 y1 fy0 fy1 d0 d1 fd0 fd1 c0 c1 fc0 fc1
    go_wp2
    exact bodyPost_ret (v := .tuple #[.agg #[.bool p.neg, .slice p.A p.n p.c], .agg #[.bool r.neg, .slice r.A r.n r.c]]) (by simp [results, Tryz.results47, go_sem, e0, e1, g0, g1]) rfl HF.out.1
end Go.Proofs.YthafhbogpfggjaaGreatDoor

/-
  (second part)
-/
namespace Go.Proofs.YthafhbogpfggjaaGreatDoor
open Go.RowKit
open Dig (val Ws Nz)

theorem two_lt {b j : Nat} (h : b ≤ 13 * j) : 2 ^ b < 10000 ^ (j + 1) := by
  have h1 : (2 : Nat) ^ b ≤ 2 ^ (13 * j) := Nat.pow_le_pow_right (by omega) h
  have h2 : (2 : Nat) ^ (13 * j) = 8192 ^ j := by rw [Nat.pow_mul]
  have h3 : (8192 : Nat) ^ j ≤ 10000 ^ j := Nat.pow_le_pow_left (by omega) j
  have h4 : (10000 : Nat) ^ j < 10000 ^ (j + 1) := Nat.pow_lt_pow_right (by omega) (by omega)
  omega
theorem NI.two_ {x : IV} {w : World} {b j : Nat} (h : NI x w ((2 ^ b : Nat) : Int)) (hb : b ≤ 13 * j) : x.n ≤ j + 1 :=
  NI.len (k := j + 1) h (by rw [Int.natAbs_natCast]; exact two_lt hb)
theorem NI.two {x : IV} {w : World} {b : Nat} (h : NI x w ((2 ^ b : Nat) : Int)) (hb : b ≤ 32773) : x.n ≤ 2522 := by
  have := NI.two_ (j := 2521) h (by omega)
  omega
/-- The state of Power at a round's head. -/
structure PowSt (w : World) (g3 g4 k a b j : Nat) (x y : IV) (wr : World) : Prop where
  bel : Below w.heap.size w wr
  o3 : Own wr g3 44 [.bool x.neg, .slice x.A x.n x.c]
  o4 : Own wr g4 44 [.bool y.neg, .slice y.A y.n y.c]
  hx : NI x wr ((2 ^ a : Nat) : Int)
  hy : NI y wr ((2 ^ b : Nat) : Int)
  eq : a + b * j = k
  bb : b ≤ 2 * k + 1
  jj : j ≤ k
theorem PowSt.small {w : World} {g3 g4 k a b j : Nat} {x y : IV} {wr : World} (h : PowSt w g3 g4 k a b j x y wr) (hk : k ≤ 16384) : x.n ≤ 2522 ∧ y.n ≤ 2522 :=
  ⟨h.hx.two (by have := h.eq; have : a ≤ k := by omega
                omega), h.hy.two (by have := h.bb; omega)⟩
theorem pow_sum (a b : Nat) : ((2 ^ a : Nat) : Int) * ((2 ^ b : Nat) : Int) = ((2 ^ (a + b) : Nat) : Int) := by rw [← Int.natCast_mul, ← Nat.pow_add]
/-- An N is stored into a block of two cells, beside another. -/
theorem put_beside {w w5 : World} {g h : Nat} {t u : TypeId} {x0 x1 y0 y1 : Value} {p y : IV} {z1 z2 : Int} (hb : Below w.heap.size w w5) (hg : w.heap.size ≤ g) (hO : Own w5 g t [x0, x1]) (hP : Own w5 h u [y0, y1]) (hne : h ≠ g) (h0 : ∀ n, x0 ≠ .int .i64 n) (h1 : ∀ n, x1 ≠ .int .i64 n) (hp : NI p w5 z1) (hy : NI y w5 z2) :
    ∃ V, (w5.setCell ⟨g, 0, none⟩ (.bool p.neg)).setCell ⟨g, 1, none⟩ (.slice p.A p.n p.c) = V ∧ Below w.heap.size w V ∧ Own V g t [.bool p.neg, .slice p.A p.n p.c] ∧ Own V h u [y0, y1] ∧ NI p V z1 ∧ NI y V z2 :=
  ⟨_, rfl, Below.put2 hb hg _ _, hO.put2 _ _, (hP.far (p := ⟨g, 0, none⟩) hne _).far (p := ⟨g, 1, none⟩) hne _, hp.put2 hO h0 h1 _ _, hy.put2 hO h0 h1 _ _⟩
set_option maxRecDepth 100000 in
set_option maxHeartbeats 3200000 in
theorem rPower_any (k : Nat) (w : World) (hk : k ≤ 16384) : Calls Tryz.prog 62 #[.int .i64 (k : Int)] w (RetN w ((2 ^ k : Nat) : Int)) := by
  go_enter Tryz.func62, Tryz.ntmps62
  go_upto_region 1 with fail
  refine wp_new1 fun W hO hB => ?_
  go_wp2_with fail
  refine (rOf_any 1 _ (by omega) (by omega)).mono ?_
  rintro e w1 ⟨x, rfl, k1, hx⟩
  go_upto_region 2 with fail
  refine wp_new1 fun W2 hO3 hB2 => ?_
  go_wp2_with fail
  refine (rOf_any 2 _ (by omega) (by omega)).mono ?_
  rintro e w3 ⟨y, rfl, k3, hy⟩
  go_wp2_with fail
  refine wp_new1 fun W4 hO4 hB4 => ?_
  have hst0 : PowSt W w1.heap.size w3.heap.size k 0 1 k x y W4 :=
    ⟨Below.call (Below.call (Below.call k1 hB2) k3) hB4, hO3.on (Below.call k3 hB4), hO4, (hx.on hB2).on (Below.call k3 hB4), hy.on hB4, by omega, by omega, Nat.le_refl _⟩
  have h34 : w1.heap.size < w3.heap.size := by have := hO3.lt; have := k3.size; omega
  have h13 := k1.size
  clear hx hy hO3 hO4 k3 hB4 hB2 k1
  go_loopw [0] (fun n wr => ∃ (j a b : Nat) (x y : IV), n = .int .i64 (j : Int) ∧ PowSt W w1.heap.size w3.heap.size k a b j x y wr) (fun n _ => (intOf n).toNat)
  case atStart => exact ⟨k, 0, 1, x, y, rfl, hst0⟩
  case round =>
    obtain ⟨j, a, b, x, y, rfl, hst⟩ := hrel
    obtain ⟨a0, a1, _, _⟩ := hst.o3.all2
    obtain ⟨b0, b1, _, _⟩ := hst.o4.all2
    have hsm := hst.small hk
    rcases Nat.eq_zero_or_pos j with h0 | h0
    · subst h0
      have hOr := hO.on hst.bel
      obtain ⟨z0, z1, f0, f1⟩ := hOr.all2
      have heq := hst.eq
      have hak : a = k := by simpa using heq
      have hxx := hst.hx
      rw [hak] at hxx
      have HF := Lib.hid (retN_end (Below.call hB hst.bel) (Nat.le_refl _) hOr (by simp) (by simp) hxx)
      have hO6 := hOr.put2 (.bool x.neg) (.slice x.A x.n x.c)
      obtain ⟨q0, q1, _⟩ := hO6.all2
      clear hO6 hOr hxx heq hak hst
      go_wp2
      exact bodyPost_ret (v := .agg #[.bool x.neg, .slice x.A x.n x.c]) (by simp [results, Tryz.results62, go_sem, q0, q1]) rfl HF.out
    · have hj0 : (0 : Int) < (j : Int) := by omega
      have hbk : b ≤ k := by have := hst.eq; have := Nat.le_mul_of_pos_right b h0; omega
      have HEQ := Lib.hid hst.eq
      have hj1 := hst.jj
      rcases Nat.mod_two_eq_zero_or_one j with hm | hm
      · have hm1 : ((j : Int) % 2 == 1) = false := by have : (j : Int) % 2 = 0 := by omega
                                                      rw [this]; rfl
        have HM := Lib.hid hm
        clear hm
        go_wp2_with fail
        refine (rMul_any hst.hy hst.hy (by unfold many; omega)).mono ?_
        rintro e w5 ⟨p, rfl, k5, hp⟩
        rw [pow_sum] at hp
        obtain ⟨c0, c1, f0, f1⟩ := (hst.o4.on k5).all2
        obtain ⟨V, hV, v1, v2, v3, v4, v5⟩ := put_beside (Below.call hst.bel k5) (by omega) (hst.o4.on k5) (hst.o3.on k5) (by omega) (by simp) (by simp) hp (hst.hx.on k5)
        have HN := Lib.hid (And.intro hV (PowSt.mk (k := k) (j := j / 2) v1 v3 v2 v5 v4 (by rw [← HEQ.out, ← Nat.two_mul, Nat.mul_comm 2 b, Nat.mul_assoc]; have := HM.out; rw [show 2 * (j / 2) = j by omega]) (by omega) (by omega)))
        clear hV v1 v2 v3 v4 v5 hst hp
        go_wp2_with fail
        go_roundw
        case rel => exact ⟨j / 2, a, b + b, x, p, by go_num, by rw [HN.out.1]; exact HN.out.2⟩
        case measure => simp [intOf]; omega
      · have hm1 : ((j : Int) % 2 == 1) = true := by have : (j : Int) % 2 = 1 := by omega
                                                     rw [this]; rfl
        have HM := Lib.hid hm
        clear hm
        go_wp2_with fail
        refine (rMul_any hst.hx hst.hy (by unfold many; omega)).mono ?_
        rintro e w5 ⟨p, rfl, k5, hp⟩
        rw [pow_sum] at hp
        obtain ⟨c0, c1, f0, f1⟩ := (hst.o3.on k5).all2
        obtain ⟨V, hV, v1, v2, v3, v4, v5⟩ := put_beside (Below.call hst.bel k5) (by omega) (hst.o3.on k5) (hst.o4.on k5) (by omega) (by simp) (by simp) hp (hst.hy.on k5)
        clear hst hp a0 a1 b0 b1
        go_upto_region 6 with fail
        try rw [hV]
        clear hV c0 c1 f0 f1 k5
        obtain ⟨b0, b1, _, _⟩ := v3.all2
        go_wp2_with fail
        refine (rMul_any v5 v5 (by unfold many; omega)).mono ?_
        rintro e w6 ⟨q, rfl, k6, hq⟩
        rw [pow_sum] at hq
        obtain ⟨c0, c1, f0, f1⟩ := (v3.on k6).all2
        obtain ⟨U, hU, u1, u2, u3, u4, u5⟩ := put_beside (Below.call v1 k6) (by omega) (v3.on k6) (v2.on k6) (by omega) (by simp) (by simp) hq (v4.on k6)
        have HN := Lib.hid (And.intro hU (PowSt.mk (k := k) (j := j / 2) u1 u3 u2 u5 u4 (by
          have := HM.out
          have e := HEQ.out
          have e2 : b * j = b + (b + b) * (j / 2) := by
            rw [← Nat.two_mul, Nat.mul_comm 2 b, Nat.mul_assoc]
            have : j = 1 + 2 * (j / 2) := by omega
            generalize j / 2 = h at *
            subst this
            rw [Nat.mul_add, Nat.mul_one]
          omega) (by omega) (by omega)))
        clear hU u1 u2 u3 u4 u5 v1 v2 v3 v4 v5 hq
        go_wp2_with fail
        go_roundw
        case rel => exact ⟨j / 2, a + b, b + b, p, q, by go_num, by rw [HN.out.1]; exact HN.out.2⟩
        case measure => simp [intOf]; omega
end Go.Proofs.YthafhbogpfggjaaGreatDoor

/-
  (second part)
-/
namespace Go.Proofs.YthafhbogpfggjaaGreatDoor
open Go.RowKit
open Dig (val Ws Nz)

set_option maxRecDepth 100000 in
set_option maxHeartbeats 1600000 in
theorem rFits_any {x : IV} {w : World} {a : Int} (hx : NI x w a) : Calls Tryz.prog 59 #[.agg #[.bool x.neg, .slice x.A x.n x.c]] w (fun e w' => e = .returned (.bool (decide (a.natAbs < 2 ^ 16384))) ∧ Below w.heap.size w w') := by
  obtain ⟨N, hN⟩ : ∃ N : Nat, N = 2 ^ 16384 := ⟨_, rfl⟩
  have HP : Hid (∀ u, Calls Tryz.prog 62 #[.int .i64 16384] u (RetN u (N : Int))) := Lib.hid fun u => by
    rw [hN]
    exact rPower_any 16384 u (by omega)
  have hlow : x.n < 1230 → a.natAbs < N := fun h => by
    obtain ⟨l, e1, e2, e3, e4, e5, e6⟩ := hx.abs
    have h1 := Dig.lt_pow_of_length e3.ws (k := 1229) (by omega)
    have h2 : (10000 : Nat) ^ 1229 ≤ (2 : Nat) ^ 16384 := by
      have : (10000 : Nat) ^ 1229 ≤ (2 ^ 16384 : Nat) := by decide +kernel
      exact this
    omega
  rw [← hN]
  have HL := Lib.hid hlow
  clear hN hlow
  go_enter Tryz.func59, Tryz.ntmps59
  go_upto_region 1 with fail
  refine wp_new1 fun W hA hB => ?_
  obtain ⟨l0, l1, _, _⟩ := hA.all2
  obtain ⟨r0, r1⟩ := hA.rules2
  by_cases hlen : x.n < 1230
  · have hd : decide (a.natAbs < N) = true := by rw [decide_eq_true_iff]; exact HL.out hlen
    have HD := Lib.hid hd
    clear hd
    go_wp2
    go_returns
    exact ⟨by rw [HD.out]; rfl, hB⟩
  · replace hx := hx.on hB
    go_wp2_with fail
    refine (HP.out _).mono ?_
    rintro e w1 ⟨p, rfl, k1, hp⟩
    go_upto_region 4 with fail
    refine wp_new1 fun W2 hO hB2 => ?_
    have k2 := Below.call k1 hB2
    obtain ⟨p0, p1, _, _⟩ := hO.all2
    have hx2 := hx.on k2
    have hp2 := hp.on hB2
    have hc : decide (cmpI (a.natAbs : Int) (N : Int) < 0) = decide (a.natAbs < N) := by
      apply decide_eq_decide.2
      rcases Nat.lt_trichotomy a.natAbs N with h | h | h
      · rw [cmpI_lt (by exact_mod_cast h)]; omega
      · rw [cmpI_eq (by exact_mod_cast h)]; omega
      · rw [cmpI_gt (by exact_mod_cast h)]; omega
    have HC := Lib.hid hc
    clear hc hB2 k1 hp hx
    go_wp2_with fail
    refine (ncompared hx2 hp2).mono ?_
    rintro e w3 ⟨rfl, k3⟩
    have HB := Lib.hid (Below.call (Below.call hB k2) k3)
    go_wp2
    go_returns
    exact ⟨congrArg (fun b => Ending.returned (.bool b)) HC.out, HB.out⟩
end Go.Proofs.YthafhbogpfggjaaGreatDoor
