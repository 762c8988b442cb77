/-
  Contracts of package wide: cmp.Compare, compare, Compare, Sign, Neg.
-/
import Derived.Test.YthafhbogpfggjaaGreatDoorW1
import Derived.BigQuiet
import Derived.Deep.QuietTactic
namespace Go.Proofs.YthafhbogpfggjaaGreatDoor
open Go.RowKit Mag

def cmpI (x y : Int) : Int := if x < y then -1 else if y < x then 1 else 0
theorem cmpI_lt {x y : Int} (h : x < y) : cmpI x y = -1 := by unfold cmpI; rw [if_pos h]
theorem cmpI_gt {x y : Int} (h : y < x) : cmpI x y = 1 := by unfold cmpI; rw [if_neg (by omega), if_pos h]
theorem cmpI_eq {x y : Int} (h : x = y) : cmpI x y = 0 := by unfold cmpI; rw [if_neg (by omega), if_neg (by omega)]

theorem isNaN_int (x : Int) (w : World) : Calls Tryz.prog 203 #[.int .i64 x] w fun e w' => e = .returned (.bool false) ∧ w = w' := by
  go_enter Tryz.func203, Tryz.ntmps203
  go_wp2
  go_ret
  simp
theorem isNaN_u32 (x : Int) (w : World) : Calls Tryz.prog 204 #[.int .u32 x] w fun e w' => e = .returned (.bool false) ∧ w = w' := by
  go_enter Tryz.func204, Tryz.ntmps204
  go_wp2
  go_ret
  simp
theorem cmp_int (x y : Int) (w : World) : Calls Tryz.prog 175 #[.int .i64 x, .int .i64 y] w fun e w' => e = .returned (.int .i64 (cmpI x y)) ∧ w = w' := by
  rcases Int.lt_trichotomy x y with h | h | h
  · go_enter Tryz.func175, Tryz.ntmps175
    go_wp2_with (go_at_call 203; refine (isNaN_int _ _).mono ?_; rintro e w' ⟨rfl, rfl⟩)
    go_ret
    exact ⟨by rw [cmpI_lt h]; rfl, rfl⟩
  · subst h
    go_enter Tryz.func175, Tryz.ntmps175
    go_wp2_with (go_at_call 203; refine (isNaN_int _ _).mono ?_; rintro e w' ⟨rfl, rfl⟩)
    go_ret
    exact ⟨by rw [cmpI_eq rfl]; rfl, rfl⟩
  · go_enter Tryz.func175, Tryz.ntmps175
    go_wp2_with (go_at_call 203; refine (isNaN_int _ _).mono ?_; rintro e w' ⟨rfl, rfl⟩)
    go_ret
    exact ⟨by rw [cmpI_gt h]; rfl, rfl⟩
theorem cmp_u32 (x y : Int) (w : World) : Calls Tryz.prog 176 #[.int .u32 x, .int .u32 y] w fun e w' => e = .returned (.int .i64 (cmpI x y)) ∧ w = w' := by
  rcases Int.lt_trichotomy x y with h | h | h
  · go_enter Tryz.func176, Tryz.ntmps176
    go_wp2_with (go_at_call 204; refine (isNaN_u32 _ _).mono ?_; rintro e w' ⟨rfl, rfl⟩)
    go_ret
    exact ⟨by rw [cmpI_lt h]; rfl, rfl⟩
  · subst h
    go_enter Tryz.func176, Tryz.ntmps176
    go_wp2_with (go_at_call 204; refine (isNaN_u32 _ _).mono ?_; rintro e w' ⟨rfl, rfl⟩)
    go_ret
    exact ⟨by rw [cmpI_eq rfl]; rfl, rfl⟩
  · go_enter Tryz.func176, Tryz.ntmps176
    go_wp2_with (go_at_call 204; refine (isNaN_u32 _ _).mono ?_; rintro e w' ⟨rfl, rfl⟩)
    go_ret
    exact ⟨by rw [cmpI_gt h]; rfl, rfl⟩

theorem cmpI_nat_ne {x y : Nat} (h : x ≠ y) : cmpI x y = -1 ∧ x < y ∨ cmpI x y = 1 ∧ y < x := by
  rcases Nat.lt_or_ge x y with h1 | h1
  · exact .inl ⟨cmpI_lt (by omega), h1⟩
  · exact .inr ⟨cmpI_gt (by omega), by omega⟩

theorem cmpI_val {a b : List Nat} {m : Nat} (ha : Ws a) (hb : Ws b) (hl : a.length = b.length) (hm : m < a.length) (hne : a[m] ≠ b[m]) (hd : a.drop (m + 1) = b.drop (m + 1)) :
    cmpI (a[m] : Nat) (b[m] : Nat) = cmpI (val a) (val b) := by
  rcases cmpI_nat_ne hne with ⟨h1, h2⟩ | ⟨h1, h2⟩
  · have := cmp_top' (k := m + 1) ha hl (by omega) (by omega) (by simpa using h2) hd
    rw [h1, cmpI_lt (by omega)]
  · have := cmp_top' (k := m + 1) hb hl.symm (by omega) (by omega) (by simpa using h2) hd.symm
    rw [h1, cmpI_gt (by omega)]
def CmpPost (z : Int) (w : World) (e : Ending) (w' : World) : Prop := e = .returned (.int .i64 z) ∧ ∃ n, w.drewN n = w'

set_option maxHeartbeats 400000 in
theorem compare_len {A B : Option Addr} {c d : Nat} {a b : List Nat} {w : World} (hb : MagIs w B b d) (ha : MagIs w A a c) (hne : a.length ≠ b.length) :
    Calls Tryz.prog 133 #[.slice A a.length c, .slice B b.length d] w (CmpPost (cmpI (val a) (val b)) w) := by
  have h1 := ha.cap
  have h2 := hb.cap
  have h3 := ha.mx
  have h4 := hb.mx
  unfold maxLen at h3 h4
  have hz : cmpI (val a) (val b) = cmpI a.length b.length := by
    rcases Nat.lt_or_ge a.length b.length with h | h
    · rw [cmpI_lt (by exact_mod_cast lt_of_length ha.ws hb.nz h), cmpI_lt (by omega)]
    · rw [cmpI_gt (by exact_mod_cast lt_of_length hb.ws ha.nz (by omega)), cmpI_gt (by omega)]
  rw [hz]
  have hz' : (cmpI (a.length : Int) (b.length : Int) == 0) = false := by
    rcases cmpI_nat_ne hne with h | h <;> rw [h.1] <;> rfl
  have hz2 : (cmpI (a.length : Int) (b.length : Int) != 0) = true := by rw [bne, hz']; rfl
  go_enter Tryz.func133, Tryz.ntmps133
  go_wp2_with (go_at_call 175; refine (cmp_int _ _ _).mono ?_; rintro e w' ⟨rfl, rfl⟩)
  go_ret
  exact ⟨rfl, 0, rfl⟩

set_option maxHeartbeats 400000 in
theorem compare_same {A B : Option Addr} {c d : Nat} {a b : List Nat} {w : World} (hb : MagIs w B b d) (ha : MagIs w A a c) (hl : a.length = b.length) :
    Calls Tryz.prog 133 #[.slice A a.length c, .slice B b.length d] w (CmpPost (cmpI (val a) (val b)) w) := by
  have h1 := ha.cap
  have h2 := hb.cap
  have h3 := ha.mx
  have h4 := hb.mx
  unfold maxLen at h3 h4
  have H1 := ha.sl
  have H2 := hb.sl
  have hle : a.length ≤ b.length := by omega
  have hge : b.length ≤ a.length := by omega
  have hz : cmpI (a.length : Int) (b.length : Int) = 0 := cmpI_eq (by omega)
  have hwa := ha.ws
  have hwb := hb.ws
  have HL := Lib.hid hl
  clear ha hb hl
  go_enter Tryz.func133, Tryz.ntmps133
  go_wp2_with (go_at_call 175; refine (cmp_int _ _ _).mono ?_; rintro e w' ⟨rfl, rfl⟩)
  go_loopw [6] (fun i wr => ∃ k : Nat, k ≤ a.length ∧ i = .int .i64 ((k : Int) - 1) ∧ a.drop k = b.drop k ∧ ∃ n, w.drewN n = wr) (fun i _ => (intOf i + 1).toNat)
  case atStart => exact ⟨a.length, Nat.le_refl _, rfl, by rw [List.drop_of_length_le (by omega), List.drop_of_length_le (by omega)], 0, rfl⟩
  case round =>
    obtain ⟨k, hk, rfl, hd, nd, rfl⟩ := hrel
    have HD := Lib.hid hd
    clear hd
    rcases Nat.eq_zero_or_pos k with h0 | h0
    · subst h0
      have hv : a = b := by simpa using HD.out
      have HV := Lib.hid hv
      clear hv
      go_wp2
      go_ret
      exact ⟨ret_i64 (by rw [HV.out, cmpI_eq rfl]), nd, rfl⟩
    · obtain ⟨m, rfl⟩ : ∃ m, k = m + 1 := ⟨k - 1, by omega⟩
      rw [show (((m + 1 : Nat) : Int) - 1) = (m : Int) by omega]
      obtain ⟨g1, o1, rfl, hg1, hc1⟩ := H1.w32at (i := m) (by omega)
      obtain ⟨g2, o2, rfl, hg2, hc2⟩ := H2.w32at (i := m) (by omega)
      have hi1 : (m : Int) < (a.length : Int) := by omega
      have hi2 : (m : Int) < (b.length : Int) := by omega
      have hi3 : (0 : Int) ≤ (m : Int) := by omega
      go_wp2_with fail
      go_quiet ((go_at_call 176; first | exact quiet_left (cmp_u32 _ _ _) | exact quiet_add_left (cmp_u32 _ _ _)))
      go_wp2
      · have hne : (cmpI (a[m] : Nat) (b[m] : Nat) != 0) = true := by assumption
        have hne' : a[m] ≠ b[m] := by
          intro e
          rw [cmpI_eq (by omega)] at hne
          simp at hne
        go_ret
        exact ⟨ret_i64 (cmpI_val hwa hwb HL.out (by omega) hne' HD.out), _, rfl⟩
      · have he : (cmpI (a[m] : Nat) (b[m] : Nat) != 0) = false := by assumption
        have he' : a[m] = b[m] := by
          by_cases e : a[m] = b[m]
          · exact e
          · rcases cmpI_nat_ne e with h | h <;> rw [h.1] at he <;> simp at he
        go_roundw
        case rel => exact ⟨m, by omega, by go_num, drop_pred_eq (k := m + 1) (by omega) (by omega) (by omega) (by simpa using he') HD.out, _, rfl⟩
        case measure => simp [intOf] <;> omega

theorem compare_any {A B : Option Addr} {c d : Nat} {a b : List Nat} {w : World} (hb : MagIs w B b d) (ha : MagIs w A a c) :
    Calls Tryz.prog 133 #[.slice A a.length c, .slice B b.length d] w (CmpPost (cmpI (val a) (val b)) w) := by
  by_cases h : a.length = b.length
  · exact compare_same hb ha h
  · exact compare_len hb ha h

/-- What the parts of an Int give. -/
theorem WI.open_ {w : World} {neg : Bool} {A : Option Addr} {n c : Nat} {z : Int} (h : WI w neg A n c z) : ∃ l, l.length = n ∧ n ≤ 512 ∧ MagIs w A l c ∧ (neg = true → n ≠ 0) ∧ z = sgn neg (val l) := h
theorem WI.flip {w : World} {neg : Bool} {A : Option Addr} {n c : Nat} {z : Int} (h : WI w neg A n c z) (b : Bool) (hb : b = (!neg && decide (0 < n))) : WI w b A n c (-z) := by
  obtain ⟨l, h1, h2, h3, h4, h5⟩ := h
  refine ⟨l, h1, h2, h3, ?_, ?_⟩
  · intro e; rw [hb] at e; simp at e; omega
  · subst h5 hb
    rcases Nat.eq_zero_or_pos n with h0 | h0
    · have : l = [] := List.eq_nil_of_length_eq_zero (by omega)
      subst this
      simp [val]
    · cases neg <;> simp [h0]
def IntPost (w : World) (z : Int) (e : Ending) (w' : World) : Prop :=
  ∃ neg A n c, e = .returned (.agg #[.bool neg, .slice A n c]) ∧ Below w.heap.size w w' ∧ WI w' neg A n c z

set_option maxHeartbeats 400000 in
theorem neg_any {neg : Bool} {A : Option Addr} {n c : Nat} {z : Int} {w : World} (h : WI w neg A n c z) : Calls Tryz.prog 56 #[.agg #[.bool neg, .slice A n c]] w (IntPost w (-z)) := by
  have hfin := fun (w' : World) (b : Bool) (hb : Below w.heap.size w w') hbk => (h.on hb).flip b hbk
  obtain ⟨l, rfl, h5, hm, hneg, hz⟩ := h
  have h1 := hm.cap
  have h2 := hm.mx
  clear hm hneg hz
  unfold maxLen at h2
  cases neg
  · rcases Nat.eq_zero_or_pos l.length with h0 | h0
    · obtain rfl : l = [] := List.eq_nil_of_length_eq_zero h0
      clear h0
      simp only [List.length_nil] at *
      go_enter Tryz.func56, Tryz.ntmps56
      go_wp2
      go_returns
      refine ⟨_, _, _, _, rfl, by go_grown, hfin _ _ (by go_grown) ?_⟩
      simp
    · have hd : decide ((0 : Int) < (l.length : Int)) = true := by simp [h0]
      go_enter Tryz.func56, Tryz.ntmps56
      go_wp2
      go_returns
      refine ⟨_, _, _, _, rfl, by go_grown, hfin _ _ (by go_grown) ?_⟩
      simp [h0]
  · go_enter Tryz.func56, Tryz.ntmps56
    go_wp2
    go_returns
    refine ⟨_, _, _, _, rfl, by go_grown, hfin _ _ (by go_grown) ?_⟩
    simp

def RetInt (w : World) (z : Int) (e : Ending) (w' : World) : Prop := e = .returned (.int .i64 z) ∧ Below w.heap.size w w'
theorem below_drewN' {B : Nat} {a w : World} (h : Below B a w) (n : Nat) : Below B a (w.drewN n) := ⟨h.os, h.tape, h.output, h.size, h.block⟩

theorem MagIs.alloc {w : World} {A : Option Addr} {l : List Nat} {c : Nat} (h : MagIs w A l c) (o : Obj) : MagIs (w.alloc o) A l c :=
  h.on ((Below.refl _ _).alloc (Nat.le_refl _) _)
theorem sgn_cmp_nn (x y : Nat) : cmpI (sgn true x) (sgn true y) = cmpI y x := by
  unfold sgn
  rcases Nat.lt_trichotomy x y with h | h | h
  · rw [cmpI_gt (by simp; omega), cmpI_gt (by omega)]
  · rw [cmpI_eq (by simp; omega), cmpI_eq (by omega)]
  · rw [cmpI_lt (by simp; omega), cmpI_lt (by omega)]

set_option maxHeartbeats 400000 in
theorem Compare_any {n1 n2 : Bool} {A B : Option Addr} {k m c d : Nat} {x y : Int} {w : World} (hx : WI w n1 A k c x) (hy : WI w n2 B m d y) :
    Calls Tryz.prog 53 #[.agg #[.bool n1, .slice A k c], .agg #[.bool n2, .slice B m d]] w (RetInt w (cmpI x y)) := by
  obtain ⟨a, rfl, h5, ha, hna, rfl⟩ := hx.open_
  obtain ⟨b, rfl, h6, hb, hnb, rfl⟩ := hy.open_
  clear hx hy h5 h6
  have pa : n1 = true → 0 < val a := fun h => ha.nz.pos (by have := hna h; intro e; subst e; simp at this)
  have pb : n2 = true → 0 < val b := fun h => hb.nz.pos (by have := hnb h; intro e; subst e; simp at this)
  cases n1 <;> cases n2
  · go_enter Tryz.func53, Tryz.ntmps53
    go_wp2_with fail
    refine (compare_any ((hb.alloc _).alloc _) ((ha.alloc _).alloc _)).mono ?_
    rintro e w1 ⟨rfl, nd, rfl⟩
    go_wp2
    go_ret
    exact ⟨by simp [sgn], below_drewN' (by go_grown) _⟩
  · have hz : cmpI (sgn false (val a)) (sgn true (val b)) = 1 := by
      have := pb rfl
      rw [cmpI_gt]; simp [sgn]; omega
    go_enter Tryz.func53, Tryz.ntmps53
    have HZ := Lib.hid hz
    clear hz
    go_wp2
    go_ret
    exact ⟨ret_i64 HZ.out.symm, by go_grown⟩
  · have hz : cmpI (sgn true (val a)) (sgn false (val b)) = -1 := by
      have := pa rfl
      rw [cmpI_lt]; simp [sgn]; omega
    go_enter Tryz.func53, Tryz.ntmps53
    have HZ := Lib.hid hz
    clear hz
    go_wp2
    go_ret
    exact ⟨ret_i64 HZ.out.symm, by go_grown⟩
  · go_enter Tryz.func53, Tryz.ntmps53
    go_wp2_with fail
    refine (compare_any ((ha.alloc _).alloc _) ((hb.alloc _).alloc _)).mono ?_
    rintro e w1 ⟨rfl, nd, rfl⟩
    go_wp2
    go_ret
    exact ⟨ret_i64 (sgn_cmp_nn _ _).symm, below_drewN' (by go_grown) _⟩

set_option maxHeartbeats 400000 in
theorem Sign_any {n1 : Bool} {A : Option Addr} {k c : Nat} {x : Int} {w : World} (hx : WI w n1 A k c x) :
    Calls Tryz.prog 55 #[.agg #[.bool n1, .slice A k c]] w (RetInt w (cmpI x 0)) := by
  go_enter Tryz.func55, Tryz.ntmps55
  go_wp2_with fail
  refine (Compare_any (hx.on (by go_grown)) (WI.zero _)).mono ?_
  rintro e w1 ⟨rfl, hb⟩
  go_wp2
  go_ret
  exact ⟨rfl, Below.trans (b := w.alloc _) (by go_grown) (hb.mono (by simp))⟩
end Go.Proofs.YthafhbogpfggjaaGreatDoor
