/-
  Contract of package wide: divide, the easy ways.
-/
import Derived.Test.YthafhbogpfggjaaGreatDoorW8
import Derived.Test.YthafhbogpfggjaaGreatDoorShelf
namespace Go.Proofs.YthafhbogpfggjaaGreatDoor
open Go.RowKit Mag

theorem lead_fits {t : Nat} (h0 : 0 < t) (h1 : t < 4294967296) : Lib.bitLen t ≤ 32 ∧ 1 ≤ Lib.bitLen t ∧ 2147483648 ≤ t * 2 ^ (32 - Lib.bitLen t) ∧ t * 2 ^ (32 - Lib.bitLen t) < 4294967296 := by
  obtain ⟨b1, b2, b3⟩ := Lib.bitLenAux_bounds 64 t (by omega) (by omega)
  change 1 ≤ Lib.bitLen t at b1
  change 2 ^ (Lib.bitLen t - 1) ≤ t at b2
  change t < 2 ^ Lib.bitLen t at b3
  have h32 : Lib.bitLen t ≤ 32 := by
    rcases Nat.lt_or_ge 32 (Lib.bitLen t) with h | h
    · have : 2 ^ 32 ≤ 2 ^ (Lib.bitLen t - 1) := Nat.pow_le_pow_right (by decide) (by omega)
      omega
    · exact h
  have hp : 0 < 2 ^ (32 - Lib.bitLen t) := Nat.pow_pos (by decide)
  refine ⟨h32, b1, ?_, ?_⟩
  · have h2 : 2 ^ (Lib.bitLen t - 1) * 2 ^ (32 - Lib.bitLen t) ≤ t * 2 ^ (32 - Lib.bitLen t) := Nat.mul_le_mul_right _ b2
    rw [← Nat.pow_add, show Lib.bitLen t - 1 + (32 - Lib.bitLen t) = 31 by omega] at h2
    omega
  · have h2 : t * 2 ^ (32 - Lib.bitLen t) < 2 ^ Lib.bitLen t * 2 ^ (32 - Lib.bitLen t) := Nat.mul_lt_mul_of_pos_right b3 hp
    rw [← Nat.pow_add, show Lib.bitLen t + (32 - Lib.bitLen t) = 32 by omega] at h2
    omega

def DivPost (w : World) (a b : List Nat) (e : Ending) (w' : World) : Prop :=
  ∃ A1 c1 A2 c2 q r, e = .returned (.tuple #[.slice A1 (List.length q) c1, .slice A2 (List.length r) c2]) ∧ MagIs w' A1 q c1 ∧ MagIs w' A2 r c2 ∧ Hid (val q = val a / val b) ∧ Hid (val r = val a % val b) ∧ Below w.heap.size w w'
theorem MagIs.nil_ (w : World) : MagIs w none [] 0 := ⟨Sl.nil_, Ws.nil, Nz.nil, by simp, by unfold maxLen; omega⟩

set_option maxRecDepth 100000 in
set_option maxHeartbeats 400000 in
theorem divide_lt {A B : Option Addr} {c d : Nat} {a b : List Nat} {w : World} (ha : MagIs w A a c) (hb : MagIs w B b d) (hlt : val a < val b) :
    Calls Tryz.prog 130 #[.slice A a.length c, .slice B b.length d] w (DivPost w a b) := by
  have hcmp : cmpI (val a) (val b) < 0 := by rw [cmpI_lt (by omega)]; omega
  have HP : ∀ n, DivPost w a b (.returned (.tuple #[.slice none 0 0, .slice A a.length c])) (w.drewN n) := fun n => ⟨none, 0, A, c, [], a, rfl, (MagIs.nil_ w).drewN n, ha.drewN n, Lib.hid (by rw [Nat.div_eq_of_lt hlt]; rfl), Lib.hid (Nat.mod_eq_of_lt hlt).symm, below_drewN' (Below.refl _ _) n⟩
  have HQ := Lib.hid HP
  clear HP
  go_enter Tryz.func130, Tryz.ntmps130
  go_wp2_with fail
  go_step3
  go_wp2_with fail
  refine (compare_any hb ha).mono ?_
  rintro e w1 ⟨rfl, nd, rfl⟩
  go_wp2
  rw [Exit.noGoto_ret]
  go_ret2
  exact HQ.out nd

theorem div_by {a q r p : Nat} (h : a = q * p + r) (hr : r < p) : q = a / p ∧ r = a % p := by
  subst h
  constructor
  · rw [Nat.add_comm, Nat.add_mul_div_right _ _ (by omega), Nat.div_eq_of_lt hr, Nat.zero_add]
  · rw [Nat.add_comm, Nat.add_mul_mod_self_right, Nat.mod_eq_of_lt hr]

set_option maxRecDepth 100000 in
set_option maxHeartbeats 400000 in
theorem divide_one {A B : Option Addr} {c d : Nat} {a b : List Nat} {w : World} (ha : MagIs w A a c) (hb : MagIs w B b d) (hge : val b ≤ val a) (h1 : b.length = 1) (hal : a.length ≤ 1048576) :
    Calls Tryz.prog 130 #[.slice A a.length c, .slice B b.length d] w (DivPost w a b) := by
  have hcmp : ¬ cmpI (val a) (val b) < 0 := by unfold cmpI; split <;> (try split) <;> omega
  obtain ⟨p, rfl⟩ : ∃ p, b = [p] := by
    match b, h1 with
    | [p], _ => exact ⟨p, rfl⟩
  have hp0 : 0 < p := by have := hb.nz.pos (by simp); simpa [val] using this
  have hp1 : p < 4294967296 := hb.ws.head
  obtain ⟨g, o, rfl, hg, hc⟩ := hb.sl.w32at (i := 0) (by simp)
  have hc' : w.cell? ⟨g, o, none⟩ = some (.int .u32 (p : Nat)) := hc
  clear hc h1
  simp only [List.length_cons, List.length_nil, Nat.zero_add]
  go_enter Tryz.func130, Tryz.ntmps130
  go_wp2_with fail
  go_step3
  go_wp2_with fail
  refine (compare_any (a := a) (b := [p]) hb ha).mono ?_
  rintro e w1 ⟨rfl, nd, rfl⟩
  go_wp2_with fail
  refine (short_any (q := p) (ha.drewN nd).sl ha.ws hal hp0 hp1).mono ?_
  rintro e w2 ⟨g2, ds, r, rfl, h11, h12, h13, h14, h15, h16, h17⟩
  have hdl : ds.length ≤ maxLen := by unfold maxLen; omega
  go_wp2_with fail
  refine (normal_any _ _ ds _ (h11.sl h11.lt) (Nat.le_refl _) hdl).mono ?_
  rintro e w3 ⟨k, hk, rfl, rfl, hnz, hval⟩
  have HV := Lib.hid hval
  clear hval
  go_wp2_with fail
  refine (normal_any (some ⟨w2.heap.size, 0, none⟩) 1 [r] _ ((Own.new w2 153 [w32 r]).sl (by simp)) (by simp) (by unfold maxLen; omega)).mono ?_
  rintro e w4 ⟨k4, hk4, rfl, rfl, hnz4, hval4⟩
  have hB : Below w.heap.size w (w2.alloc (.cells #[.int .u32 (r : Nat)] 153)) := (show Below w.heap.size w w2 from (below_drewN' (Below.refl _ _) nd).trans h16).alloc (h16.size) _
  have h2 : Below w2.heap.size w2 (w2.alloc (.cells #[.int .u32 (r : Nat)] 153)) := (Below.refl _ _).alloc (Nat.le_refl _) _
  have hr32 : r < 4294967296 := by omega
  have hw1 : Ws [r] := Ws.cons hr32 Ws.nil
  have m1 : MagIs (w2.alloc (.cells #[.int .u32 (r : Nat)] 153)) (some ⟨g2, 0, none⟩) (ds.take k) ds.length := ⟨by rw [List.map_take]; exact (((h11.sl h11.lt).on h2).take k), h12.take k, hnz, by rw [List.length_take]; omega, hdl⟩
  have m2 : MagIs (w2.alloc (.cells #[.int .u32 (r : Nat)] 153)) (some ⟨w2.heap.size, 0, none⟩) ([r].take k4) 1 := ⟨by rw [List.map_take]; exact (((Own.new w2 153 [w32 r]).sl (by simp)).take k4), hw1.take k4, hnz4, by rw [List.length_take]; simp; omega, by unfold maxLen; omega⟩
  obtain ⟨e1, e2⟩ := div_by h13.out h14
  have HP : DivPost w a [p] (.returned (.tuple #[.slice (some ⟨g2, 0, none⟩) (ds.take k).length ds.length, .slice (some ⟨w2.heap.size, 0, none⟩) ([r].take k4).length 1])) _ := ⟨_, _, _, _, _, _, rfl, m1, m2, Lib.hid (by rw [HV.out, e1]; simp [val]), Lib.hid (by rw [hval4]; simp [val]; exact e2), hB⟩
  rw [List.length_take, List.length_take, Nat.min_eq_left hk, Nat.min_eq_left hk4] at HP
  have HQ := Lib.hid HP
  clear HP m1 m2 e1 e2 hval4 h13
  go_wp2
  rw [Exit.noGoto_ret]
  go_ret2
  exact HQ.out
end Go.Proofs.YthafhbogpfggjaaGreatDoor
