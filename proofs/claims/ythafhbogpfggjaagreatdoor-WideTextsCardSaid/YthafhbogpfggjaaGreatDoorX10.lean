/-
  The law WideTexts: the walk.
-/
import Derived.Test.YthafhbogpfggjaaGreatDoorX9
import Derived.Test.YthafhbogpfggjaaGreatDoorT3
import Derived.Laws.BytesArg
namespace Go.Proofs.YthafhbogpfggjaaGreatDoor
open Go.RowKit Mag

theorem pow_32_ (n : Nat) : 4294967296 ^ n = 2 ^ (32 * n) := by rw [Nat.pow_mul]
theorem top_two_ (k : Nat) (hk : 32 * topW = k) : top = 2 ^ k := by rw [top_eq, pow_32_, hk]
theorem conv_byte {w : World} {x : Nat} {c : Int} (h : w.cell? ⟨x, 0, none⟩ = some (.int .u8 c)) : (convert 36 9 (.slice (some ⟨x, 0, none⟩) 1 1)).run Tryz.prog w = .ok (.string (strOfNums [c])) w :=
  run_convert_bytes_arg (P := Tryz.prog) w 36 5 Tryz.underlying36 Tryz.underlying5 x 0 1 1 [c] rfl (fun j hj => by
    obtain rfl : j = 0 := by omega
    exact h) 9 Tryz.underlying9
set_option maxRecDepth 100000 in
theorem Short_any (s : ByteArray) (m : Nat) (_hm : m ≤ 1000) (w : World) : Calls Tryz.prog 31 #[.string s, .int .i64 (m : Int)] w (fun e w' => ∃ t : ByteArray, e = .returned (.string t) ∧ t.size ≤ m ∧ Below w.heap.size w w') := by
  go_enter Tryz.func31, Tryz.ntmps31
  by_cases h : (m : Int) < (s.size : Int)
  · have h0 : (0 : Int) ≤ (m : Int) := by omega
    have h1 : (m : Int) ≤ (s.size : Int) := by omega
    go_wp2
    go_returns
    exact ⟨_, rfl, by rw [ByteArray.size_extract]; omega, by go_grown⟩
  · go_wp2
    go_returns
    exact ⟨_, rfl, by omega, by go_grown⟩
/-- A slot that holds a text of at most m bytes. -/
def sStr (m : Nat) : Spec Bel := ⟨fun v _ => ∃ x : ByteArray, v = .string x ∧ x.size ≤ m, fun h _ => h⟩
/-- A slot that holds a slice of one byte. -/
def sByt (c : Int) : Spec Bel := ⟨fun v w => ∃ g, v = .slice (some ⟨g, 0, none⟩) 1 1 ∧ g < w.heap.size ∧ w.cell? ⟨g, 0, none⟩ = some (.int .u8 c), fun ⟨g, e, l, h⟩ k => ⟨g, e, Nat.lt_of_lt_of_le l k.size, (k.cell (p := ⟨g, 0, none⟩) l).trans h⟩⟩
/-- Five texts. -/
def S5 (w : World) (g : Nat) : Prop := ∀ i, i < 5 → ∃ x : ByteArray, w.cell? ⟨g, i, none⟩ = some (.string x) ∧ x.size ≤ 1000 ∧ g < w.heap.size
theorem S5.on {w w' : World} {g : Nat} (h : S5 w g) (hb : Below w.heap.size w w') : S5 w' g := fun i hi => by
  obtain ⟨x, h1, h2, h3⟩ := h i hi
  exact ⟨x, (hb.cell (p := ⟨g, i, none⟩) h3).trans h1, h2, Nat.lt_of_lt_of_le h3 hb.size⟩
def sS5 : Spec Bel := ⟨fun v w => ∃ g, v = .slice (some ⟨g, 0, none⟩) 5 5 ∧ S5 w g, fun ⟨g, e, h⟩ k => ⟨g, e, h.on k⟩⟩
theorem S5.mk {w : World} {t : TypeId} {a b c d e : ByteArray} (h1 : a.size ≤ 1000) (h2 : b.size ≤ 1000) (h3 : c.size ≤ 1000) (h4 : d.size ≤ 1000) (h5 : e.size ≤ 1000) :
    S5 (w.alloc (.cells #[.string a, .string b, .string c, .string d, .string e] t)) w.heap.size := fun i hi => by
  have hO : Own (w.alloc (.cells #[.string a, .string b, .string c, .string d, .string e] t)) w.heap.size t [.string a, .string b, .string c, .string d, .string e] := Own.new w t _
  match i, hi with
  | 0, _ => exact ⟨a, hO.cell 0, h1, hO.lt⟩
  | 1, _ => exact ⟨b, hO.cell 1, h2, hO.lt⟩
  | 2, _ => exact ⟨c, hO.cell 2, h3, hO.lt⟩
  | 3, _ => exact ⟨d, hO.cell 3, h4, hO.lt⟩
  | 4, _ => exact ⟨e, hO.cell 4, h5, hO.lt⟩
set_option maxRecDepth 100000 in
set_option maxHeartbeats 6400000 in
theorem WideTexts_any {w : World} (s : ByteArray) {A : Option Addr} {l : List Int} {cp : Nat} (h : IntsIs w A l cp) (at_ : Int) (hat : in64 at_) (c : Int) (ht0 : Tab w) :
    Calls Tryz.prog 4 #[.string s, .slice A l.length cp, .int .i64 at_, .int .u8 c] w (RetBool w true) := by
  go_enter Tryz.func4, Tryz.ntmps4
  go_wp2_with fail
  refine (Number_sm h 0 (by omega) 0 rfl).mono ?_
  rintro e w1 ⟨Z, bZ, u, rfl, k1, hu⟩
  obtain ⟨t, ht⟩ : ∃ t : ByteArray, t = ⟨(Lib.itoa Z).toArray⟩ := ⟨_, rfl⟩
  have htd : t.data.toList = Lib.itoa Z := by rw [ht]
  have htl : t.size ≤ 100 := by
    rw [str_size htd]
    unfold Sm at bZ
    have := Txt.itoa_len (k := 72) (z := Z) (by omega) (by rwa [show (10000 : Nat) = 10 ^ 4 from rfl, ← Nat.pow_mul] at bZ)
    omega
  have ht1 : 1 ≤ t.size := by
    rw [str_size htd]
    have h1 : Lib.itoa Z ≠ [] := by
      unfold Lib.itoa
      split
      · simp
      · exact DecM.dec_ne _
    have : (Lib.itoa Z).length ≠ 0 := fun e => h1 (List.eq_nil_of_length_eq_zero e)
    omega
  have HT := Lib.hid (show ∀ w : World, NI u w Z → Calls Tryz.prog 28 #[.agg #[.bool u.neg, .slice u.A u.n u.c]] w (fun e w' => e = .returned (.string t) ∧ Below w.heap.size w w') from fun _ h => by rw [ht]; exact rText_any h)
  clear ht htd
  go_wp2_with fail
  refine (HT.out _ hu).mono ?_
  rintro e w2 ⟨rfl, k2⟩
  have b1 := Below.call k1 k2
  obtain ⟨k, hk⟩ : ∃ k, k = around at_ (t.size : Int) := ⟨_, rfl⟩
  have hk0 : 0 ≤ k := by rw [hk]; exact (around_bd at_ (by omega)).1
  have hk1 : k < (t.size : Int) := by rw [hk]; exact (around_bd at_ (by omega)).2
  have HAr := Lib.hid (show ∀ w, Calls Tryz.prog 30 #[.int .i64 at_, .int .i64 (t.size : Int)] w (RetInt w k) from fun w => by
    rw [hk]
    exact Around_any at_ _ w hat.1 hat.2 (by omega) (by omega))
  have HSh := Lib.hid (Short_any s 30 (by omega))
  clear hk k1 k2 hu h
  go_wp2_with fail
  refine (HAr.out _).mono ?_
  rintro e w5 ⟨rfl, k3⟩
  replace b1 := Below.call b1 k3
  clear k3
  go_upto_region 3 with fail
  refine wp_region_specs w5 [Spec.eq (.string s), sStr 30, Spec.eq (.string t), Spec.eq (.string t), Spec.eq (.int .i64 k), sStr 100, Spec.eq (.int .u8 c), sByt c, sStr 1, sStr 101, Spec.eq (.string t), Spec.eq (.int .i64 k), Spec.eq (.int .i64 (k + 1)), sStr 100, sStr 201, Spec.eq (.string t), Spec.eq (.int .i64 k), sStr 100, Spec.eq (.string t), Spec.eq (.string t), sStr 200, sS5 , sS5 ]
      (by kernel_rfl) (by kernel_rfl) rfl (by kernel_rfl) (Below.drew (Below.refl _ _)) ?_ ?_
  ·
    refine RegSteps.cons ?_ ?_
    · intro _ az wz hC hF hD _ K hK
      have q0 : az.tmps[0]? = some (.string s) := hF 0 rfl
      clear hF hD
      refine want_none rfl ?_
      go_simp
      exact hK _ _ hC (Below.refl _ _) rfl
    refine RegSteps.cons ?_ ?_
    · intro _ az wz hC hF hD _ K hK
      obtain ⟨_, q24, rfl⟩ := dep hD 0 rfl rfl rfl rfl
      clear hF hD
      refine want_none rfl ?_
      go_simp
      refine (HSh.out _).mono ?_
      rintro e wy ⟨x, rfl, hx, k⟩
      exact hK _ _ (Below.call hC k) k ⟨x, rfl, hx⟩
    refine RegSteps.cons ?_ ?_
    · intro _ az wz hC hF hD _ K hK
      have q9 : az.tmps[9]? = some (.string t) := hF 9 rfl
      clear hF hD
      refine want_none rfl ?_
      go_simp
      exact hK _ _ hC (Below.refl _ _) rfl
    refine RegSteps.cons ?_ ?_
    · intro _ az wz hC hF hD _ K hK
      have q9 : az.tmps[9]? = some (.string t) := hF 9 rfl
      clear hF hD
      refine want_none rfl ?_
      go_simp
      exact hK _ _ hC (Below.refl _ _) rfl
    refine RegSteps.cons ?_ ?_
    · intro _ az wz hC hF hD _ K hK
      have q10 : az.tmps[10]? = some (.int .i64 k) := hF 10 rfl
      clear hF hD
      refine want_none rfl ?_
      go_simp
      exact hK _ _ hC (Below.refl _ _) rfl
    refine RegSteps.cons ?_ ?_
    · intro _ az wz hC hF hD _ K hK
      obtain ⟨_, q27, rfl⟩ := dep hD 3 rfl rfl rfl rfl
      obtain ⟨_, q28, rfl⟩ := dep hD 4 rfl rfl rfl rfl
      have g0 : (0 : Int) ≤ k := hk0
      have g1 : k ≤ (t.size : Int) := by omega
      clear hF hD
      refine want_none rfl ?_
      go_simp
      exact hK _ _ hC (Below.refl _ _) ⟨_, rfl, by rw [ByteArray.size_extract]; omega⟩
    refine RegSteps.cons ?_ ?_
    · intro _ az wz hC hF hD _ K hK
      have q3 : az.tmps[3]? = some (.int .u8 c) := hF 3 rfl
      clear hF hD
      refine want_none rfl ?_
      go_simp
      exact hK _ _ hC (Below.refl _ _) rfl
    refine RegSteps.cons ?_ ?_
    · intro _ az wz hC hF hD _ K hK
      obtain ⟨_, q30, rfl⟩ := dep hD 6 rfl rfl rfl rfl
      clear hF hD
      refine want_none rfl ?_
      go_simp
      exact hK _ _ (Below.alloc hC hC.size _) (below_new _ _) ⟨_, rfl, (Own.new wz 5 [.int .u8 c]).lt, (Own.new wz 5 [.int .u8 c]).c0⟩
    refine RegSteps.cons ?_ ?_
    · intro _ az wz hC hF hD _ K hK
      obtain ⟨_, q31, x31, rfl, hx31⟩ := dep hD 7 rfl rfl rfl rfl
      have hcv := conv_byte hx31.2
      clear hF hD
      refine want_none rfl ?_
      go_simp
      exact hK _ _ hC (Below.refl _ _) ⟨_, rfl, Nat.le_refl 1⟩
    refine RegSteps.cons ?_ ?_
    · intro _ az wz hC hF hD _ K hK
      obtain ⟨_, q29, x29, rfl, hx29⟩ := dep hD 5 rfl rfl rfl rfl
      obtain ⟨_, q32, x32, rfl, hx32⟩ := dep hD 8 rfl rfl rfl rfl
      have hsum : x29.size + x32.size ≤ 1000 := by omega
      have hs2 : ¬ 9223372036854775807 < x29.size + x32.size := by omega
      clear hF hD
      refine want_none rfl ?_
      go_simp
      exact hK _ _ hC (Below.refl _ _) ⟨_, rfl, by rw [ByteArray.size_append]; omega⟩
    refine RegSteps.cons ?_ ?_
    · intro _ az wz hC hF hD _ K hK
      have q9 : az.tmps[9]? = some (.string t) := hF 9 rfl
      clear hF hD
      refine want_none rfl ?_
      go_simp
      exact hK _ _ hC (Below.refl _ _) rfl
    refine RegSteps.cons ?_ ?_
    · intro _ az wz hC hF hD _ K hK
      have q10 : az.tmps[10]? = some (.int .i64 k) := hF 10 rfl
      clear hF hD
      refine want_none rfl ?_
      go_simp
      exact hK _ _ hC (Below.refl _ _) rfl
    refine RegSteps.cons ?_ ?_
    · intro _ az wz hC hF hD _ K hK
      obtain ⟨_, q35, rfl⟩ := dep hD 11 rfl rfl rfl rfl
      clear hF hD
      refine want_none rfl ?_
      go_simp
      try go_ints
      exact hK _ _ hC (Below.refl _ _) rfl
    refine RegSteps.cons ?_ ?_
    · intro _ az wz hC hF hD _ K hK
      obtain ⟨_, q34, rfl⟩ := dep hD 10 rfl rfl rfl rfl
      obtain ⟨_, q36, rfl⟩ := dep hD 12 rfl rfl rfl rfl
      have g0 : (0 : Int) ≤ k + 1 := by omega
      have g1 : k + 1 ≤ (t.size : Int) := by omega
      clear hF hD
      refine want_none rfl ?_
      go_simp
      exact hK _ _ hC (Below.refl _ _) ⟨_, rfl, by rw [ByteArray.size_extract]; omega⟩
    refine RegSteps.cons ?_ ?_
    · intro _ az wz hC hF hD _ K hK
      obtain ⟨_, q33, x33, rfl, hx33⟩ := dep hD 9 rfl rfl rfl rfl
      obtain ⟨_, q37, x37, rfl, hx37⟩ := dep hD 13 rfl rfl rfl rfl
      have hsum : x33.size + x37.size ≤ 1000 := by omega
      have hs2 : ¬ 9223372036854775807 < x33.size + x37.size := by omega
      clear hF hD
      refine want_none rfl ?_
      go_simp
      exact hK _ _ hC (Below.refl _ _) ⟨_, rfl, by rw [ByteArray.size_append]; omega⟩
    refine RegSteps.cons ?_ ?_
    · intro _ az wz hC hF hD _ K hK
      have q9 : az.tmps[9]? = some (.string t) := hF 9 rfl
      clear hF hD
      refine want_none rfl ?_
      go_simp
      exact hK _ _ hC (Below.refl _ _) rfl
    refine RegSteps.cons ?_ ?_
    · intro _ az wz hC hF hD _ K hK
      have q10 : az.tmps[10]? = some (.int .i64 k) := hF 10 rfl
      clear hF hD
      refine want_none rfl ?_
      go_simp
      exact hK _ _ hC (Below.refl _ _) rfl
    refine RegSteps.cons ?_ ?_
    · intro _ az wz hC hF hD _ K hK
      obtain ⟨_, q39, rfl⟩ := dep hD 15 rfl rfl rfl rfl
      obtain ⟨_, q40, rfl⟩ := dep hD 16 rfl rfl rfl rfl
      have g0 : (0 : Int) ≤ k := hk0
      have g1 : k ≤ (t.size : Int) := by omega
      clear hF hD
      refine want_none rfl ?_
      go_simp
      exact hK _ _ hC (Below.refl _ _) ⟨_, rfl, by rw [ByteArray.size_extract]; omega⟩
    refine RegSteps.cons ?_ ?_
    · intro _ az wz hC hF hD _ K hK
      have q9 : az.tmps[9]? = some (.string t) := hF 9 rfl
      clear hF hD
      refine want_none rfl ?_
      go_simp
      exact hK _ _ hC (Below.refl _ _) rfl
    refine RegSteps.cons ?_ ?_
    · intro _ az wz hC hF hD _ K hK
      have q9 : az.tmps[9]? = some (.string t) := hF 9 rfl
      clear hF hD
      refine want_none rfl ?_
      go_simp
      exact hK _ _ hC (Below.refl _ _) rfl
    refine RegSteps.cons ?_ ?_
    · intro _ az wz hC hF hD _ K hK
      obtain ⟨_, q42, rfl⟩ := dep hD 18 rfl rfl rfl rfl
      obtain ⟨_, q43, rfl⟩ := dep hD 19 rfl rfl rfl rfl
      have hs2 : ¬ 9223372036854775807 < t.size + t.size := by omega
      clear hF hD
      refine want_none rfl ?_
      go_simp
      exact hK _ _ hC (Below.refl _ _) ⟨_, rfl, by rw [ByteArray.size_append]; omega⟩
    refine RegSteps.cons ?_ ?_
    · intro _ az wz hC hF hD _ K hK
      obtain ⟨_, q25, x25, rfl, hx25⟩ := dep hD 1 rfl rfl rfl rfl
      obtain ⟨_, q26, rfl⟩ := dep hD 2 rfl rfl rfl rfl
      obtain ⟨_, q38, x38, rfl, hx38⟩ := dep hD 14 rfl rfl rfl rfl
      obtain ⟨_, q41, x41, rfl, hx41⟩ := dep hD 17 rfl rfl rfl rfl
      obtain ⟨_, q44, x44, rfl, hx44⟩ := dep hD 20 rfl rfl rfl rfl
      clear hF hD
      refine want_none rfl ?_
      go_simp
      exact hK _ _ (Below.alloc hC hC.size _) (below_new _ _) ⟨_, rfl, S5.mk (by omega) (by omega) (by omega) (by omega) (by omega)⟩
    refine RegSteps.cons ?_ ?_
    · intro _ az wz hC hF hD _ K hK
      obtain ⟨_, q45, x45, rfl, hx45⟩ := dep hD 21 rfl rfl rfl rfl
      clear hF hD
      refine want_none rfl ?_
      go_simp
      exact hK _ _ hC (Below.refl _ _) ⟨x45, rfl, hx45⟩
    exact RegSteps.nil
  intro w6 hC6
  rintro _ rfl _ ⟨y25, rfl, _⟩ _ rfl _ rfl _ rfl _ ⟨y29, rfl, _⟩ _ rfl _ ⟨y31, rfl, _⟩ _ ⟨y32, rfl, _⟩ _ ⟨y33, rfl, _⟩ _ rfl _ rfl _ rfl _ ⟨y37, rfl, _⟩ _ ⟨y38, rfl, _⟩ _ rfl _ rfl _ ⟨y41, rfl, _⟩ _ rfl _ rfl _ ⟨y44, rfl, _⟩ _ ⟨y45, rfl, _⟩ _ ⟨y11, rfl, hy11⟩
  simp only [FinOK, Act.put, List.setIfInBounds_toArray, List.set_cons_zero, List.set_cons_succ]
  replace b1 := Below.call b1 hC6
  clear hC6
  go_wp2_with fail
  go_loopw [12] (fun s wr => ∃ i : Nat, i ≤ 5 ∧ s = .int .i64 (i : Int) ∧ Below w6.heap.size w6 wr) (fun s _ => 5 - (intOf s).toNat)
  case atStart => exact ⟨0, by omega, rfl, Below.refl _ _⟩
  case round =>
    obtain ⟨i, hi, rfl, hbr⟩ := hrel
    replace hy11 := hy11.on hbr
    rcases Nat.lt_or_eq_of_le hi with h3 | h3
    · obtain ⟨st, hcell, hsz, hlt⟩ := hy11 i h3
      obtain ⟨L, hL⟩ : ∃ L, st.data.toList = L := ⟨_, rfl⟩
      obtain ⟨z, er, hnum⟩ : ∃ z er, Txt.num top L = (z, er) := ⟨_, _, rfl⟩
      have HW := Lib.hid (show ∀ w, Calls Tryz.prog 32 #[.string st] w (IntE w z er) from fun w => by
        have := wParse_any st (by omega) w
        rwa [hL, hnum] at this)
      have HR := Lib.hid (show ∀ w, Calls Tryz.prog 33 #[.string st] w (RetNE w z er) from fun w => by
        have := rParse_any st (by omega) w
        rwa [hL, ← top_two_ 16384 (by rw [topW_eq]), hnum] at this)
      have hcases : (er = 0 ∧ Lib.itoa z = L) ∨ er = 2 ∨ er = 4 := by
        have h1 := Txt.num_err top L
        rw [hnum] at h1
        rcases h1 with h1 | h1 | h1
        · exact .inl ⟨h1, by have := Txt.itoa_num (T := top) (l := L) (by rw [hnum]; exact h1); rwa [hnum] at this⟩
        · exact .inr (.inl h1.1)
        · exact .inr (.inr h1.1)
      have HL := Lib.hid hL
      clear hL hnum
      have n0 : ∀ v, Below wr.heap.size wr v → v.cell? ⟨y11, i, none⟩ = some (.string st) := fun v hv => (hv.cell (p := ⟨y11, i, none⟩) hlt).trans hcell
      have hW := Below.refl wr.heap.size wr
      have i0 : (0 : Int) ≤ (i : Int) := by omega
      have i3 : (i : Int) < 5 := by omega
      go_wp2_with fail
      refine (HW.out _).mono ?_
      rintro e w7 ⟨x, rfl, k1, hx⟩
      clear n0 hW
      go_upto_region 8 with fail
      refine wp_new1 fun w8 hX k2 => ?_
      have kk := Below.call k1 k2
      replace hx := hx.on k2
      replace hcell := (kk.cell (p := ⟨y11, i, none⟩) hlt).trans hcell
      replace hlt := Nat.lt_of_lt_of_le hlt kk.size
      replace hbr := Below.call hbr kk
      clear k1 k2 kk hy11
      have n0 : ∀ v, Below w8.heap.size w8 v → v.cell? ⟨y11, i, none⟩ = some (.string st) := fun v hv => (hv.cell (p := ⟨y11, i, none⟩) hlt).trans hcell
      have hW := Below.refl w8.heap.size w8
      go_wp2_with fail
      refine (HR.out _).mono ?_
      rintro e w9 ⟨n, rfl, k1, hn⟩
      clear n0 hW
      go_upto_region 9 with fail
      refine wp_new1 fun w10 hN k2 => ?_
      have kk := Below.call k1 k2
      replace hn := hn.on k2
      replace hx := hx.on kk
      replace hX := hX.on kk
      replace hcell := (kk.cell (p := ⟨y11, i, none⟩) hlt).trans hcell
      replace hlt := Nat.lt_of_lt_of_le hlt kk.size
      replace hbr := Below.call hbr kk
      have ht := ht0.on (Below.call b1 hbr)
      clear k1 k2 kk
      rcases hcases with ⟨rfl, hit⟩ | rfl | rfl
      · have HSt := Lib.hid (show ∀ w : World, x.is w z → Tab w → Calls Tryz.prog 35 #[.agg #[.bool x.neg, .slice x.A x.n x.c]] w (fun e w' => e = .returned (.string st) ∧ Below w.heap.size w w') from fun _ h t => by
          rw [str_eq (HL.out.trans hit.symm)]; exact string_iv h t)
        clear hit
        refine wp_region_specs w10 [Spec.eq (.int .i64 0), Spec.eq (.int .i64 0), Spec.eq (.bool false), Spec.eq (.bool false), Spec.eq (.agg #[.bool x.neg, .slice x.A x.n x.c]), Spec.eq (.agg #[.bool n.neg, .slice n.A n.n n.c]), Spec.eq (.bool true), Spec.eq (.bool false), Spec.eq (.bool false), Spec.eq (.bool false), Spec.eq (.int .i64 0), Spec.eq (.bool true), Spec.eq (.bool true), Spec.eq (.agg #[.bool x.neg, .slice x.A x.n x.c]), Spec.eq (.string st), Spec.eq (.slice (some ⟨y11, 0, none⟩) 5 5), Spec.eq (.int .i64 (i : Int)), Spec.eq (.pointer (some ⟨y11, i, none⟩)), Spec.eq (.string st), Spec.eq (.bool false), Spec.eq (.bool false), Spec.eq (.bool false)]
            (by kernel_rfl) (by kernel_rfl) rfl (by kernel_rfl) (Below.drew (Below.refl _ _)) ?_ ?_
        ·
          refine RegSteps.cons ?_ ?_
          · intro _ az wz hC hF hD _ K hK
            have q14 : az.tmps[14]? = some (.int .i64 0) := hF 14 rfl
            clear hF hD
            refine want_none rfl ?_
            go_simp
            exact hK _ _ hC (Below.refl _ _) rfl
          refine RegSteps.cons ?_ ?_
          · intro _ az wz hC hF hD _ K hK
            have q16 : az.tmps[16]? = some (.int .i64 0) := hF 16 rfl
            clear hF hD
            refine want_none rfl ?_
            go_simp
            exact hK _ _ hC (Below.refl _ _) rfl
          refine RegSteps.cons ?_ ?_
          · intro _ az wz hC hF hD _ K hK
            obtain ⟨_, q68, rfl⟩ := dep hD 0 rfl rfl rfl rfl
            obtain ⟨_, q69, rfl⟩ := dep hD 1 rfl rfl rfl rfl
            clear hF hD
            refine want_none rfl ?_
            go_simp
            exact hK _ _ hC (Below.refl _ _) rfl
          refine RegSteps.cons ?_ ?_
          · intro _ az wz hC hF hD _ K hK
            obtain ⟨_, q70, rfl⟩ := dep hD 2 rfl rfl rfl rfl
            clear hF hD
            refine want_none rfl ?_
            go_simp
            exact hK _ _ hC (Below.refl _ _) rfl
          refine RegSteps.cons ?_ ?_
          · intro _ az wz hC hF hD _ K hK
            have q13 : az.tmps[13]? = some (.pointer (some ⟨w7.heap.size, 0, none⟩)) := hF 13 rfl
            obtain ⟨_, qg, rfl⟩ := dep hD 3 rfl rfl rfl rfl
            obtain ⟨l0, l1, _⟩ := (hX.on hC).all2
            clear hF hD
            refine want_yes rfl rfl rfl qg ?_
            go_simp
            exact hK _ _ hC (Below.refl _ _) rfl
          refine RegSteps.cons ?_ ?_
          · intro _ az wz hC hF hD _ K hK
            have q15 : az.tmps[15]? = some (.pointer (some ⟨w9.heap.size, 0, none⟩)) := hF 15 rfl
            obtain ⟨_, qg, rfl⟩ := dep hD 3 rfl rfl rfl rfl
            obtain ⟨l0, l1, _⟩ := (hN.on hC).all2
            clear hF hD
            refine want_yes rfl rfl rfl qg ?_
            go_simp
            exact hK _ _ hC (Below.refl _ _) rfl
          refine RegSteps.cons ?_ ?_
          · intro _ az wz hC hF hD _ K hK
            obtain ⟨_, q72, rfl⟩ := dep hD 4 rfl rfl rfl rfl
            obtain ⟨_, q73, rfl⟩ := dep hD 5 rfl rfl rfl rfl
            obtain ⟨_, qg, rfl⟩ := dep hD 3 rfl rfl rfl rfl
            clear hF hD
            refine want_yes rfl rfl rfl qg ?_
            go_simp
            refine (equal_same (hx.on hC) (hn.on hC) (ht.on hC)).mono ?_
            rintro e wy ⟨rfl, k⟩
            exact hK _ _ (Below.call hC k) k rfl
          refine RegSteps.cons ?_ ?_
          · intro _ az wz hC hF hD _ K hK
            obtain ⟨_, q74, rfl⟩ := dep hD 6 rfl rfl rfl rfl
            obtain ⟨_, qg, rfl⟩ := dep hD 3 rfl rfl rfl rfl
            clear hF hD
            refine want_yes rfl rfl rfl qg ?_
            go_simp
            exact hK _ _ hC (Below.refl _ _) rfl
          refine RegSteps.cons ?_ ?_
          · intro _ az wz hC hF hD _ K hK
            obtain ⟨_, q71, rfl⟩ := dep hD 3 rfl rfl rfl rfl
            obtain ⟨_, q75, rfl⟩ := dep hD 7 rfl rfl rfl rfl
            clear hF hD
            refine want_none rfl ?_
            go_simp
            exact hK _ _ hC (Below.refl _ _) rfl
          refine RegSteps.cons ?_ ?_
          · intro _ az wz hC hF hD _ K hK
            obtain ⟨_, q76, rfl⟩ := dep hD 8 rfl rfl rfl rfl
            clear hF hD
            refine want_none rfl ?_
            go_simp
            exact hK _ _ hC (Below.refl _ _) rfl
          refine RegSteps.cons ?_ ?_
          · intro _ az wz hC hF hD _ K hK
            have q14 : az.tmps[14]? = some (.int .i64 0) := hF 14 rfl
            obtain ⟨_, qg, rfl⟩ := dep hD 9 rfl rfl rfl rfl
            clear hF hD
            refine want_yes rfl rfl rfl qg ?_
            go_simp
            exact hK _ _ hC (Below.refl _ _) rfl
          refine RegSteps.cons ?_ ?_
          · intro _ az wz hC hF hD _ K hK
            obtain ⟨_, q78, rfl⟩ := dep hD 10 rfl rfl rfl rfl
            obtain ⟨_, qg, rfl⟩ := dep hD 9 rfl rfl rfl rfl
            clear hF hD
            refine want_yes rfl rfl rfl qg ?_
            go_simp
            exact hK _ _ hC (Below.refl _ _) rfl
          refine RegSteps.cons ?_ ?_
          · intro _ az wz hC hF hD _ K hK
            obtain ⟨_, q79, rfl⟩ := dep hD 11 rfl rfl rfl rfl
            obtain ⟨_, qg, rfl⟩ := dep hD 9 rfl rfl rfl rfl
            clear hF hD
            refine want_yes rfl rfl rfl qg ?_
            go_simp
            exact hK _ _ hC (Below.refl _ _) rfl
          refine RegSteps.cons ?_ ?_
          · intro _ az wz hC hF hD _ K hK
            have q13 : az.tmps[13]? = some (.pointer (some ⟨w7.heap.size, 0, none⟩)) := hF 13 rfl
            obtain ⟨_, qg, rfl⟩ := dep hD 12 rfl rfl rfl rfl
            obtain ⟨l0, l1, _⟩ := (hX.on hC).all2
            clear hF hD
            refine want_yes rfl rfl rfl qg ?_
            go_simp
            exact hK _ _ hC (Below.refl _ _) rfl
          refine RegSteps.cons ?_ ?_
          · intro _ az wz hC hF hD _ K hK
            obtain ⟨_, q81, rfl⟩ := dep hD 13 rfl rfl rfl rfl
            obtain ⟨_, qg, rfl⟩ := dep hD 12 rfl rfl rfl rfl
            clear hF hD
            refine want_yes rfl rfl rfl qg ?_
            go_simp
            refine (HSt.out _ (hx.on hC) (ht.on hC)).mono ?_
            rintro e wy ⟨rfl, k⟩
            exact hK _ _ (Below.call hC k) k rfl
          refine RegSteps.cons ?_ ?_
          · intro _ az wz hC hF hD _ K hK
            have q11 : az.tmps[11]? = some (.slice (some ⟨y11, 0, none⟩) 5 5) := hF 11 rfl
            obtain ⟨_, qg, rfl⟩ := dep hD 12 rfl rfl rfl rfl
            clear hF hD
            refine want_yes rfl rfl rfl qg ?_
            go_simp
            exact hK _ _ hC (Below.refl _ _) rfl
          refine RegSteps.cons ?_ ?_
          · intro _ az wz hC hF hD _ K hK
            have q12 : az.tmps[12]? = some (.int .i64 (i : Int)) := hF 12 rfl
            obtain ⟨_, qg, rfl⟩ := dep hD 12 rfl rfl rfl rfl
            clear hF hD
            refine want_yes rfl rfl rfl qg ?_
            go_simp
            exact hK _ _ hC (Below.refl _ _) rfl
          refine RegSteps.cons ?_ ?_
          · intro _ az wz hC hF hD _ K hK
            obtain ⟨_, q83, rfl⟩ := dep hD 15 rfl rfl rfl rfl
            obtain ⟨_, q84, rfl⟩ := dep hD 16 rfl rfl rfl rfl
            obtain ⟨_, qg, rfl⟩ := dep hD 12 rfl rfl rfl rfl
            clear hF hD
            refine want_yes rfl rfl rfl qg ?_
            go_simp
            exact hK _ _ hC (Below.refl _ _) rfl
          refine RegSteps.cons ?_ ?_
          · intro _ az wz hC hF hD _ K hK
            obtain ⟨_, q85, rfl⟩ := dep hD 17 rfl rfl rfl rfl
            obtain ⟨_, qg, rfl⟩ := dep hD 12 rfl rfl rfl rfl
            have l0 := (hC.cell (p := ⟨y11, i, none⟩) hlt).trans hcell
            clear hF hD
            refine want_yes rfl rfl rfl qg ?_
            go_simp
            exact hK _ _ hC (Below.refl _ _) rfl
          refine RegSteps.cons ?_ ?_
          · intro _ az wz hC hF hD _ K hK
            obtain ⟨_, q82, rfl⟩ := dep hD 14 rfl rfl rfl rfl
            obtain ⟨_, q86, rfl⟩ := dep hD 18 rfl rfl rfl rfl
            obtain ⟨_, qg, rfl⟩ := dep hD 12 rfl rfl rfl rfl
            clear hF hD
            refine want_yes rfl rfl rfl qg ?_
            go_simp
            exact hK _ _ hC (Below.refl _ _) rfl
          refine RegSteps.cons ?_ ?_
          · intro _ az wz hC hF hD _ K hK
            obtain ⟨_, q80, rfl⟩ := dep hD 12 rfl rfl rfl rfl
            obtain ⟨_, q87, rfl⟩ := dep hD 19 rfl rfl rfl rfl
            obtain ⟨_, qg, rfl⟩ := dep hD 9 rfl rfl rfl rfl
            clear hF hD
            refine want_yes rfl rfl rfl qg ?_
            go_simp
            exact hK _ _ hC (Below.refl _ _) rfl
          refine RegSteps.cons ?_ ?_
          · intro _ az wz hC hF hD _ K hK
            obtain ⟨_, q77, rfl⟩ := dep hD 9 rfl rfl rfl rfl
            obtain ⟨_, q88, rfl⟩ := dep hD 20 rfl rfl rfl rfl
            clear hF hD
            refine want_none rfl ?_
            go_simp
            exact hK _ _ hC (Below.refl _ _) rfl
          exact RegSteps.nil
        intro w11 hC11
        rintro _ rfl _ rfl _ rfl _ rfl _ rfl _ rfl _ rfl _ rfl _ rfl _ rfl _ rfl _ rfl _ rfl _ rfl _ rfl _ rfl _ rfl _ rfl _ rfl _ rfl _ rfl _ rfl
        simp only [FinOK, Act.put, List.setIfInBounds_toArray, List.set_cons_zero, List.set_cons_succ]
        have hb9 := Below.call hbr hC11
        go_wp2_with fail
        go_roundw
        case rel => exact ⟨i + 1, by omega, by go_num, hb9⟩
        case measure => simp [intOf]; omega
      ·
        refine wp_region_specs w10 [Spec.eq (.int .i64 2), Spec.eq (.int .i64 2), Spec.eq (.bool false), Spec.eq (.bool false), Spec.eq (.agg #[.bool x.neg, .slice x.A x.n x.c]), Spec.eq (.agg #[.bool n.neg, .slice n.A n.n n.c]), Spec.eq (.bool true), Spec.eq (.bool false), Spec.eq (.bool false), Spec.eq (.bool false), Spec.eq (.int .i64 2), Spec.eq (.bool false), Spec.eq (.bool false), Spec.eq undef, Spec.eq undef, Spec.eq undef, Spec.eq undef, Spec.eq undef, Spec.eq undef, Spec.eq undef, Spec.eq (.bool false), Spec.eq (.bool false)]
            (by kernel_rfl) (by kernel_rfl) rfl (by kernel_rfl) (Below.drew (Below.refl _ _)) ?_ ?_
        ·
          refine RegSteps.cons ?_ ?_
          · intro _ az wz hC hF hD _ K hK
            have q14 : az.tmps[14]? = some (.int .i64 2) := hF 14 rfl
            clear hF hD
            refine want_none rfl ?_
            go_simp
            exact hK _ _ hC (Below.refl _ _) rfl
          refine RegSteps.cons ?_ ?_
          · intro _ az wz hC hF hD _ K hK
            have q16 : az.tmps[16]? = some (.int .i64 2) := hF 16 rfl
            clear hF hD
            refine want_none rfl ?_
            go_simp
            exact hK _ _ hC (Below.refl _ _) rfl
          refine RegSteps.cons ?_ ?_
          · intro _ az wz hC hF hD _ K hK
            obtain ⟨_, q68, rfl⟩ := dep hD 0 rfl rfl rfl rfl
            obtain ⟨_, q69, rfl⟩ := dep hD 1 rfl rfl rfl rfl
            clear hF hD
            refine want_none rfl ?_
            go_simp
            exact hK _ _ hC (Below.refl _ _) rfl
          refine RegSteps.cons ?_ ?_
          · intro _ az wz hC hF hD _ K hK
            obtain ⟨_, q70, rfl⟩ := dep hD 2 rfl rfl rfl rfl
            clear hF hD
            refine want_none rfl ?_
            go_simp
            exact hK _ _ hC (Below.refl _ _) rfl
          refine RegSteps.cons ?_ ?_
          · intro _ az wz hC hF hD _ K hK
            have q13 : az.tmps[13]? = some (.pointer (some ⟨w7.heap.size, 0, none⟩)) := hF 13 rfl
            obtain ⟨_, qg, rfl⟩ := dep hD 3 rfl rfl rfl rfl
            obtain ⟨l0, l1, _⟩ := (hX.on hC).all2
            clear hF hD
            refine want_yes rfl rfl rfl qg ?_
            go_simp
            exact hK _ _ hC (Below.refl _ _) rfl
          refine RegSteps.cons ?_ ?_
          · intro _ az wz hC hF hD _ K hK
            have q15 : az.tmps[15]? = some (.pointer (some ⟨w9.heap.size, 0, none⟩)) := hF 15 rfl
            obtain ⟨_, qg, rfl⟩ := dep hD 3 rfl rfl rfl rfl
            obtain ⟨l0, l1, _⟩ := (hN.on hC).all2
            clear hF hD
            refine want_yes rfl rfl rfl qg ?_
            go_simp
            exact hK _ _ hC (Below.refl _ _) rfl
          refine RegSteps.cons ?_ ?_
          · intro _ az wz hC hF hD _ K hK
            obtain ⟨_, q72, rfl⟩ := dep hD 4 rfl rfl rfl rfl
            obtain ⟨_, q73, rfl⟩ := dep hD 5 rfl rfl rfl rfl
            obtain ⟨_, qg, rfl⟩ := dep hD 3 rfl rfl rfl rfl
            clear hF hD
            refine want_yes rfl rfl rfl qg ?_
            go_simp
            refine (equal_same (hx.on hC) (hn.on hC) (ht.on hC)).mono ?_
            rintro e wy ⟨rfl, k⟩
            exact hK _ _ (Below.call hC k) k rfl
          refine RegSteps.cons ?_ ?_
          · intro _ az wz hC hF hD _ K hK
            obtain ⟨_, q74, rfl⟩ := dep hD 6 rfl rfl rfl rfl
            obtain ⟨_, qg, rfl⟩ := dep hD 3 rfl rfl rfl rfl
            clear hF hD
            refine want_yes rfl rfl rfl qg ?_
            go_simp
            exact hK _ _ hC (Below.refl _ _) rfl
          refine RegSteps.cons ?_ ?_
          · intro _ az wz hC hF hD _ K hK
            obtain ⟨_, q71, rfl⟩ := dep hD 3 rfl rfl rfl rfl
            obtain ⟨_, q75, rfl⟩ := dep hD 7 rfl rfl rfl rfl
            clear hF hD
            refine want_none rfl ?_
            go_simp
            exact hK _ _ hC (Below.refl _ _) rfl
          refine RegSteps.cons ?_ ?_
          · intro _ az wz hC hF hD _ K hK
            obtain ⟨_, q76, rfl⟩ := dep hD 8 rfl rfl rfl rfl
            clear hF hD
            refine want_none rfl ?_
            go_simp
            exact hK _ _ hC (Below.refl _ _) rfl
          refine RegSteps.cons ?_ ?_
          · intro _ az wz hC hF hD _ K hK
            have q14 : az.tmps[14]? = some (.int .i64 2) := hF 14 rfl
            obtain ⟨_, qg, rfl⟩ := dep hD 9 rfl rfl rfl rfl
            clear hF hD
            refine want_yes rfl rfl rfl qg ?_
            go_simp
            exact hK _ _ hC (Below.refl _ _) rfl
          refine RegSteps.cons ?_ ?_
          · intro _ az wz hC hF hD _ K hK
            obtain ⟨_, q78, rfl⟩ := dep hD 10 rfl rfl rfl rfl
            obtain ⟨_, qg, rfl⟩ := dep hD 9 rfl rfl rfl rfl
            clear hF hD
            refine want_yes rfl rfl rfl qg ?_
            go_simp
            exact hK _ _ hC (Below.refl _ _) rfl
          refine RegSteps.cons ?_ ?_
          · intro _ az wz hC hF hD _ K hK
            obtain ⟨_, q79, rfl⟩ := dep hD 11 rfl rfl rfl rfl
            obtain ⟨_, qg, rfl⟩ := dep hD 9 rfl rfl rfl rfl
            clear hF hD
            refine want_yes rfl rfl rfl qg ?_
            go_simp
            exact hK _ _ hC (Below.refl _ _) rfl
          refine RegSteps.cons ?_ ?_
          · exact fun _ => step_no (c := false) rfl rfl rfl rfl rfl (fun _ _ h => h) rfl (fun _ => rfl)
          refine RegSteps.cons ?_ ?_
          · exact fun _ => step_no (c := false) rfl rfl rfl rfl rfl (fun _ _ h => h) rfl (fun _ => rfl)
          refine RegSteps.cons ?_ ?_
          · exact fun _ => step_no (c := false) rfl rfl rfl rfl rfl (fun _ _ h => h) rfl (fun _ => rfl)
          refine RegSteps.cons ?_ ?_
          · exact fun _ => step_no (c := false) rfl rfl rfl rfl rfl (fun _ _ h => h) rfl (fun _ => rfl)
          refine RegSteps.cons ?_ ?_
          · exact fun _ => step_no (c := false) rfl rfl rfl rfl rfl (fun _ _ h => h) rfl (fun _ => rfl)
          refine RegSteps.cons ?_ ?_
          · exact fun _ => step_no (c := false) rfl rfl rfl rfl rfl (fun _ _ h => h) rfl (fun _ => rfl)
          refine RegSteps.cons ?_ ?_
          · exact fun _ => step_no (c := false) rfl rfl rfl rfl rfl (fun _ _ h => h) rfl (fun _ => rfl)
          refine RegSteps.cons ?_ ?_
          · intro _ az wz hC hF hD _ K hK
            obtain ⟨_, q80, rfl⟩ := dep hD 12 rfl rfl rfl rfl
            obtain ⟨_, q87, rfl⟩ := dep hD 19 rfl rfl rfl rfl
            obtain ⟨_, qg, rfl⟩ := dep hD 9 rfl rfl rfl rfl
            clear hF hD
            refine want_yes rfl rfl rfl qg ?_
            go_simp
            exact hK _ _ hC (Below.refl _ _) rfl
          refine RegSteps.cons ?_ ?_
          · intro _ az wz hC hF hD _ K hK
            obtain ⟨_, q77, rfl⟩ := dep hD 9 rfl rfl rfl rfl
            obtain ⟨_, q88, rfl⟩ := dep hD 20 rfl rfl rfl rfl
            clear hF hD
            refine want_none rfl ?_
            go_simp
            exact hK _ _ hC (Below.refl _ _) rfl
          exact RegSteps.nil
        intro w11 hC11
        rintro _ rfl _ rfl _ rfl _ rfl _ rfl _ rfl _ rfl _ rfl _ rfl _ rfl _ rfl _ rfl _ rfl _ rfl _ rfl _ rfl _ rfl _ rfl _ rfl _ rfl _ rfl _ rfl
        simp only [FinOK, Act.put, List.setIfInBounds_toArray, List.set_cons_zero, List.set_cons_succ]
        have hb9 := Below.call hbr hC11
        go_wp2_with fail
        go_roundw
        case rel => exact ⟨i + 1, by omega, by go_num, hb9⟩
        case measure => simp [intOf]; omega
      ·
        refine wp_region_specs w10 [Spec.eq (.int .i64 4), Spec.eq (.int .i64 4), Spec.eq (.bool false), Spec.eq (.bool false), Spec.eq (.agg #[.bool x.neg, .slice x.A x.n x.c]), Spec.eq (.agg #[.bool n.neg, .slice n.A n.n n.c]), Spec.eq (.bool true), Spec.eq (.bool false), Spec.eq (.bool false), Spec.eq (.bool false), Spec.eq (.int .i64 4), Spec.eq (.bool false), Spec.eq (.bool false), Spec.eq undef, Spec.eq undef, Spec.eq undef, Spec.eq undef, Spec.eq undef, Spec.eq undef, Spec.eq undef, Spec.eq (.bool false), Spec.eq (.bool false)]
            (by kernel_rfl) (by kernel_rfl) rfl (by kernel_rfl) (Below.drew (Below.refl _ _)) ?_ ?_
        ·
          refine RegSteps.cons ?_ ?_
          · intro _ az wz hC hF hD _ K hK
            have q14 : az.tmps[14]? = some (.int .i64 4) := hF 14 rfl
            clear hF hD
            refine want_none rfl ?_
            go_simp
            exact hK _ _ hC (Below.refl _ _) rfl
          refine RegSteps.cons ?_ ?_
          · intro _ az wz hC hF hD _ K hK
            have q16 : az.tmps[16]? = some (.int .i64 4) := hF 16 rfl
            clear hF hD
            refine want_none rfl ?_
            go_simp
            exact hK _ _ hC (Below.refl _ _) rfl
          refine RegSteps.cons ?_ ?_
          · intro _ az wz hC hF hD _ K hK
            obtain ⟨_, q68, rfl⟩ := dep hD 0 rfl rfl rfl rfl
            obtain ⟨_, q69, rfl⟩ := dep hD 1 rfl rfl rfl rfl
            clear hF hD
            refine want_none rfl ?_
            go_simp
            exact hK _ _ hC (Below.refl _ _) rfl
          refine RegSteps.cons ?_ ?_
          · intro _ az wz hC hF hD _ K hK
            obtain ⟨_, q70, rfl⟩ := dep hD 2 rfl rfl rfl rfl
            clear hF hD
            refine want_none rfl ?_
            go_simp
            exact hK _ _ hC (Below.refl _ _) rfl
          refine RegSteps.cons ?_ ?_
          · intro _ az wz hC hF hD _ K hK
            have q13 : az.tmps[13]? = some (.pointer (some ⟨w7.heap.size, 0, none⟩)) := hF 13 rfl
            obtain ⟨_, qg, rfl⟩ := dep hD 3 rfl rfl rfl rfl
            obtain ⟨l0, l1, _⟩ := (hX.on hC).all2
            clear hF hD
            refine want_yes rfl rfl rfl qg ?_
            go_simp
            exact hK _ _ hC (Below.refl _ _) rfl
          refine RegSteps.cons ?_ ?_
          · intro _ az wz hC hF hD _ K hK
            have q15 : az.tmps[15]? = some (.pointer (some ⟨w9.heap.size, 0, none⟩)) := hF 15 rfl
            obtain ⟨_, qg, rfl⟩ := dep hD 3 rfl rfl rfl rfl
            obtain ⟨l0, l1, _⟩ := (hN.on hC).all2
            clear hF hD
            refine want_yes rfl rfl rfl qg ?_
            go_simp
            exact hK _ _ hC (Below.refl _ _) rfl
          refine RegSteps.cons ?_ ?_
          · intro _ az wz hC hF hD _ K hK
            obtain ⟨_, q72, rfl⟩ := dep hD 4 rfl rfl rfl rfl
            obtain ⟨_, q73, rfl⟩ := dep hD 5 rfl rfl rfl rfl
            obtain ⟨_, qg, rfl⟩ := dep hD 3 rfl rfl rfl rfl
            clear hF hD
            refine want_yes rfl rfl rfl qg ?_
            go_simp
            refine (equal_same (hx.on hC) (hn.on hC) (ht.on hC)).mono ?_
            rintro e wy ⟨rfl, k⟩
            exact hK _ _ (Below.call hC k) k rfl
          refine RegSteps.cons ?_ ?_
          · intro _ az wz hC hF hD _ K hK
            obtain ⟨_, q74, rfl⟩ := dep hD 6 rfl rfl rfl rfl
            obtain ⟨_, qg, rfl⟩ := dep hD 3 rfl rfl rfl rfl
            clear hF hD
            refine want_yes rfl rfl rfl qg ?_
            go_simp
            exact hK _ _ hC (Below.refl _ _) rfl
          refine RegSteps.cons ?_ ?_
          · intro _ az wz hC hF hD _ K hK
            obtain ⟨_, q71, rfl⟩ := dep hD 3 rfl rfl rfl rfl
            obtain ⟨_, q75, rfl⟩ := dep hD 7 rfl rfl rfl rfl
            clear hF hD
            refine want_none rfl ?_
            go_simp
            exact hK _ _ hC (Below.refl _ _) rfl
          refine RegSteps.cons ?_ ?_
          · intro _ az wz hC hF hD _ K hK
            obtain ⟨_, q76, rfl⟩ := dep hD 8 rfl rfl rfl rfl
            clear hF hD
            refine want_none rfl ?_
            go_simp
            exact hK _ _ hC (Below.refl _ _) rfl
          refine RegSteps.cons ?_ ?_
          · intro _ az wz hC hF hD _ K hK
            have q14 : az.tmps[14]? = some (.int .i64 4) := hF 14 rfl
            obtain ⟨_, qg, rfl⟩ := dep hD 9 rfl rfl rfl rfl
            clear hF hD
            refine want_yes rfl rfl rfl qg ?_
            go_simp
            exact hK _ _ hC (Below.refl _ _) rfl
          refine RegSteps.cons ?_ ?_
          · intro _ az wz hC hF hD _ K hK
            obtain ⟨_, q78, rfl⟩ := dep hD 10 rfl rfl rfl rfl
            obtain ⟨_, qg, rfl⟩ := dep hD 9 rfl rfl rfl rfl
            clear hF hD
            refine want_yes rfl rfl rfl qg ?_
            go_simp
            exact hK _ _ hC (Below.refl _ _) rfl
          refine RegSteps.cons ?_ ?_
          · intro _ az wz hC hF hD _ K hK
            obtain ⟨_, q79, rfl⟩ := dep hD 11 rfl rfl rfl rfl
            obtain ⟨_, qg, rfl⟩ := dep hD 9 rfl rfl rfl rfl
            clear hF hD
            refine want_yes rfl rfl rfl qg ?_
            go_simp
            exact hK _ _ hC (Below.refl _ _) rfl
          refine RegSteps.cons ?_ ?_
          · exact fun _ => step_no (c := false) rfl rfl rfl rfl rfl (fun _ _ h => h) rfl (fun _ => rfl)
          refine RegSteps.cons ?_ ?_
          · exact fun _ => step_no (c := false) rfl rfl rfl rfl rfl (fun _ _ h => h) rfl (fun _ => rfl)
          refine RegSteps.cons ?_ ?_
          · exact fun _ => step_no (c := false) rfl rfl rfl rfl rfl (fun _ _ h => h) rfl (fun _ => rfl)
          refine RegSteps.cons ?_ ?_
          · exact fun _ => step_no (c := false) rfl rfl rfl rfl rfl (fun _ _ h => h) rfl (fun _ => rfl)
          refine RegSteps.cons ?_ ?_
          · exact fun _ => step_no (c := false) rfl rfl rfl rfl rfl (fun _ _ h => h) rfl (fun _ => rfl)
          refine RegSteps.cons ?_ ?_
          · exact fun _ => step_no (c := false) rfl rfl rfl rfl rfl (fun _ _ h => h) rfl (fun _ => rfl)
          refine RegSteps.cons ?_ ?_
          · exact fun _ => step_no (c := false) rfl rfl rfl rfl rfl (fun _ _ h => h) rfl (fun _ => rfl)
          refine RegSteps.cons ?_ ?_
          · intro _ az wz hC hF hD _ K hK
            obtain ⟨_, q80, rfl⟩ := dep hD 12 rfl rfl rfl rfl
            obtain ⟨_, q87, rfl⟩ := dep hD 19 rfl rfl rfl rfl
            obtain ⟨_, qg, rfl⟩ := dep hD 9 rfl rfl rfl rfl
            clear hF hD
            refine want_yes rfl rfl rfl qg ?_
            go_simp
            exact hK _ _ hC (Below.refl _ _) rfl
          refine RegSteps.cons ?_ ?_
          · intro _ az wz hC hF hD _ K hK
            obtain ⟨_, q77, rfl⟩ := dep hD 9 rfl rfl rfl rfl
            obtain ⟨_, q88, rfl⟩ := dep hD 20 rfl rfl rfl rfl
            clear hF hD
            refine want_none rfl ?_
            go_simp
            exact hK _ _ hC (Below.refl _ _) rfl
          exact RegSteps.nil
        intro w11 hC11
        rintro _ rfl _ rfl _ rfl _ rfl _ rfl _ rfl _ rfl _ rfl _ rfl _ rfl _ rfl _ rfl _ rfl _ rfl _ rfl _ rfl _ rfl _ rfl _ rfl _ rfl _ rfl _ rfl
        simp only [FinOK, Act.put, List.setIfInBounds_toArray, List.set_cons_zero, List.set_cons_succ]
        have hb9 := Below.call hbr hC11
        go_wp2_with fail
        go_roundw
        case rel => exact ⟨i + 1, by omega, by go_num, hb9⟩
        case measure => simp [intOf]; omega
    · subst h3
      have hb2 := Below.call b1 hbr
      have ht := ht0.on hb2
      go_wp2_with fail
      refine (lives3_any _ ht).mono ?_
      rintro e w8 ⟨rfl, k1⟩
      have HB := Lib.hid (Below.call hb2 k1)
      go_wp2
      go_returns
      exact ⟨rfl, HB.out⟩
end Go.Proofs.YthafhbogpfggjaaGreatDoor
