/-
  The law's helpers of chapter 03: wider, equal, lives.
-/
import Derived.Test.YthafhbogpfggjaaGreatDoorA3
import Derived.Test.YthafhbogpfggjaaGreatDoorE4
import Derived.Test.YthafhbogpfggjaaGreatDoorT2
namespace Go.Proofs.YthafhbogpfggjaaGreatDoor
open Go.RowKit Mag
open DecM

theorem top_ten : top ≤ 10 ^ 4933 := by rw [top_eq, topW_eq]; decide +kernel
theorem two_64 : (18446744073709551616 : Int).natAbs < top := by rw [top_eq, topW_eq]; decide +kernel
theorem itoa_5000 {z : Int} (h : z.natAbs < top) : (Lib.itoa z).length ≤ 5000 := by
  obtain ⟨k, hk⟩ : ∃ k, k = 4933 := ⟨_, rfl⟩
  have h1 := top_ten
  rw [← hk] at h1
  have := Txt.itoa_len (k := k) (by omega) (Nat.lt_of_lt_of_le h h1)
  omega
def RetBool (w : World) (b : Bool) (e : Ending) (w' : World) : Prop := e = .returned (.bool b) ∧ Below w.heap.size w w'
/-- An Int and whether there is one are returned. -/
def IntB (w : World) (z : Int) (b : Bool) (e : Ending) (w' : World) : Prop := ∃ r : IV, e = .returned (.tuple #[.agg #[.bool r.neg, .slice r.A r.n r.c], .bool b]) ∧ Below w.heap.size w w' ∧ r.is w' z
set_option maxRecDepth 100000 in
set_option maxHeartbeats 1600000 in
theorem wider_any {x : IV} {w : World} {z : Int} (hx : NI x w z) (hz : z.natAbs < top) : Calls Tryz.prog 41 #[.agg #[.bool x.neg, .slice x.A x.n x.c]] w (IntB w z true) := by
  have hl := itoa_5000 hz
  obtain ⟨s, hs⟩ : ∃ s : ByteArray, s = ⟨(Lib.itoa z).toArray⟩ := ⟨_, rfl⟩
  have hd : s.data.toList = Lib.itoa z := by rw [hs]
  have hss : s.size ≤ 5000 := by rw [str_size hd]; exact hl
  have hP : ∀ w, Calls Tryz.prog 32 #[.string s] w (IntE w z 0) := fun w => by
    have := wParse_any s (by omega) w
    rwa [hd, Txt.num_itoa hz hl] at this
  have hT : ∀ w, NI x w z → Calls Tryz.prog 28 #[.agg #[.bool x.neg, .slice x.A x.n x.c]] w (fun e w' => e = .returned (.string s) ∧ Below w.heap.size w w') := fun w h => by rw [hs]; exact rText_any h
  have HP := Lib.hid hP
  have HT := Lib.hid hT
  clear hP hT hs hd hl hss
  go_enter Tryz.func41, Tryz.ntmps41
  go_upto_region 1 with fail
  refine wp_new2 fun W hA hO hB => ?_
  obtain ⟨r0, r1⟩ := hA.rules2
  have hW := Below.refl W.heap.size W
  go_wp2_with fail
  refine (HT.out _ (hx.on hB)).mono ?_
  rintro e w1 ⟨rfl, k1⟩
  go_wp2_with fail
  refine (HP.out _).mono ?_
  rintro e w2 ⟨y, rfl, k2, hy⟩
  go_upto_region 2 with fail
  refine wp_new1 fun w3 hY k3 => ?_
  have k4 := Below.call (Below.call k1 k2) k3
  have hO3 := hO.on k4
  obtain ⟨y0, y1, _, _⟩ := hY.all2
  obtain ⟨z0, z1, f0, f1⟩ := hO3.all2
  have hy3 := hy.on k3
  have hF : IntB w z true (.returned (.tuple #[.agg #[.bool y.neg, .slice y.A y.n y.c], .bool true])) ((w3.setCell ⟨w.heap.size + 1, 0, none⟩ (.bool y.neg)).setCell ⟨w.heap.size + 1, 1, none⟩ (.slice y.A y.n y.c)) :=
    ⟨y, rfl, Below.put2 (Below.call hB k4) (by omega) _ _, hy3.put2 hO3 (by simp) (by simp) _ _⟩
  have HF := Lib.hid hF
  obtain ⟨q0, q1, _⟩ := (hO3.put2 (.bool y.neg) (.slice y.A y.n y.c)).all2
  clear hF hO3 hY hO hA hy hy3 hx r0 r1
  go_wp2
  exact bodyPost_ret (v := .tuple #[.agg #[.bool y.neg, .slice y.A y.n y.c], .bool true]) (by simp [results, Tryz.results41, go_sem, q0, q1]) rfl HF.out
set_option maxRecDepth 100000 in
set_option maxHeartbeats 1600000 in
theorem equal_any {x y : IV} {w : World} {a b : Int} (hx : x.is w a) (hy : NI y w b) (ht : Tab w) : Calls Tryz.prog 34 #[.agg #[.bool x.neg, .slice x.A x.n x.c], .agg #[.bool y.neg, .slice y.A y.n y.c]] w (RetBool w (decide (a = b))) := by
  obtain ⟨sa, hsa⟩ : ∃ s : ByteArray, s = ⟨(Lib.itoa a).toArray⟩ := ⟨_, rfl⟩
  obtain ⟨sb, hsb⟩ : ∃ s : ByteArray, s = ⟨(Lib.itoa b).toArray⟩ := ⟨_, rfl⟩
  have HEQ := Lib.hid (show (sa.toList == sb.toList) = decide (a = b) by
    rw [hsa, hsb, ByteArray.toList_mk, ByteArray.toList_mk]
    by_cases h : a = b
    · subst h; simp
    · rw [decide_eq_false h, beq_eq_false_iff_ne]
      exact fun e => h (Txt.itoa_inj e))
  have HSA := Lib.hid (show ∀ w : World, x.is w a → Tab w → Calls Tryz.prog 35 #[.agg #[.bool x.neg, .slice x.A x.n x.c]] w (fun e w' => e = .returned (.string sa) ∧ Below w.heap.size w w') from fun _ h t => by rw [hsa]; exact string_iv h t)
  have HSB := Lib.hid (show ∀ w : World, NI y w b → Calls Tryz.prog 28 #[.agg #[.bool y.neg, .slice y.A y.n y.c]] w (fun e w' => e = .returned (.string sb) ∧ Below w.heap.size w w') from fun _ h => by rw [hsb]; exact rText_any h)
  clear hsa hsb
  go_enter Tryz.func34, Tryz.ntmps34
  go_upto_region 1 with fail
  refine wp_new2 fun W hA hY hB => ?_
  replace hx := hx.on hB
  replace hy := hy.on hB
  replace ht := ht.on hB
  refine wp_region_specs W [Spec.eq (.agg #[.bool x.neg, .slice x.A x.n x.c]), Spec.eq (.string sa), Spec.eq (.agg #[.bool y.neg, .slice y.A y.n y.c]), Spec.eq (.string sb), Spec.eq (.bool (decide (a = b))), Spec.eq (.bool (decide (a = b)))]
      (by kernel_rfl) (by kernel_rfl) rfl (by kernel_rfl) (Below.drew (Below.refl _ _)) ?_ ?_
  ·
    refine RegSteps.cons ?_ ?_
    · intro _ az wz hC hF hD _ K hK
      have q2 : az.tmps[2]? = some (.pointer (some ⟨w.heap.size, 0, none⟩)) := hF 2 rfl
      obtain ⟨l0, l1, _⟩ := (hA.on hC).all2
      clear hF hD
      refine want_none rfl ?_
      go_simp
      exact hK _ _ hC (Below.refl _ _) rfl
    refine RegSteps.cons ?_ ?_
    · intro _ az wz hC hF hD _ K hK
      obtain ⟨_, q5, rfl⟩ := dep hD 0 rfl rfl rfl rfl
      clear hF hD
      refine want_none rfl ?_
      go_simp
      refine (HSA.out _ (hx.on hC) (ht.on hC)).mono ?_
      rintro e wy ⟨rfl, k⟩
      exact hK _ _ (Below.call hC k) k rfl
    refine RegSteps.cons ?_ ?_
    · intro _ az wz hC hF hD _ K hK
      have q3 : az.tmps[3]? = some (.pointer (some ⟨w.heap.size + 1, 0, none⟩)) := hF 3 rfl
      obtain ⟨l0, l1, _⟩ := (hY.on hC).all2
      clear hF hD
      refine want_none rfl ?_
      go_simp
      exact hK _ _ hC (Below.refl _ _) rfl
    refine RegSteps.cons ?_ ?_
    · intro _ az wz hC hF hD _ K hK
      obtain ⟨_, q7, rfl⟩ := dep hD 2 rfl rfl rfl rfl
      clear hF hD
      refine want_none rfl ?_
      go_simp
      refine (HSB.out _ (hy.on hC)).mono ?_
      rintro e wy ⟨rfl, k⟩
      exact hK _ _ (Below.call hC k) k rfl
    refine RegSteps.cons ?_ ?_
    · intro _ az wz hC hF hD _ K hK
      obtain ⟨_, q6, rfl⟩ := dep hD 1 rfl rfl rfl rfl
      obtain ⟨_, q8, rfl⟩ := dep hD 3 rfl rfl rfl rfl
      have heq : (sa.toList == sb.toList) = decide (a = b) := HEQ.out
      clear hF hD
      refine want_none rfl ?_
      go_simp
      exact hK _ _ hC (Below.refl _ _) rfl
    refine RegSteps.cons ?_ ?_
    · intro _ az wz hC hF hD _ K hK
      obtain ⟨_, q9, rfl⟩ := dep hD 4 rfl rfl rfl rfl
      clear hF hD
      refine want_none rfl ?_
      go_simp
      exact hK _ _ hC (Below.refl _ _) rfl
    exact RegSteps.nil
  intro w3 hC3
  rintro _ rfl _ rfl _ rfl _ rfl _ rfl _ rfl
  simp only [FinOK, Act.put, List.setIfInBounds_toArray, List.set_cons_zero, List.set_cons_succ]
  have HB := Lib.hid (Below.call hB hC3)
  go_wp2
  go_returns
  exact ⟨rfl, HB.out⟩
theorem dec_lit {l : List UInt8} {n : Nat} (hd : l.all isDig = true) (hn : l ≠ []) (h0 : l.head? ≠ some 48) (hv : digV l = n) : Lib.decDigits n = l := by
  rw [← hv]
  exact dec_digV l (List.all_eq_true.1 hd) hn fun e => absurd e h0
theorem itoa_m4 : Lib.itoa (-4) = [45, 52] := by
  have := itoa_neg (m := 4) (by omega)
  rw [dec_small (by omega)] at this
  exact this
theorem itoa_m3 : Lib.itoa (-3) = [45, 51] := by
  have := itoa_neg (m := 3) (by omega)
  rw [dec_small (by omega)] at this
  exact this
theorem itoa_1 : Lib.itoa 1 = [49] := by
  have := itoa_nat 1
  rw [dec_small (by omega)] at this
  exact this
theorem itoa_64 : Lib.itoa 18446744073709551616 = [49, 56, 52, 52, 54, 55, 52, 52, 48, 55, 51, 55, 48, 57, 53, 53, 49, 54, 49, 54] := by
  have := itoa_nat 18446744073709551616
  rw [dec_lit (l := [49, 56, 52, 52, 54, 55, 52, 52, 48, 55, 51, 55, 48, 57, 53, 53, 49, 54, 49, 54]) (by decide) (by decide) (by decide) (by decide)] at this
  exact this
theorem string_lit {x : IV} {a : Int} {l : List UInt8} {s : ByteArray} (h : Lib.itoa a = l) (hs : s = ⟨l.toArray⟩) : Hid (∀ w, x.is w a → Tab w → Calls Tryz.prog 35 #[.agg #[.bool x.neg, .slice x.A x.n x.c]] w (fun e w' => e = .returned (.string s) ∧ Below w.heap.size w w')) :=
  Lib.hid fun w hx ht => by rw [hs, ← h]; exact string_iv hx ht
set_option maxRecDepth 100000 in
set_option maxHeartbeats 3200000 in
theorem lives3_any (w : World) (ht : Tab w) : Calls Tryz.prog 36 #[] w (RetBool w true) := by
  have HP0 : Hid (∀ w, Calls Tryz.prog 32 #[.string ⟨#[45, 48]⟩] w (IntE w 0 2)) := Lib.hid fun w => by
    have := wParse_any ⟨#[45, 48]⟩ (by decide) w
    rwa [show (⟨#[45, 48]⟩ : ByteArray).data.toList = [45, 48] from rfl, Txt.num_bad (by decide) (by decide)] at this
  have HP1 : Hid (∀ w, Calls Tryz.prog 32 #[.string ⟨#[48, 49]⟩] w (IntE w 0 2)) := Lib.hid fun w => by
    have := wParse_any ⟨#[48, 49]⟩ (by decide) w
    rwa [show (⟨#[48, 49]⟩ : ByteArray).data.toList = [48, 49] from rfl, Txt.num_bad (by decide) (by decide)] at this
  have HM : Hid (∀ {x y : IV} {w : World}, x.is w 4294967296 → y.is w 4294967296 → Calls Tryz.prog 43 #[.agg #[.bool x.neg, .slice x.A x.n x.c], .agg #[.bool y.neg, .slice y.A y.n y.c]] w (IntE w 18446744073709551616 0)) := Lib.hid fun hx hy => by
    have := mul_iv hx hy
    rwa [show (4294967296 : Int) * 4294967296 = 18446744073709551616 from rfl, clip_in two_64, lim_in two_64] at this
  go_enter Tryz.func36, Tryz.ntmps36
  go_wp2_with fail
  refine (from_iv (-7) _ (by omega) (by omega)).mono ?_
  rintro e w1 ⟨a, rfl, k1, ha⟩
  go_wp2_with fail
  refine (from_iv 2 _ (by omega) (by omega)).mono ?_
  rintro e w2 ⟨b, rfl, k2, hb⟩
  go_wp2_with fail
  refine (div_iv (ha.on k2) hb (by omega)).mono ?_
  rintro e w3 ⟨q, r, rfl, k3, hq, hr⟩
  rw [show (-7 : Int) / 2 = -4 from rfl] at hq
  rw [show (-7 : Int) % 2 = 1 from rfl] at hr
  go_upto_region 2 with fail
  refine wp_new2 fun w4 hQ hR k4 => ?_
  have b1 := Below.call (Below.call k1 k2) (Below.call k3 k4)
  replace hq := hq.on k4
  replace hr := hr.on k4
  clear ha hb k1 k2 k3 k4
  go_wp2_with fail
  refine (from_iv 7 _ (by omega) (by omega)).mono ?_
  rintro e w5 ⟨a, rfl, k1, ha⟩
  go_wp2_with fail
  refine (from_iv (-2) _ (by omega) (by omega)).mono ?_
  rintro e w6 ⟨b, rfl, k2, hb⟩
  go_wp2_with fail
  refine (div_iv (ha.on k2) hb (by omega)).mono ?_
  rintro e w7 ⟨s, t, rfl, k3, hs, hu⟩
  rw [show (7 : Int) / -2 = -3 from rfl] at hs
  rw [show (7 : Int) % -2 = 1 from rfl] at hu
  go_upto_region 3 with fail
  refine wp_new2 fun w8 hS hU k4 => ?_
  have b2 := Below.call (Below.call k1 k2) (Below.call k3 k4)
  replace hq := hq.on b2
  replace hr := hr.on b2
  replace hQ := hQ.on b2
  replace hR := hR.on b2
  replace b1 := Below.call b1 b2
  replace hs := hs.on k4
  replace hu := hu.on k4
  clear ha hb k1 k2 k3 k4 b2
  go_wp2_with fail
  refine (from_iv 4294967296 _ (by omega) (by omega)).mono ?_
  rintro e w9 ⟨a, rfl, k1, ha⟩
  go_wp2_with fail
  refine (from_iv 4294967296 _ (by omega) (by omega)).mono ?_
  rintro e w10 ⟨b, rfl, k2, hb⟩
  go_wp2_with fail
  refine (HM.out (ha.on k2) hb).mono ?_
  rintro e w11 ⟨x, rfl, k3, hx⟩
  go_upto_region 4 with fail
  refine wp_new1 fun w12 hX k4 => ?_
  have b2 := Below.call (Below.call k1 k2) (Below.call k3 k4)
  replace hq := hq.on b2
  replace hr := hr.on b2
  replace hs := hs.on b2
  replace hu := hu.on b2
  replace hQ := hQ.on b2
  replace hR := hR.on b2
  replace hS := hS.on b2
  replace hU := hU.on b2
  replace b1 := Below.call b1 b2
  replace hx := hx.on k4
  clear ha hb k1 k2 k3 k4 b2
  obtain ⟨x0, x1, _, _⟩ := hX.all2
  go_wp2_with fail
  refine (small_iv hx).mono ?_
  rintro e w13 ⟨k5, hsm⟩
  rcases hsm with ⟨_, hbig, _⟩ | ⟨_, rfl⟩
  · exact absurd hbig (by omega)
  go_wp2_with fail
  refine (HP0.out _).mono ?_
  rintro e w14 ⟨p0, rfl, k6, hp0⟩
  go_upto_region 6 with fail
  refine wp_new1 fun w15 hP0 k7 => ?_
  go_wp2_with fail
  refine (HP1.out _).mono ?_
  rintro e w16 ⟨p1, rfl, k8, hp1⟩
  go_upto_region 7 with fail
  refine wp_new1 fun w17 hP1 k9 => ?_
  have b2 := Below.call (Below.call k5 (Below.call k6 k7)) (Below.call k8 k9)
  replace hq := hq.on b2
  replace hr := hr.on b2
  replace hs := hs.on b2
  replace hu := hu.on b2
  replace hx := hx.on b2
  replace hQ := hQ.on b2
  replace hR := hR.on b2
  replace hS := hS.on b2
  replace hU := hU.on b2
  replace hX := hX.on b2
  replace b1 := Below.call b1 b2
  have ht1 := ht.on b1
  clear hp0 hp1 hP0 hP1 k5 k6 k7 k8 k9 b2 x0 x1 ht HM
  obtain ⟨q0, q1⟩ := hQ.rules2
  obtain ⟨r0, r1⟩ := hR.rules2
  obtain ⟨s0, s1⟩ := hS.rules2
  obtain ⟨u0, u1⟩ := hU.rules2
  obtain ⟨x0, x1⟩ := hX.rules2
  have hW := Below.refl w17.heap.size w17
  have L1 := string_lit (x := q) (s := ⟨#[45, 52]⟩) itoa_m4 rfl
  have L2 := string_lit (x := r) (s := ⟨#[49]⟩) itoa_1 rfl
  have L3 := string_lit (x := s) (s := ⟨#[45, 51]⟩) itoa_m3 rfl
  have L4 := string_lit (x := t) (s := ⟨#[49]⟩) itoa_1 rfl
  have L5 := string_lit (x := x) (s := ⟨#[49, 56, 52, 52, 54, 55, 52, 52, 48, 55, 51, 55, 48, 57, 53, 53, 49, 54, 49, 54]⟩) itoa_64 rfl
  go_wp2_with fail
  refine (L1.out _ hq ht1).mono ?_
  rintro e v1 ⟨rfl, k1⟩
  go_wp2_with fail
  refine (L2.out _ (hr.on k1) (ht1.on k1)).mono ?_
  rintro e v2 ⟨rfl, k2⟩
  replace k2 := Below.call k1 k2
  go_wp2_with fail
  refine (L3.out _ (hs.on k2) (ht1.on k2)).mono ?_
  rintro e v3 ⟨rfl, k3⟩
  replace k3 := Below.call k2 k3
  go_wp2_with fail
  refine (L4.out _ (hu.on k3) (ht1.on k3)).mono ?_
  rintro e v4 ⟨rfl, k4⟩
  replace k4 := Below.call k3 k4
  go_wp2_with fail
  refine (L5.out _ (hx.on k4) (ht1.on k4)).mono ?_
  rintro e v5 ⟨rfl, k5⟩
  have HB := Lib.hid (Below.call (Below.call b1 k4) k5)
  go_wp2
  go_returns
  exact ⟨rfl, HB.out⟩
end Go.Proofs.YthafhbogpfggjaaGreatDoor
