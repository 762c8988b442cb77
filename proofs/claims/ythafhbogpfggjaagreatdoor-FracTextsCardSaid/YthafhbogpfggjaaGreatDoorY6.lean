/-
  The law FracTexts: the walk.
-/
import Derived.Test.YthafhbogpfggjaaGreatDoorB7
import Derived.Test.YthafhbogpfggjaaGreatDoorB6
import Derived.Lib.ConvBytes
import Derived.Laws.BytesArg
namespace Go.Proofs.YthafhbogpfggjaaGreatDoor
open Go.RowKit Mag

/-- A row of bytes, out of a conversion. -/
def Byts (w : World) (g n : Nat) : Prop := ∃ xs : List Value, w.heap[g]? = some (.cells xs.toArray 5 (xs.length, xs.length + 1)) ∧ n ≤ xs.length ∧ ∀ v ∈ xs, ∃ c : Int, v = .int .u8 c
theorem Byts.lt {w : World} {g n : Nat} (h : Byts w g n) : g < w.heap.size := by
  obtain ⟨xs, h1, _⟩ := h
  rcases Nat.lt_or_ge g w.heap.size with h2 | h2
  · exact h2
  · rw [Array.getElem?_eq_none h2] at h1; cases h1
theorem Byts.on {w w' : World} {g n : Nat} (h : Byts w g n) (hb : Below w.heap.size w w') : Byts w' g n := by
  have hl := h.lt
  obtain ⟨xs, h1, h2, h3⟩ := h
  exact ⟨xs, (hb.block g hl).trans h1, h2, h3⟩
theorem Byts.cell {w : World} {g n : Nat} (h : Byts w g n) {i : Nat} (hi : i < n) : ∃ c : Int, w.cell? ⟨g, i, none⟩ = some (.int .u8 c) := by
  obtain ⟨xs, h1, h2, h3⟩ := h
  obtain ⟨c, hc⟩ := h3 xs[i] (List.getElem_mem (by omega))
  refine ⟨c, ?_⟩
  rw [← hc]
  have hi' : i < xs.length := by omega
  simp [World.cell?, h1, hi']
theorem Byts.frozen {w : World} {g n : Nat} (h : Byts w g n) {i : Nat} (hi : i < n) : w.frozen? ⟨g, i, none⟩ = false := by
  obtain ⟨xs, h1, h2, _⟩ := h
  have hi' : i < xs.length := by omega
  simp [World.frozen?, h1]
  omega
theorem Byts.set_ {w : World} {g n : Nat} (h : Byts w g n) (i : Nat) (c : Int) : Byts (w.setCell ⟨g, i, none⟩ (.int .u8 c)) g n := by
  obtain ⟨xs, h1, h2, h3⟩ := h
  refine ⟨xs.set i (.int .u8 c), ?_, by simpa using h2, fun v hv => ?_⟩
  · simp [World.setCell, Array.getElem?_modify, h1]
  · rcases List.mem_or_eq_of_mem_set hv with h | h
    · exact h3 v h
    · exact ⟨c, h⟩
theorem Byts.far {w : World} {g n : Nat} (h : Byts w g n) {p : Addr} (hp : g ≠ p.block) (u : Value) : Byts (w.setCell p u) g n := by
  obtain ⟨xs, h1, h2, h3⟩ := h
  exact ⟨xs, (Below.heap_setCell w p u g hp).trans h1, h2, h3⟩
/-- []byte(s). -/
theorem conv_to (w : World) (s : ByteArray) : ∃ V c, (convert 9 36 (.string s)).run Tryz.prog w = .ok (.slice (some ⟨w.heap.size, 0, none⟩) s.size c) V ∧ Below w.heap.size w V ∧ Byts V w.heap.size s.size ∧ s.size ≤ c := by
  refine ⟨_, _, Lib.run_convert_string_bytes w 9 36 5 s Tryz.underlying9 Tryz.underlying36 Tryz.underlying5, ?_, ?_, grownCap_ge w s.size 0 _⟩
  · refine ⟨rfl, rfl, rfl, ?_, fun k hk => Lib.bytesWorld_at_old w _ s k hk⟩
    simp [Lib.bytesWorld, World.freeze]
  · refine ⟨(Lib.bytesCells w 5 s).toList, ?_, ?_, fun v hv => ?_⟩
    · have := Lib.bytesWorld_at_new w 5 s
      simpa using this
    · show s.data.size ≤ (Lib.bytesCells w _ s).toList.length
      simp only [Lib.bytesCells, Array.length_toList, Array.size_append, Array.size_map]
      exact Nat.le_add_right _ _
    · simp only [Lib.bytesCells, Array.toList_append, Array.toList_map, Array.toList_replicate, List.mem_append, List.mem_map, List.mem_replicate] at hv
      rcases hv with ⟨b, _, rfl⟩ | ⟨_, rfl⟩
      · exact ⟨_, rfl⟩
      · exact ⟨0, rfl⟩
theorem strOfNums_size (xs : List Int) : (strOfNums xs).size = xs.length := by simp [strOfNums, ByteArray.size]
/-- string(b[:m]). -/
theorem conv_back {w : World} {g n m : Nat} (h : Byts w g n) (hm : m ≤ n) (c : Nat) : ∃ st : ByteArray, st.size = m ∧ ∀ u, Below w.heap.size w u → (convert 36 9 (.slice (some ⟨g, 0, none⟩) m c)).run Tryz.prog u = .ok (.string st) u := by
  have hc : ∀ i : Nat, ∃ z : Int, i < m → w.cell? ⟨g, i, none⟩ = some (.int .u8 z) := fun i => by
    by_cases hi : i < m
    · obtain ⟨z, hz⟩ := h.cell (show i < n by omega)
      exact ⟨z, fun _ => hz⟩
    · exact ⟨0, fun h => absurd h hi⟩
  obtain ⟨f, hf⟩ := Classical.axiomOfChoice hc
  refine ⟨strOfNums ((List.range m).map f), by rw [strOfNums_size]; simp, fun u hu => ?_⟩
  refine run_convert_bytes_arg (P := Tryz.prog) u 36 5 Tryz.underlying36 Tryz.underlying5 g 0 m c _ (by simp) (fun i hi => ?_) 9 Tryz.underlying9
  rw [Nat.zero_add, (hu.cell (p := ⟨g, i, none⟩) h.lt), hf i hi]
  simp [List.getD, hi]
/-- Six texts. -/
def S6 (w : World) (g : Nat) : Prop := ∀ i, i < 6 → ∃ x : ByteArray, w.cell? ⟨g, i, none⟩ = some (.string x) ∧ x.size ≤ 2000 ∧ g < w.heap.size
theorem S6.on {w w' : World} {g : Nat} (h : S6 w g) (hb : Below w.heap.size w w') : S6 w' g := fun i hi => by
  obtain ⟨x, h1, h2, h3⟩ := h i hi
  exact ⟨x, (hb.cell (p := ⟨g, i, none⟩) h3).trans h1, h2, Nat.lt_of_lt_of_le h3 hb.size⟩
def sS6 : Spec Bel := ⟨fun v w => ∃ g, v = .slice (some ⟨g, 0, none⟩) 6 6 ∧ S6 w g, fun ⟨g, e, h⟩ k => ⟨g, e, h.on k⟩⟩
theorem S6.mk {w : World} {t : TypeId} {a b c d e f : ByteArray} (h1 : a.size ≤ 2000) (h2 : b.size ≤ 2000) (h3 : c.size ≤ 2000) (h4 : d.size ≤ 2000) (h5 : e.size ≤ 2000) (h6 : f.size ≤ 2000) :
    S6 (w.alloc (.cells #[.string a, .string b, .string c, .string d, .string e, .string f] t)) w.heap.size := fun i hi => by
  have hO : Own (w.alloc (.cells #[.string a, .string b, .string c, .string d, .string e, .string f] t)) w.heap.size t [.string a, .string b, .string c, .string d, .string e, .string f] := Own.new w t _
  match i, hi with
  | 0, _ => exact ⟨a, hO.cell 0, h1, hO.lt⟩
  | 1, _ => exact ⟨b, hO.cell 1, h2, hO.lt⟩
  | 2, _ => exact ⟨c, hO.cell 2, h3, hO.lt⟩
  | 3, _ => exact ⟨d, hO.cell 3, h4, hO.lt⟩
  | 4, _ => exact ⟨e, hO.cell 4, h5, hO.lt⟩
  | 5, _ => exact ⟨f, hO.cell 5, h6, hO.lt⟩
theorem rtext_len {a : Rat} {k : Nat} (h : SmR k a) (hk : 0 < k := by omega) : 0 < (rtext a).length ∧ (rtext a).length ≤ 8 * k + 3 := by
  have h1 := sm_itoa h.1 hk
  have h2 := sm_itoa h.2 hk
  have h3 : Lib.itoa a.num ≠ [] := by
    unfold Lib.itoa
    split
    · simp
    · exact DecM.dec_ne _
  have h4 : (Lib.itoa a.num).length ≠ 0 := fun e => h3 (List.eq_nil_of_length_eq_zero e)
  unfold rtext ftext
  split
  · omega
  · simp only [List.length_append, List.length_cons]
    omega
theorem tmod_idx (a : Int) {n : Nat} (hn : 0 < n) : -(n : Int) < a.tmod n ∧ a.tmod n < n :=
  ⟨Int.lt_tmod_of_pos a (by omega), Int.tmod_lt_of_pos a (by omega)⟩
set_option maxRecDepth 100000 in
set_option maxHeartbeats 12800000 in
theorem FracTexts_any {w : World} {A : Option Addr} {l : List Int} {c0 : Nat} (h : IntsIs w A l c0) (s0 : ByteArray) (hs0 : s0.size ≤ 9223372036854775807) (at_ : Int) (hat : in64 at_) (by_ : Int) (hTab0 : Tab w) :
    Calls Tryz.prog 17 #[.slice A l.length c0, .string s0, .int .i64 at_, .int .u8 by_] w (RetBool w true) := by
  have b1 := Below.refl w.heap.size w
  have hTab := hTab0
  go_enter Tryz.func17, Tryz.ntmps17
  go_wp2_with fail
  refine (fFrac_any h 0 (by omega) 0 rfl).mono ?_
  rintro e v1 ⟨f, rfl, k1_, hf⟩
  go_upto_region 2 with fail
  refine wp_new1 fun v2 hF k2_ => ?_
  have kk_ := Below.call k1_ k2_
  replace h := h.on kk_
  replace hTab := hTab.on kk_
  replace hf := hf.on k2_
  replace b1 := Below.call b1 kk_
  clear k1_ k2_ kk_
  clear h
  obtain ⟨a, sa, hf⟩ := hf
  obtain ⟨t, htt⟩ : ∃ t : ByteArray, t = ⟨(rtext a).toArray⟩ := ⟨_, rfl⟩
  have htd : t.data.toList = rtext a := by rw [htt]
  have htl := rtext_len sa (by omega)
  have hts : t.size = (rtext a).length := str_size htd
  have ht2 : t.size ≤ 1100 := by omega
  have ht1 : 0 < t.size := by omega
  have HTx : Hid (∀ u, NR f u a → Calls Tryz.prog 85 #[.agg #[.bool f.p.neg, .slice f.p.A f.p.n f.p.c, .bool f.l.neg, .slice f.l.A f.l.n f.l.c]] u (fun e w9 => e = .returned (.string t) ∧ Below u.heap.size u w9)) := Lib.hid fun u h1 => by rw [htt]; exact fText_any h1 (sa.mono (by omega))
  have HSx : Hid (∀ (g : FV) u, FR g u a → Tab u → Calls Tryz.prog 87 #[.agg #[.bool g.p.neg, .slice g.p.A g.p.n g.p.c, .bool g.l.neg, .slice g.l.A g.l.n g.l.c]] u (fun e w9 => e = .returned (.string t) ∧ Below u.heap.size u w9)) := Lib.hid fun g u h1 h2 => by rw [htt]; exact FString_r h1 h2
  have HPx : Hid (∀ u, Tab u → Calls Tryz.prog 86 #[.string t] u (RetFRE u a 0)) := Lib.hid fun u hT => by
    have := ParseF_any t (by omega) u hT
    rwa [htd, parR_text (sa.fit (by omega)).1 (sa.fit (by omega)).2] at this
  clear htt htd htl hts
  obtain ⟨c0_0, c0_1, c0_2, c0_3, _⟩ := hF.all4
  go_wp2_with fail
  refine (HTx.out _ hf).mono ?_
  rintro e v3 ⟨rfl, k1_⟩
  clear c0_0 c0_1 c0_2 c0_3
  replace hTab := hTab.on k1_
  replace hf := hf.on k1_
  replace hF := hF.on k1_
  replace b1 := Below.call b1 k1_
  clear k1_
  go_wp2_with fail
  refine (HPx.out _ hTab).mono ?_
  rintro e v4 ⟨p, rfl, k1_, hp⟩
  go_upto_region 4 with fail
  refine wp_new1 fun v5 hP k2_ => ?_
  have kk_ := Below.call k1_ k2_
  replace hTab := hTab.on kk_
  replace hf := hf.on kk_
  replace hF := hF.on kk_
  replace hp := hp.on k2_
  replace b1 := Below.call b1 kk_
  clear k1_ k2_ kk_
  obtain ⟨c0_0, c0_1, c0_2, c0_3, _⟩ := hF.all4
  go_wp2_with fail
  refine (of_any hf (sa.fit (by omega))).mono ?_
  rintro e v6 ⟨u, rfl, k1_, hu⟩
  clear c0_0 c0_1 c0_2 c0_3
  replace hTab := hTab.on k1_
  replace hf := hf.on k1_
  replace hF := hF.on k1_
  replace hp := hp.on k1_
  replace hP := hP.on k1_
  replace b1 := Below.call b1 k1_
  clear k1_
  go_wp2_with fail
  refine (HSx.out _ _ hu hTab).mono ?_
  rintro e v7 ⟨rfl, k1_⟩
  replace hTab := hTab.on k1_
  replace hf := hf.on k1_
  replace hF := hF.on k1_
  replace hp := hp.on k1_
  replace hP := hP.on k1_
  replace hu := hu.on k1_
  replace b1 := Below.call b1 k1_
  clear k1_
  obtain ⟨c0_0, c0_1, c0_2, c0_3, _⟩ := hP.all4
  obtain ⟨c1_0, c1_1, c1_2, c1_3, _⟩ := hF.all4
  go_wp2_with fail
  refine (same_any hp hf hTab).mono ?_
  rintro e v8 ⟨rfl, k1_⟩
  clear c0_0 c0_1 c0_2 c0_3 c1_0 c1_1 c1_2 c1_3
  replace hTab := hTab.on k1_
  replace hf := hf.on k1_
  replace hF := hF.on k1_
  replace hp := hp.on k1_
  replace hP := hP.on k1_
  replace hu := hu.on k1_
  replace b1 := Below.call b1 k1_
  clear k1_
  clear hf hF hp hP hu
  clear HTx HSx HPx
  go_upto_region 6 with fail
  obtain ⟨V1, cF, hcv, k1, hBF, hcF0⟩ := conv_to v8 s0
  go_upto_region 7 with fail
  obtain ⟨gF, e_⟩ : ∃ gF, gF = v8.heap.size := ⟨_, rfl⟩
  rw [← e_] at hBF ⊢
  have lF : gF < V1.heap.size := hBF.lt
  clear hcv e_
  replace hTab := hTab.on k1
  replace b1 := Below.call b1 k1
  clear k1
  obtain ⟨V2, cT, hcv, k1, hBT, hcT0⟩ := conv_to V1 t
  go_upto_region 8 with fail
  obtain ⟨gT, e_⟩ : ∃ gT, gT = V1.heap.size := ⟨_, rfl⟩
  have b9 := b1.size
  rw [← e_] at hBT lF b9 ⊢
  clear hcv e_
  replace hTab := hTab.on k1
  replace b1 := Below.call b1 k1
  replace hBF := hBF.on k1
  clear k1
  obtain ⟨i1, i2⟩ := tmod_idx at_ ht1
  have hne : ¬ (t.size : Int) = 0 := by omega
  have a0 := hat.1
  have a1 := hat.2
  obtain ⟨q, hq⟩ : ∃ q, at_.tmod (t.size : Int) = q := ⟨_, rfl⟩
  have HQ := Lib.hid hq
  go_upto_if 55 with fail
  rw [hq] at i1 i2
  try rw [hq]
  clear hq
  go_cut [15, 55] (fun s15 _ wx => ∃ i : Nat, i < t.size ∧ s15 = .int .i64 (i : Int) ∧ wx = V2)
  case first =>
    by_cases hq0 : q < 0
    · have hd : decide (q < 0) = true := decide_eq_true hq0
      try rw [hd]
      go_wp2_with fail
      go_meet
      exact ⟨(q + (t.size : Int)).toNat, by omega, by go_num, rfl⟩
    · have hd : decide (q < 0) = false := decide_eq_false hq0
      try rw [hd]
      go_wp2_with fail
      go_meet
      exact ⟨q.toNat, by omega, by go_num, rfl⟩
  case rest =>
    obtain ⟨i, hi, rfl, rfl⟩ := hcut
    obtain ⟨V2, e_⟩ : ∃ V2, V2 = wc := ⟨_, rfl⟩
    subst e_
    obtain ⟨z0, hz0⟩ := hBT.cell hi
    have hz1 := hBT.frozen hi
    have j0 : (0 : Int) ≤ (i : Int) := by omega
    have j1 : (i : Int) < (t.size : Int) := by omega
    have hBT2 := hBT.set_ i by_
    have hBF2 := hBF.far (p := ⟨gT, i, none⟩) (by show gF ≠ gT; omega) (.int .u8 by_)
    have b2 := b1.setCell (p := ⟨gT, i, none⟩) b9 (.int .u8 by_)
    go_upto_region 12 with fail
    obtain ⟨V3, hV3⟩ : ∃ V3, V2.setCell ⟨gT, i, none⟩ (.int .u8 by_) = V3 := ⟨_, rfl⟩
    rw [hV3] at hBT2 hBF2 b2 ⊢
    clear hV3 hz0 hz1 hBT hBF b1 hTab
    have hTab := hTab0.on b2
    obtain ⟨m, hm1, hm2, hm3⟩ : ∃ m : Nat, min (s0.size : Int) 60 = (m : Int) ∧ m ≤ s0.size ∧ m ≤ 60 := ⟨min s0.size 60, by omega, by omega, by omega⟩
    have HMin := Lib.hid hm1
    obtain ⟨st1, hst1, hcF⟩ := conv_back hBF2 hm2 cF
    obtain ⟨st2, hst2, hcT⟩ := conv_back hBT2 (Nat.le_refl _) cT
    have hst3 : st2.size ≤ 1100 := by omega
    have hst4 : st1.size ≤ 60 := by omega
    clear hm1 hst1 hst2
    refine wp_region_specs V3 [Spec.eq (.slice (some ⟨gF, 0, none⟩) s0.size cF), Spec.eq (.slice (some ⟨gF, 0, none⟩) s0.size cF), Spec.eq (.int .i64 (s0.size : Int)), Spec.eq (.int .i64 (m : Int)), Spec.eq (.slice (some ⟨gF, 0, none⟩) m cF), Spec.eq (.string st1), Spec.eq (.slice (some ⟨gT, 0, none⟩) t.size cT), Spec.eq (.string st2), Spec.eq (.string t), Spec.eq (.string (t ++ ⟨#[47, 49]⟩)), Spec.eq (.string t), Spec.eq (.string (⟨#[48]⟩ ++ t)), Spec.eq (.string t), Spec.eq (.string (⟨#[45]⟩ ++ t)), Spec.eq (.string t), Spec.eq (.string (t ++ ⟨#[47]⟩)), sS6 , sS6 ]
        (by kernel_rfl) (by kernel_rfl) rfl (by kernel_rfl) (Below.drew (Below.refl _ _)) ?_ ?_
    ·
      refine RegSteps.cons ?_ ?_
      · intro _ az wz hC hF hD _ K hK
        have q13 : az.tmps[13]? = some (.slice (some ⟨gF, 0, none⟩) s0.size cF) := hF 13 rfl
        clear hF hD
        refine want_none rfl ?_
        go_simp
        exact hK _ _ hC (Below.refl _ _) rfl
      refine RegSteps.cons ?_ ?_
      · intro _ az wz hC hF hD _ K hK
        have q13 : az.tmps[13]? = some (.slice (some ⟨gF, 0, none⟩) s0.size cF) := hF 13 rfl
        clear hF hD
        refine want_none rfl ?_
        go_simp
        exact hK _ _ hC (Below.refl _ _) rfl
      refine RegSteps.cons ?_ ?_
      · intro _ az wz hC hF hD _ K hK
        obtain ⟨_, q65, rfl⟩ := dep hD 1 rfl rfl rfl rfl
        clear hF hD
        refine want_none rfl ?_
        go_simp
        exact hK _ _ hC (Below.refl _ _) rfl
      refine RegSteps.cons ?_ ?_
      · intro _ az wz hC hF hD _ K hK
        obtain ⟨_, q66, rfl⟩ := dep hD 2 rfl rfl rfl rfl
        have hmin := HMin.out
        clear hF hD
        refine want_none rfl ?_
        go_simp
        exact hK _ _ hC (Below.refl _ _) rfl
      refine RegSteps.cons ?_ ?_
      · intro _ az wz hC hF hD _ K hK
        obtain ⟨_, q64, rfl⟩ := dep hD 0 rfl rfl rfl rfl
        obtain ⟨_, q67, rfl⟩ := dep hD 3 rfl rfl rfl rfl
        have h0_ : (0 : Int) ≤ (m : Int) := by omega
        have h1_ : (m : Int) ≤ (cF : Int) := by omega
        clear hF hD
        refine want_none rfl ?_
        go_simp
        exact hK _ _ hC (Below.refl _ _) rfl
      refine RegSteps.cons ?_ ?_
      · intro _ az wz hC hF hD _ K hK
        obtain ⟨_, q68, rfl⟩ := dep hD 4 rfl rfl rfl rfl
        have hcv := hcF _ hC
        clear hF hD
        refine want_none rfl ?_
        go_simp
        exact hK _ _ hC (Below.refl _ _) rfl
      refine RegSteps.cons ?_ ?_
      · intro _ az wz hC hF hD _ K hK
        have q14 : az.tmps[14]? = some (.slice (some ⟨gT, 0, none⟩) t.size cT) := hF 14 rfl
        clear hF hD
        refine want_none rfl ?_
        go_simp
        exact hK _ _ hC (Below.refl _ _) rfl
      refine RegSteps.cons ?_ ?_
      · intro _ az wz hC hF hD _ K hK
        obtain ⟨_, q70, rfl⟩ := dep hD 6 rfl rfl rfl rfl
        have hcv := hcT _ hC
        clear hF hD
        refine want_none rfl ?_
        go_simp
        exact hK _ _ hC (Below.refl _ _) rfl
      refine RegSteps.cons ?_ ?_
      · intro _ az wz hC hF hD _ K hK
        have q10 : az.tmps[10]? = some (.string t) := hF 10 rfl
        clear hF hD
        refine want_none rfl ?_
        go_simp
        exact hK _ _ hC (Below.refl _ _) rfl
      refine RegSteps.cons ?_ ?_
      · intro _ az wz hC hF hD _ K hK
        obtain ⟨_, q72, rfl⟩ := dep hD 8 rfl rfl rfl rfl
        have hs_ : ¬ 9223372036854775807 < t.size + 2 := by omega
        have hs2_ : ¬ 9223372036854775807 ≤ t.size := by omega
        clear hF hD
        refine want_none rfl ?_
        go_simp
        exact hK _ _ hC (Below.refl _ _) rfl
      refine RegSteps.cons ?_ ?_
      · intro _ az wz hC hF hD _ K hK
        have q10 : az.tmps[10]? = some (.string t) := hF 10 rfl
        clear hF hD
        refine want_none rfl ?_
        go_simp
        exact hK _ _ hC (Below.refl _ _) rfl
      refine RegSteps.cons ?_ ?_
      · intro _ az wz hC hF hD _ K hK
        obtain ⟨_, q74, rfl⟩ := dep hD 10 rfl rfl rfl rfl
        have hs_ : ¬ 9223372036854775807 < 1 + t.size := by omega
        have hs2_ : ¬ 9223372036854775807 ≤ t.size := by omega
        clear hF hD
        refine want_none rfl ?_
        go_simp
        exact hK _ _ hC (Below.refl _ _) rfl
      refine RegSteps.cons ?_ ?_
      · intro _ az wz hC hF hD _ K hK
        have q10 : az.tmps[10]? = some (.string t) := hF 10 rfl
        clear hF hD
        refine want_none rfl ?_
        go_simp
        exact hK _ _ hC (Below.refl _ _) rfl
      refine RegSteps.cons ?_ ?_
      · intro _ az wz hC hF hD _ K hK
        obtain ⟨_, q76, rfl⟩ := dep hD 12 rfl rfl rfl rfl
        have hs_ : ¬ 9223372036854775807 < 1 + t.size := by omega
        have hs2_ : ¬ 9223372036854775807 ≤ t.size := by omega
        clear hF hD
        refine want_none rfl ?_
        go_simp
        exact hK _ _ hC (Below.refl _ _) rfl
      refine RegSteps.cons ?_ ?_
      · intro _ az wz hC hF hD _ K hK
        have q10 : az.tmps[10]? = some (.string t) := hF 10 rfl
        clear hF hD
        refine want_none rfl ?_
        go_simp
        exact hK _ _ hC (Below.refl _ _) rfl
      refine RegSteps.cons ?_ ?_
      · intro _ az wz hC hF hD _ K hK
        obtain ⟨_, q78, rfl⟩ := dep hD 14 rfl rfl rfl rfl
        have hs_ : ¬ 9223372036854775807 < t.size + 1 := by omega
        have hs2_ : ¬ 9223372036854775807 ≤ t.size := by omega
        clear hF hD
        refine want_none rfl ?_
        go_simp
        exact hK _ _ hC (Below.refl _ _) rfl
      refine RegSteps.cons ?_ ?_
      · intro _ az wz hC hF hD _ K hK
        obtain ⟨_, q69, rfl⟩ := dep hD 5 rfl rfl rfl rfl
        obtain ⟨_, q71, rfl⟩ := dep hD 7 rfl rfl rfl rfl
        obtain ⟨_, q73, rfl⟩ := dep hD 9 rfl rfl rfl rfl
        obtain ⟨_, q75, rfl⟩ := dep hD 11 rfl rfl rfl rfl
        obtain ⟨_, q77, rfl⟩ := dep hD 13 rfl rfl rfl rfl
        obtain ⟨_, q79, rfl⟩ := dep hD 15 rfl rfl rfl rfl
        clear hF hD
        refine want_none rfl ?_
        go_simp
        exact hK _ _ (Below.alloc hC hC.size _) (below_new _ _) ⟨_, rfl, S6.mk (by omega) (by omega) (by rw [ByteArray.size_append]; show t.size + 2 ≤ 2000; omega) (by rw [ByteArray.size_append]; show 1 + t.size ≤ 2000; omega) (by rw [ByteArray.size_append]; show 1 + t.size ≤ 2000; omega) (by rw [ByteArray.size_append]; show t.size + 1 ≤ 2000; omega)⟩
      refine RegSteps.cons ?_ ?_
      · intro _ az wz hC hF hD _ K hK
        obtain ⟨_, q80, x80, rfl, hx80⟩ := dep hD 16 rfl rfl rfl rfl
        clear hF hD
        refine want_none rfl ?_
        go_simp
        exact hK _ _ hC (Below.refl _ _) ⟨x80, rfl, hx80⟩
      exact RegSteps.nil
    intro v9 hC
    rintro _ rfl _ rfl _ rfl _ rfl _ rfl _ rfl _ rfl _ rfl _ rfl _ rfl _ rfl _ rfl _ rfl _ rfl _ rfl _ rfl _ ⟨y80, rfl, _⟩ _ ⟨y16, rfl, hy16⟩
    simp only [FinOK, Act.put, List.setIfInBounds_toArray, List.set_cons_zero, List.set_cons_succ]
    replace hTab := hTab.on hC
    replace b2 := Below.call b2 hC
    have hL := hy16
    clear hy16
    clear hC
    clear hcF hcT hBF2 hBT2 HQ HMin
    obtain ⟨W0, hW0⟩ : ∃ W0, W0 = v9 := ⟨_, rfl⟩
    subst hW0
    go_wp2_with fail
    go_loopw [17] (fun s wr => ∃ i : Nat, i ≤ 6 ∧ s = .int .i64 (i : Int) ∧ Below W0.heap.size W0 wr) (fun s _ => 6 - (intOf s).toNat)
    case atStart => exact ⟨0, by omega, rfl, Below.refl _ _⟩
    case round =>
      obtain ⟨i, hi, rfl, hbr⟩ := hrel
      rcases Nat.lt_or_eq_of_le hi with hlt | heq
      · obtain ⟨st, hcell, hsz, hl⟩ := (hL.on hbr) i hlt
        have i6 : (i : Int) < 6 := by omega
        have i0 : (0 : Int) ≤ (i : Int) := by omega
        have hTr := hTab.on hbr
        obtain ⟨d, hd⟩ : ∃ d, parR st.data.toList = d := ⟨_, rfl⟩
        have HP1 : Hid (∀ u, Tab u → Calls Tryz.prog 86 #[.string st] u (RetFRE u d.1 d.2)) := Lib.hid fun u h1 => by rw [← hd]; exact ParseF_any st (by omega) u h1
        have HP2 : Hid (∀ u, Calls Tryz.prog 88 #[.string st] u (RetNRE u d.1 d.2)) := Lib.hid fun u => by rw [← hd]; exact fParse_any st (by omega) u
        have HbW := Lib.hid hbr
        have b3 := Below.refl wr.heap.size wr
        clear hd hbr
        have hcl : ∀ v, Below wr.heap.size wr v → v.cell? ⟨y16, i, none⟩ = some (.string st) := fun v hv => (hv.cell (p := ⟨y16, i, none⟩) hl).trans hcell
        have HCL := Lib.hid hcl
        go_wp2_with fail
        refine (HP1.out _ hTr).mono ?_
        rintro e u1 ⟨p, rfl, k1_, hp⟩
        go_upto_region 17 with fail
        refine wp_new1 fun u2 hP k2_ => ?_
        have kk_ := Below.call k1_ k2_
        replace hTr := hTr.on kk_
        replace hp := hp.on k2_
        replace b3 := Below.call b3 kk_
        clear k1_ k2_ kk_
        have hcl2 := HCL.out _ b3
        clear hcl
        go_wp2_with fail
        refine (HP2.out _).mono ?_
        rintro e u3 ⟨q, rfl, k1_, hq⟩
        go_upto_region 18 with fail
        refine wp_new1 fun u4 hQ k2_ => ?_
        have kk_ := Below.call k1_ k2_
        replace hTr := hTr.on kk_
        replace hp := hp.on kk_
        replace hP := hP.on kk_
        replace hq := hq.on k2_
        replace b3 := Below.call b3 kk_
        clear k1_ k2_ kk_
        clear hcl2
        obtain ⟨c0_0, c0_1, c0_2, c0_3, _⟩ := hP.all4
        obtain ⟨c1_0, c1_1, c1_2, c1_3, _⟩ := hQ.all4
        go_wp2_with fail
        refine (same_any hp hq hTr).mono ?_
        rintro e u5 ⟨rfl, k1_⟩
        clear c0_0 c0_1 c0_2 c0_3 c1_0 c1_1 c1_2 c1_3
        replace hTr := hTr.on k1_
        replace hp := hp.on k1_
        replace hP := hP.on k1_
        replace hq := hq.on k1_
        replace hQ := hQ.on k1_
        replace b3 := Below.call b3 k1_
        clear k1_
        have hbr := Below.call HbW.out b3
        go_wp2_with fail
        go_roundw
        case rel => exact ⟨i + 1, by omega, by go_num, hbr⟩
        case measure => simp [intOf]; omega
      · subst heq
        have b3 := Below.call b2 hbr
        have ht := hTab.on hbr
        go_wp2_with fail
        refine (lives4_any _ ht).mono ?_
        rintro e w8 ⟨rfl, k1⟩
        have HB := Lib.hid (Below.call b3 k1)
        go_wp2
        go_returns
        exact ⟨rfl, HB.out⟩
end Go.Proofs.YthafhbogpfggjaaGreatDoor
