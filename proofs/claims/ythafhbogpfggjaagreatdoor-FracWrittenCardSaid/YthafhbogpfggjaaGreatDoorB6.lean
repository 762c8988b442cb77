/-
  Package frac's Parse and Pow (at what the examples want); the examples of chapter 04.
-/
import Derived.Test.YthafhbogpfggjaaGreatDoorB7
import Derived.Test.YthafhbogpfggjaaGreatDoorF1
import Derived.Test.YthafhbogpfggjaaGreatDoorShelf3
import Derived.IntWalk
import Derived.Deep.CutBlock
namespace Go.Proofs.YthafhbogpfggjaaGreatDoor
open Go.RowKit Mag
open DecM

/-- strings.Cut at "/". -/
def CutPost (s : ByteArray) (w : World) (e : Ending) (w' : World) : Prop :=
  ∃ (t b : ByteArray) (h : Bool), e = .returned (.tuple #[.string t, .string b, .bool h]) ∧ Below w.heap.size w w' ∧ Hid (t.data.toList = topS s.data.toList ∧ (h = true → b.data.toList = botS s.data.toList) ∧ (h = false → botS s.data.toList = [49])) ∧ t.size ≤ s.size ∧ b.size ≤ s.size
theorem idx47 (l : List UInt8) : (Lib.indexByte l 47 = -1 ∧ (47 : UInt8) ∉ l) ∨ ∃ i : Nat, Lib.indexByte l 47 = (i : Int) ∧ i < l.length ∧ l.take i = topS l ∧ l.drop (i + 1) = botS l := by
  have hge := Lib.indexByte_ge l 47
  by_cases h : Lib.indexByte l 47 = -1
  · refine .inl ⟨h, fun hm => ?_⟩
    obtain ⟨k, hk, he⟩ := List.mem_iff_getElem.1 hm
    exact Lib.indexByte_none h k (by rw [List.getElem?_eq_getElem hk, he])
  · obtain ⟨o, ho⟩ : ∃ o : Nat, Lib.indexByte l 47 = (o : Int) := ⟨(Lib.indexByte l 47).toNat, by omega⟩
    obtain ⟨h1, h2⟩ := Lib.indexByte_some ho
    have hlt : o < l.length := by
      rcases Nat.lt_or_ge o l.length with h | h
      · exact h
      · rw [List.getElem?_eq_none h] at h1; cases h1
    have e : l = l.take o ++ 47 :: l.drop (o + 1) := by
      have h3 := List.drop_eq_getElem_cons hlt
      rw [List.getElem?_eq_getElem hlt] at h1
      injection h1 with h1
      rw [h1] at h3
      rw [← h3, List.take_append_drop]
    have hn : (47 : UInt8) ∉ l.take o := fun hm => by
      obtain ⟨k, hk, he⟩ := List.mem_take_iff_getElem.1 hm
      exact h2 k (by omega) (by rw [List.getElem?_eq_getElem (by omega), he])
    obtain ⟨h3, h4⟩ := take_slash hn (l.drop (o + 1))
    rw [← e] at h3 h4
    refine .inr ⟨o, ho, hlt, h3.symm, ?_⟩
    unfold botS
    rw [if_pos (by rw [e]; simp), h4]
    rfl
set_option maxRecDepth 100000 in
set_option maxHeartbeats 1600000 in
theorem sCut_any (s : ByteArray) (hs : s.size ≤ 1000000) (w : World) : Calls Tryz.prog 178 #[.string s, .string ⟨#[47]⟩] w (CutPost s w) := by
  have hl : s.data.toList.length = s.size := by rw [Array.length_toList]; rfl
  rcases idx47 s.data.toList with ⟨hi, hn⟩ | ⟨i, hi, hlt, h1, h2⟩
  · have HI := Lib.hid hi
    have HP := Lib.hid (no47_top hn)
    clear hi hn
    go_enter Tryz.func178, Tryz.ntmps178
    go_wp2_with fail
    refine (Tryz.stringslite_Index_one s 47 _).mono ?_
    rintro e w1 ⟨rfl, rfl⟩
    rw [HI.out]
    go_wp2
    go_ret3
    exact ⟨s, ⟨#[]⟩, false, rfl, Below.refl _ _, Lib.hid ⟨HP.out.1.symm, (fun h => by cases h), fun _ => HP.out.2⟩, Nat.le_refl _, by show 0 ≤ _; omega⟩
  · have HI := Lib.hid hi
    have HP : Hid ((s.extract 0 i).data.toList = topS s.data.toList ∧ (s.extract (i + 1) s.size).data.toList = botS s.data.toList) := Lib.hid ⟨by rw [← h1]; simp [ByteArray.data_extract], by
      rw [← h2]
      simp only [ByteArray.data_extract, Array.toList_extract, List.extract_eq_take_drop]
      rw [List.take_of_length_le (by rw [List.length_drop, hl]; exact Nat.le_refl _)]⟩
    have c1 : (0 : Int) ≤ (i : Int) := by omega
    have c2 : (i : Int) ≤ (s.size : Int) := by omega
    have c3 : (0 : Int) ≤ (i : Int) + 1 := by omega
    have c4 : (i : Int) + 1 ≤ (s.size : Int) := by omega
    have hw1 : IntKind.i64.wrap ((i : Int) + 1) = (i : Int) + 1 := IntWalk.i64_in _ (by omega)
    have hw2 : ((i : Int) + 1).toNat = i + 1 := by omega
    clear hi h1 h2 hl
    go_enter Tryz.func178, Tryz.ntmps178
    go_wp2_with fail
    refine (Tryz.stringslite_Index_one s 47 _).mono ?_
    rintro e w1 ⟨rfl, rfl⟩
    rw [HI.out]
    go_wp2_with fail
    go_region
    go_wp2
    go_ret3
    exact ⟨s.extract 0 i, s.extract (i + 1) s.size, true, rfl, Below.drewN_ (Below.refl _ _) 1, Lib.hid ⟨HP.out.1, fun _ => HP.out.2, (fun h => by cases h)⟩, by rw [ByteArray.size_extract]; omega, by rw [ByteArray.size_extract]; omega⟩
set_option maxRecDepth 100000 in
theorem Cut_any (s : ByteArray) (hs : s.size ≤ 1000000) (w : World) : Calls Tryz.prog 139 #[.string s, .string ⟨#[47]⟩] w (CutPost s w) := by
  go_enter Tryz.func139, Tryz.ntmps139
  go_wp2_with fail
  refine (sCut_any s hs _).mono ?_
  rintro e w1 ⟨t, b, h, rfl, k1, h2, h3, h4⟩
  go_wp2
  go_ret3
  exact ⟨t, b, h, rfl, k1, h2, h3, h4⟩
set_option maxRecDepth 100000 in
set_option maxHeartbeats 6400000 in
theorem ParseF_any (s : ByteArray) (hs : s.size ≤ 1000000) (w : World) (hTab : Tab w) : Calls Tryz.prog 86 #[.string s] w (RetFRE w (parR s.data.toList).1 (parR s.data.toList).2) := by
  obtain ⟨p, hp⟩ : ∃ p, Txt.num top (topS s.data.toList) = p := ⟨_, rfl⟩
  obtain ⟨q, hq⟩ : ∃ q, Txt.num top (botS s.data.toList) = q := ⟨_, rfl⟩
  have hpar : parR s.data.toList = parR0 p q s.data.toList := by unfold parR; rw [hp, hq]
  have hpf : p.1.natAbs < top := by rw [← hp]; exact Txt.num_lt top_pos _
  have hqf : q.1.natAbs < top := by rw [← hq]; exact Txt.num_lt top_pos _
  have HP := Lib.hid hp
  have HQ := Lib.hid hq
  rw [hpar]
  clear hp hq hpar
  go_enter Tryz.func86, Tryz.ntmps86
  go_upto_region 1 with fail
  refine wp_new1 fun W hO hB => ?_
  go_wp2_with fail
  refine (Cut_any s hs _).mono ?_
  rintro e w1 ⟨t, b0, h, rfl, k1, hcp, ht, hb0⟩
  replace hB := Below.call hB k1
  replace hO := hO.on k1
  replace hTab := hTab.on hB
  go_upto_if 20 with fail
  go_cut [5] (fun s5 wx => ∃ b : ByteArray, s5 = .string b ∧ Hid (b.data.toList = botS s.data.toList) ∧ b.size ≤ 1000000 ∧ wx = w1)
  case first =>
    cases h
    · have HE := Lib.hid (show (⟨#[49]⟩ : ByteArray).data.toList = botS s.data.toList from (hcp.out.2.2 rfl).symm)
      go_wp2_with fail
      go_meet
      exact ⟨⟨#[49]⟩, rfl, HE, by decide, rfl⟩
    · have HE := Lib.hid (hcp.out.2.1 rfl)
      go_wp2_with fail
      go_meet
      exact ⟨b0, rfl, HE, by omega, rfl⟩
  case rest =>
    obtain ⟨b, rfl, hb, hbs, rfl⟩ := hcut
    have HPt : Hid (∀ u, Calls Tryz.prog 32 #[.string t] u (IntE u p.1 p.2)) := Lib.hid fun u => wParse_t t (by omega) u p (by rw [hcp.out.1]; exact HP.out)
    have HPb : Hid (∀ u, Calls Tryz.prog 32 #[.string b] u (IntE u q.1 q.2)) := Lib.hid fun u => wParse_t b (by omega) u q (by rw [hb.out]; exact HQ.out)
    clear hcp HP HQ hb hb0 ht hbs k1
    obtain ⟨pz, pe⟩ := p
    obtain ⟨qz, qe⟩ := q
    go_wp2_with fail
    refine (HPt.out _).mono ?_
    rintro e w1 ⟨x, rfl, k1, hx⟩
    go_upto_region 5 with fail
    refine wp_new1 fun w2 hX k2 => ?_
    go_wp2_with fail
    refine (HPb.out _).mono ?_
    rintro e w3 ⟨y, rfl, k3, hy⟩
    go_upto_region 6 with fail
    refine wp_new1 fun w4 hY k4 => ?_
    have kk := Below.call k3 k4
    replace hx := (hx.on k2).on kk
    replace hX := hX.on kk
    replace hy := hy.on k4
    have k5 := Below.call (Below.call k1 k2) kk
    have hB2 := Below.call hB k5
    have hO2 := hO.on k5
    replace hTab := hTab.on k5
    clear k1 k2 k3 k4 kk k5 hO hB HPt HPb
    by_cases he : pe = 0 ∧ qe = 0
    · obtain ⟨rfl, rfl⟩ := he
      by_cases hz : qz = 0
      · have HR := Lib.hid (show parR0 (pz, 0) (qz, 0) s.data.toList = (0, 2) by unfold parR0; rw [if_neg (by simp), if_pos hz])
        have HM := Lib.hid (show makeR pz qz = (0, 1) from if_pos hz)
        obtain ⟨x0, x1, _⟩ := hX.all2
        obtain ⟨y0, y1, _⟩ := hY.all2
        clear hz
        go_wp2_with fail
        refine (makeF hx hy).mono ?_
        rw [HM.out]
        rintro e w5 ⟨f, rfl, k5, hf⟩
        go_upto_region 9 with fail
        refine wp_new1 fun w6 hF k6 => ?_
        have kk := Below.call k5 k6
        have hB3 := Below.call hB2 kk
        have hO3 := hO2.on kk
        clear hx hy hX hY x0 x1 y0 y1 k5 k6 kk hB2 hO2 hf hF
        obtain ⟨z0, z1, z2, z3, f0, f1, f2, f3⟩ := hO3.all4
        have HF := Lib.hid (put_fre (err := 2) (f := FV.zero) hB3 (by omega) hO3 (by simp) (by simp) (by simp) (by simp) (show FR FV.zero _ 0 from FV.zero_is _))
        obtain ⟨q0, q1, q2, q3, _⟩ := (hO3.put4 (.bool false) (.slice none 0 0) (.bool false) (.slice none 0 0)).all4
        clear hO3
        go_wp2
        exact bodyPost_ret (v := .tuple #[.agg #[.bool false, .slice none 0 0, .bool false, .slice none 0 0], .int .i64 2]) (by simp [results, Tryz.results86, go_sem, q0, q1, q2, q3]) rfl (by rw [HR.out]; exact HF.out)
      · obtain ⟨r, hr⟩ : ∃ r, r = Rat.divInt pz qz := ⟨_, rfl⟩
        have HM := Lib.hid (show makeR pz qz = (r, 0) by rw [hr]; exact if_neg hz)
        have HR := Lib.hid (show parR0 (pz, 0) (qz, 0) s.data.toList = if rtext r = s.data.toList then (r, 0) else (0, 2) by unfold parR0; rw [if_neg (by simp), if_neg hz, ← hr])
        obtain ⟨x0, x1, _⟩ := hX.all2
        obtain ⟨y0, y1, _⟩ := hY.all2
        obtain ⟨sr, hsrr⟩ : ∃ sr : ByteArray, sr = ⟨(rtext r).toArray⟩ := ⟨_, rfl⟩
        have HTx : Hid (∀ (f : FV) (u : World), FR f u r → Tab u → Calls Tryz.prog 87 #[.agg #[.bool f.p.neg, .slice f.p.A f.p.n f.p.c, .bool f.l.neg, .slice f.l.A f.l.n f.l.c]] u (fun e w' => e = .returned (.string sr) ∧ Below u.heap.size u w')) := Lib.hid fun f u h t => by rw [hsrr]; exact FString_r h t
        obtain ⟨bb, hbb⟩ : ∃ bb, decide (rtext r = s.data.toList) = bb := ⟨_, rfl⟩
        have hcmp : (sr.toList == s.toList) = bb := by
          rw [← hbb, hsrr, ByteArray.toList_mk, ByteArray.toList_eq]
          by_cases h : rtext r = s.data.toList <;> simp [h]
        have HBB := Lib.hid hbb
        have HCMP := Lib.hid hcmp
        clear hz hr hsrr hbb hcmp
        go_wp2_with fail
        refine (makeF hx hy).mono ?_
        rw [HM.out]
        rintro e w5 ⟨f, rfl, k5, hf⟩
        go_upto_region 9 with fail
        refine wp_new1 fun w6 hF k6 => ?_
        have kk := Below.call k5 k6
        have hB3 := Below.call hB2 kk
        have hO3 := hO2.on kk
        have hf2 := hf.on k6
        replace hTab := hTab.on kk
        obtain ⟨c0, c1, c2, c3, _⟩ := hF.all4
        clear hx hy hX hY x0 x1 y0 y1 k5 k6 kk hB2 hO2 hf
        go_wp2_with fail
        refine (HTx.out _ _ hf2 hTab).mono ?_
        rintro e w7 ⟨rfl, k7⟩
        have hB4 := Below.call hB3 k7
        have hO4 := hO3.on k7
        have hF4 := hF.on k7
        have hf4 := hf2.on k7
        have hcmp := HCMP.out
        clear hB3 hO3 hF hf2 c0 c1 c2 c3
        cases bb
        · have hcmp2 : (sr.toList != s.toList) = true := by rw [bne, hcmp]; rfl
          replace HR := Lib.hid (HR.out.trans (if_neg (by simpa using HBB.out)))
          clear hF4 hf4
          obtain ⟨z0, z1, z2, z3, f0, f1, f2, f3⟩ := hO4.all4
          have HF := Lib.hid (put_fre (err := 2) (f := FV.zero) hB4 (by omega) hO4 (by simp) (by simp) (by simp) (by simp) (show FR FV.zero _ 0 from FV.zero_is _))
          obtain ⟨q0, q1, q2, q3, _⟩ := (hO4.put4 (.bool false) (.slice none 0 0) (.bool false) (.slice none 0 0)).all4
          clear hO4
          go_wp2
          exact bodyPost_ret (v := .tuple #[.agg #[.bool false, .slice none 0 0, .bool false, .slice none 0 0], .int .i64 2]) (by simp [results, Tryz.results86, go_sem, q0, q1, q2, q3]) rfl (by rw [HR.out]; exact HF.out)
        · have hcmp2 : (sr.toList != s.toList) = false := by rw [bne, hcmp]; rfl
          replace HR := Lib.hid (HR.out.trans (if_pos (by simpa using HBB.out)))
          obtain ⟨c0, c1, c2, c3, _⟩ := hF4.all4
          obtain ⟨z0, z1, z2, z3, f0, f1, f2, f3⟩ := hO4.all4
          have HF := Lib.hid (put_fre (err := 0) hB4 (by omega) hO4 (by simp) (by simp) (by simp) (by simp) hf4)
          obtain ⟨q0, q1, q2, q3, _⟩ := (hO4.put4 (.bool f.p.neg) (.slice f.p.A f.p.n f.p.c) (.bool f.l.neg) (.slice f.l.A f.l.n f.l.c)).all4
          clear hO4 hf4
          go_wp2
          exact bodyPost_ret (v := .tuple #[.agg #[.bool f.p.neg, .slice f.p.A f.p.n f.p.c, .bool f.l.neg, .slice f.l.A f.l.n f.l.c], .int .i64 0]) (by simp [results, Tryz.results86, go_sem, q0, q1, q2, q3]) rfl (by rw [HR.out]; exact HF.out)
    · have HR := Lib.hid (show parR0 (pz, pe) (qz, qe) s.data.toList = (0, 2) by
        unfold parR0
        rw [if_pos (by simp only; omega)])
      clear hx hy hX hY
      by_cases h1 : pe = 0
      · subst h1
        have hqe : (qe != 0) = true := by simp; omega
        clear he
        obtain ⟨z0, z1, z2, z3, f0, f1, f2, f3⟩ := hO2.all4
        have HF := Lib.hid (put_fre (err := 2) (f := FV.zero) hB2 (by omega) hO2 (by simp) (by simp) (by simp) (by simp) (show FR FV.zero _ 0 from FV.zero_is _))
        obtain ⟨q0, q1, q2, q3, _⟩ := (hO2.put4 (.bool false) (.slice none 0 0) (.bool false) (.slice none 0 0)).all4
        clear hO2
        go_wp2
        exact bodyPost_ret (v := .tuple #[.agg #[.bool false, .slice none 0 0, .bool false, .slice none 0 0], .int .i64 2]) (by simp [results, Tryz.results86, go_sem, q0, q1, q2, q3]) rfl (by rw [HR.out]; exact HF.out)
      · have hqe : (pe != 0) = true := by simp; omega
        clear he h1
        obtain ⟨z0, z1, z2, z3, f0, f1, f2, f3⟩ := hO2.all4
        have HF := Lib.hid (put_fre (err := 2) (f := FV.zero) hB2 (by omega) hO2 (by simp) (by simp) (by simp) (by simp) (show FR FV.zero _ 0 from FV.zero_is _))
        obtain ⟨q0, q1, q2, q3, _⟩ := (hO2.put4 (.bool false) (.slice none 0 0) (.bool false) (.slice none 0 0)).all4
        clear hO2
        go_wp2
        exact bodyPost_ret (v := .tuple #[.agg #[.bool false, .slice none 0 0, .bool false, .slice none 0 0], .int .i64 2]) (by simp [results, Tryz.results86, go_sem, q0, q1, q2, q3]) rfl (by rw [HR.out]; exact HF.out)
theorem small_top {z : Int} (h : z.natAbs < 18446744073709551616) : z.natAbs < top := Nat.lt_trans h two_64
theorem times_s {x y : IV} {a b c : Int} {g : Nat} {w : World} (hO : Own w g 29 [.bool x.neg, .slice x.A x.n x.c, .bool y.neg, .slice y.A y.n y.c]) (hx : x.is w a) (hy : y.is w b) (hc : a * b = c) (hs : c.natAbs < 18446744073709551616) :
    Calls Tryz.prog 137 #[.slice (some ⟨g, 0, none⟩) 2 2] w (IntE w c 0) := by
  have := times_iv hO hx hy
  rwa [hc, clip_in (small_top hs), lim_in (small_top hs)] at this
/-- The state of power's loop. -/
structure PwSt (W : World) (b8 : Nat) (r : IV) (y : Int) (wr : World) : Prop where
  bel : Below W.heap.size W wr
  own : Own wr b8 29 [.bool r.neg, .slice r.A r.n r.c]
  is_ : r.is wr y
theorem pw_next {z : Int} {i : Nat} (h2 : 2 ≤ z) (h3 : z ≤ 3) (hi : i < 3) : (z ^ i * z = z ^ (i + 1)) ∧ (z ^ (i + 1)).natAbs < 18446744073709551616 := by
  refine ⟨(Int.pow_succ z i).symm, ?_⟩
  rcases (by omega : z = 2 ∨ z = 3) with rfl | rfl <;> rcases (by omega : i = 0 ∨ i = 1 ∨ i = 2) with rfl | rfl | rfl <;> decide
set_option maxRecDepth 100000 in
set_option maxHeartbeats 3200000 in
theorem power_3 {x : IV} {z : Int} {w : World} (hx : x.is w z) (h2 : 2 ≤ z) (h3 : z ≤ 3) (c : Int) (hzc : z ^ 3 = c) : Calls Tryz.prog 177 #[.agg #[.bool x.neg, .slice x.A x.n x.c], .int .i64 3] w (IntE w c 0) := by
  have hz1 : -1 ≤ z := by omega
  have hz2 : ¬ z ≤ 1 := by omega
  have HPN : Hid (∀ i : Nat, i < 3 → (z ^ i * z = z ^ (i + 1)) ∧ (z ^ (i + 1)).natAbs < 18446744073709551616) := Lib.hid fun i hi => pw_next h2 h3 hi
  have HZC := Lib.hid hzc
  clear hzc
  go_enter Tryz.func177, Tryz.ntmps177
  go_upto_region 1 with fail
  refine wp_new2 fun W hA hO hB => ?_
  obtain ⟨a0, a1, _⟩ := hA.all2
  replace hx := hx.on hB
  go_wp2_with fail
  refine (small_iv hx).mono ?_
  rintro e w1 ⟨k1, hsm⟩
  rcases hsm with ⟨_, _, rfl⟩ | ⟨hbig, _⟩
  case inr => omega
  clear a0 a1
  go_wp2_with fail
  refine (from_iv 1 _ (by omega) (by omega)).mono ?_
  rintro e w2 ⟨r, rfl, k2, hr⟩
  go_upto_region 7 with fail
  refine wp_new1 fun w3 h8 k3 => ?_
  have kk := Below.call k1 k2
  have hg8 : W.heap.size ≤ w2.heap.size := kk.size
  have hst0 : PwSt W w2.heap.size r 1 w3 := ⟨Below.call kk k3, h8, hr.on k3⟩
  obtain ⟨b8, hb8⟩ : ∃ b8, b8 = w2.heap.size := ⟨_, rfl⟩
  rw [← hb8] at hst0 hg8 ⊢
  clear k1 k2 k3 kk h8 hr hb8
  go_wp2_with fail
  go_loopw [36] (fun s wr => ∃ (i : Nat) (r : IV) (y : Int), i ≤ 3 ∧ s = .int .i64 (i : Int) ∧ Hid (y = z ^ i) ∧ PwSt W b8 r y wr) (fun s _ => 3 - (intOf s).toNat)
  case atStart => exact ⟨0, r, 1, by omega, rfl, Lib.hid (by simp), hst0⟩
  case round =>
    obtain ⟨i, r, y, hi, rfl, hy, hst⟩ := hrel
    clear hst0
    obtain ⟨c0, c1, cf0, cf1⟩ := hst.own.all2
    rcases Nat.lt_or_eq_of_le hi with hlt | heq
    · have i3 : (i : Int) < 3 := by omega
      obtain ⟨a0, a1, _⟩ := (hA.on hst.bel).all2
      have hS := Own.new wr 29 [.bool r.neg, .slice r.A r.n r.c, .bool x.neg, .slice x.A x.n x.c]
      have k4 := below_new wr (.cells #[.bool r.neg, .slice r.A r.n r.c, .bool x.neg, .slice x.A x.n x.c] 29)
      have hT := times_s hS (hst.is_.on k4) ((hx.on hst.bel).on k4) (c := z ^ (i + 1)) (by rw [hy.out]; exact (HPN.out i hlt).1) (HPN.out i hlt).2
      have HT := Lib.hid hT
      clear hT hS
      go_wp2_with fail
      refine (HT.out).mono ?_
      rintro e w5 ⟨q, rfl, k5, hq⟩
      go_upto_region 10 with fail
      refine wp_new1 fun w6 h9 k6 => ?_
      have kk := Below.call (Below.call k4 k5) k6
      have o8 := hst.own.on kk
      have hb6 := Below.call hst.bel kk
      have hq6 := hq.on k6
      clear c0 c1 cf0 cf1 a0 a1 HT
      obtain ⟨c0, c1, cf0, cf1⟩ := o8.all2
      obtain ⟨d0, d1, _⟩ := h9.all2
      have HN := Lib.hid (PwSt.mk (Below.put2 hb6 hg8 (.bool q.neg) (.slice q.A q.n q.c)) (o8.put2 (.bool q.neg) (.slice q.A q.n q.c)) (hq6.put2 o8 (by simp) (by simp) _ _))
      clear hst hb6 hq6 hq kk k4 k5 k6 o8
      go_wp2_with fail
      go_roundw
      case rel => exact ⟨i + 1, q, _, by omega, by go_num, Lib.hid rfl, HN.out⟩
      case measure => simp [intOf]; omega
    · subst heq
      have hO2 := hO.on hst.bel
      obtain ⟨z0, z1, f0, f1⟩ := hO2.all2
      have hyc : y = c := by rw [hy.out]; exact HZC.out
      have hr := hst.is_
      rw [hyc] at hr
      have HF : Hid (IntE w c 0 (.returned (.tuple #[.agg #[.bool r.neg, .slice r.A r.n r.c], .int .i64 0])) ((wr.setCell ⟨w.heap.size + 1, 0, none⟩ (.bool r.neg)).setCell ⟨w.heap.size + 1, 1, none⟩ (.slice r.A r.n r.c))) :=
        Lib.hid ⟨r, rfl, Below.put2 (Below.call hB hst.bel) (by omega) _ _, hr.put2 hO2 (by simp) (by simp) _ _⟩
      obtain ⟨q0, q1, _⟩ := (hO2.put2 (.bool r.neg) (.slice r.A r.n r.c)).all2
      clear hr hyc hst hO2 hy
      go_wp2
      exact bodyPost_ret (v := .tuple #[.agg #[.bool r.neg, .slice r.A r.n r.c], .int .i64 0]) (by simp [results, Tryz.results177, go_sem, q0, q1]) rfl HF.out
theorem tw_parts : (Rat.divInt 2 3).num = 2 ∧ ((Rat.divInt 2 3).den : Int) = 3 := by decide +kernel
theorem et_parts : (Rat.divInt 8 27).num = 8 ∧ ((Rat.divInt 8 27).den : Int) = 27 := by decide +kernel
set_option maxRecDepth 100000 in
set_option maxHeartbeats 3200000 in
theorem Pow_23 {f : FV} {w : World} (hf : FR f w (Rat.divInt 2 3)) : Calls Tryz.prog 136 #[.agg #[.bool f.p.neg, .slice f.p.A f.p.n f.p.c, .bool f.l.neg, .slice f.l.A f.l.n f.l.c], .int .i64 3] w (RetFRE w (Rat.divInt 8 27) 0) := by
  have hf : f.is w 2 3 := by
    have := hf.is
    rwa [tw_parts.1, tw_parts.2] at this
  go_enter Tryz.func136, Tryz.ntmps136
  go_upto_region 1 with fail
  refine wp_new2 fun W hA hO hB => ?_
  replace hf := hf.on hB
  obtain ⟨a0, a1, a2, a3, _⟩ := hA.all4
  go_wp2_with fail
  refine (power_3 hf.num (by omega) (by omega) 8 (by decide)).mono ?_
  rintro e w1 ⟨x, rfl, k1, hx⟩
  clear a0 a1 a2 a3
  go_upto_region 6 with fail
  refine wp_new1 fun w2 hX k2 => ?_
  have kk := Below.call k1 k2
  replace hB := Below.call hB kk
  replace hO := hO.on kk
  replace hA := hA.on kk
  replace hf := hf.on kk
  replace hx := hx.on k2
  clear k1 k2 kk
  obtain ⟨a0, a1, a2, a3, _⟩ := hA.all4
  go_wp2_with fail
  refine (Den_any hf).mono ?_
  rintro e w3 ⟨d, rfl, k3, hd⟩
  clear a0 a1 a2 a3
  go_wp2_with fail
  refine (power_3 hd (by omega) (by omega) 27 (by decide)).mono ?_
  rintro e w4 ⟨y, rfl, k4, hy⟩
  go_upto_region 7 with fail
  refine wp_new1 fun w5 hY k5 => ?_
  have kk := Below.call (Below.call k3 k4) k5
  replace hB := Below.call hB kk
  replace hO := hO.on kk
  replace hX := hX.on kk
  replace hx := hx.on kk
  replace hy := hy.on k5
  clear k3 k4 k5 kk hd hf hA
  obtain ⟨x0, x1, _⟩ := hX.all2
  obtain ⟨y0, y1, _⟩ := hY.all2
  go_wp2_with fail
  refine (lowest_ok hx hy (by omega) (by decide)).mono ?_
  rintro e w6 ⟨g, rfl, k6, hg⟩
  have hg' : FR g w6 (Rat.divInt 8 27) := by
    unfold FR
    rw [et_parts.1, et_parts.2]
    exact hg
  have hB2 := Below.call hB k6
  have hO2 := hO.on k6
  clear hX hY hx hy x0 x1 y0 y1 hB hO hg
  obtain ⟨z0, z1, z2, z3, f0, f1, f2, f3⟩ := hO2.all4
  have HF := Lib.hid (put_fre (err := 0) hB2 (by omega) hO2 (by simp) (by simp) (by simp) (by simp) hg')
  obtain ⟨q0, q1, q2, q3, _⟩ := (hO2.put4 (.bool g.p.neg) (.slice g.p.A g.p.n g.p.c) (.bool g.l.neg) (.slice g.l.A g.l.n g.l.c)).all4
  clear hO2 hg'
  go_wp2
  exact bodyPost_ret (v := .tuple #[.agg #[.bool g.p.neg, .slice g.p.A g.p.n g.p.c, .bool g.l.neg, .slice g.l.A g.l.n g.l.c], .int .i64 0]) (by simp [results, Tryz.results136, go_sem, q0, q1, q2, q3]) rfl HF.out
theorem sm_small {z : Int} (h : z.natAbs < 10000) : Sm 1 z := by unfold Sm; omega
theorem smr_di {p q : Int} (hp : p.natAbs < 10000) (hq : q.natAbs < 10000) (h0 : q ≠ 0) : SmR 1 (Rat.divInt p q) := SmR.divInt (sm_small hp) (sm_small hq) h0
theorem itoa_s (n : Nat) (h : n < 10) : Lib.itoa (n : Int) = [UInt8.ofNat (48 + n)] := by
  rw [itoa_nat, dec_small h]
theorem txt1 : rtext (Rat.divInt 6 (-8)) = [45, 51, 47, 52] := by
  have h : (Rat.divInt 6 (-8)).num = -3 ∧ ((Rat.divInt 6 (-8)).den : Int) = ((4 : Nat) : Int) := by decide +kernel
  unfold rtext ftext
  rw [h.1, h.2, if_neg (by decide), itoa_m3, itoa_s 4 (by omega)]
  rfl
theorem txt2 : rtext (Rat.divInt 5 6) = [53, 47, 54] := by
  have h : (Rat.divInt 5 6).num = ((5 : Nat) : Int) ∧ ((Rat.divInt 5 6).den : Int) = ((6 : Nat) : Int) := by decide +kernel
  unfold rtext ftext
  rw [h.1, h.2, if_neg (by decide), itoa_s 5 (by omega), itoa_s 6 (by omega)]
  rfl
theorem txt3 : rtext (Rat.divInt 8 27) = [56, 47, 50, 55] := by
  have h : (Rat.divInt 8 27).num = ((8 : Nat) : Int) ∧ ((Rat.divInt 8 27).den : Int) = ((27 : Nat) : Int) := by decide +kernel
  unfold rtext ftext
  rw [h.1, h.2, if_neg (by decide), itoa_s 8 (by omega), itoa_nat, dec_lit (l := [50, 55]) (by decide) (by decide) (by decide) (by decide)]
  rfl
theorem par_not {p q : Nat} (hp : ((p : Nat) : Int).natAbs < top) (hq : ((q : Nat) : Int).natAbs < top) (h0 : (q : Int) ≠ 0) (l : List UInt8) (hl : l = Lib.itoa (p : Int) ++ 47 :: Lib.itoa (q : Int)) (hne : rtext (Rat.divInt p q) ≠ l) : parR l = (0, 2) := by
  have ep := Txt.num_itoa (T := top) (z := (p : Int)) hp (itoa_5000 hp)
  have eq := Txt.num_itoa (T := top) (z := (q : Int)) hq (itoa_5000 hq)
  have ht := take_slash (no47_itoa (p : Int)) (Lib.itoa (q : Int))
  have h1 : topS l = Lib.itoa (p : Int) := by rw [hl]; exact ht.1
  have h2 : botS l = Lib.itoa (q : Int) := by
    unfold botS
    rw [if_pos (by rw [hl]; simp), hl, ht.2]; rfl
  unfold parR parR0
  rw [h1, h2, ep, eq, if_neg (by simp), if_neg h0, if_neg hne]
theorem par24 : parR [50, 47, 52] = (0, 2) := by
  refine par_not (p := 2) (q := 4) (small_top (by decide)) (small_top (by decide)) (by decide) _ (by rw [itoa_s 2 (by omega), itoa_s 4 (by omega)]; rfl) ?_
  have h : (Rat.divInt (2 : Nat) (4 : Nat)).num = ((1 : Nat) : Int) ∧ ((Rat.divInt (2 : Nat) (4 : Nat)).den : Int) = ((2 : Nat) : Int) := by decide +kernel
  unfold rtext ftext
  rw [h.1, h.2, if_neg (by decide), itoa_s 1 (by omega), itoa_s 2 (by omega)]
  decide
theorem par31 : parR [51, 47, 49] = (0, 2) := by
  refine par_not (p := 3) (q := 1) (small_top (by decide)) (small_top (by decide)) (by decide) _ (by rw [itoa_s 3 (by omega), itoa_s 1 (by omega)]; rfl) ?_
  have h : (Rat.divInt (3 : Nat) (1 : Nat)).num = ((3 : Nat) : Int) ∧ ((Rat.divInt (3 : Nat) (1 : Nat)).den : Int) = 1 := by decide +kernel
  unfold rtext ftext
  rw [h.1, h.2, if_pos rfl, itoa_s 3 (by omega)]
  decide
set_option maxRecDepth 100000 in
set_option maxHeartbeats 6400000 in
theorem lives4_any (w : World) (hTab0 : Tab w) : Calls Tryz.prog 70 #[] w (RetBool w true) := by
  have HAd : Hid (∀ (f g : FV) (u : World), FR f u (Rat.divInt 1 2) → FR g u (Rat.divInt 1 3) → Calls Tryz.prog 74 #[.agg #[.bool f.p.neg, .slice f.p.A f.p.n f.p.c, .bool f.l.neg, .slice f.l.A f.l.n f.l.c], .agg #[.bool g.p.neg, .slice g.p.A g.p.n g.p.c, .bool g.l.neg, .slice g.l.A g.l.n g.l.c]] u (RetFRE u (Rat.divInt 5 6) 0)) := Lib.hid fun f g u h1 h2 => by
    have := addF h1 h2
    rw [addR_ok (smr_di (p := 1) (q := 2) (by decide) (by decide) (by decide)) (smr_di (p := 1) (q := 3) (by decide) (by decide) (by decide)) (by decide)] at this
    rwa [show Rat.divInt 1 2 + Rat.divInt 1 3 = Rat.divInt 5 6 by decide +kernel] at this
  have HDv : Hid (∀ (f g : FV) (u : World), FR f u ((1 : Int) : Rat) → FR g u ((0 : Int) : Rat) → Calls Tryz.prog 80 #[.agg #[.bool f.p.neg, .slice f.p.A f.p.n f.p.c, .bool f.l.neg, .slice f.l.A f.l.n f.l.c], .agg #[.bool g.p.neg, .slice g.p.A g.p.n g.p.c, .bool g.l.neg, .slice g.l.A g.l.n g.l.c]] u (RetFRE u 0 1)) := Lib.hid fun f g u h1 h2 => by
    have := divF h1 h2
    rwa [show divR ((1 : Int) : Rat) ((0 : Int) : Rat) = (0, 1) from if_pos rfl] at this
  have HSub : Hid (∀ (f g : FV) (u : World), FR f u ((1 : Int) : Rat) → FR g u (Rat.divInt 1 3) → Calls Tryz.prog 76 #[.agg #[.bool f.p.neg, .slice f.p.A f.p.n f.p.c, .bool f.l.neg, .slice f.l.A f.l.n f.l.c], .agg #[.bool g.p.neg, .slice g.p.A g.p.n g.p.c, .bool g.l.neg, .slice g.l.A g.l.n g.l.c]] u (RetFRE u (Rat.divInt 2 3) 0)) := Lib.hid fun f g u h1 h2 => by
    have := subF h1 h2
    rw [subR_ok (a := ((1 : Int) : Rat)) (j := 1) ⟨sm_small (by decide), sm_small (by decide)⟩ (smr_di (p := 1) (q := 3) (by decide) (by decide) (by decide)) (by decide)] at this
    rwa [show ((1 : Int) : Rat) - Rat.divInt 1 3 = Rat.divInt 2 3 by decide +kernel] at this
  have HP0 : Hid (∀ u, Tab u → Calls Tryz.prog 86 #[.string ⟨#[50, 47, 52]⟩] u (RetFRE u 0 2)) := Lib.hid fun u hT => by
    have := ParseF_any ⟨#[50, 47, 52]⟩ (by decide) u hT
    rwa [show (⟨#[50, 47, 52]⟩ : ByteArray).data.toList = [50, 47, 52] from rfl, par24] at this
  have HP1 : Hid (∀ u, Tab u → Calls Tryz.prog 86 #[.string ⟨#[51, 47, 49]⟩] u (RetFRE u 0 2)) := Lib.hid fun u hT => by
    have := ParseF_any ⟨#[51, 47, 49]⟩ (by decide) u hT
    rwa [show (⟨#[51, 47, 49]⟩ : ByteArray).data.toList = [51, 47, 49] from rfl, par31] at this
  have hTab := hTab0
  have b1 := Below.refl w.heap.size w
  go_enter Tryz.func70, Tryz.ntmps70
  go_wp2_with fail
  refine (ofF 6 (-8) _ ⟨by omega, by omega⟩ ⟨by omega, by omega⟩ (by omega)).mono ?_
  rintro e v1 ⟨a, rfl, k1_, ha⟩
  go_upto_region 2 with fail
  refine wp_new1 fun v2 hA k2_ => ?_
  have kk_ := Below.call k1_ k2_
  replace hTab := hTab.on kk_
  replace ha := ha.on k2_
  replace b1 := Below.call b1 kk_
  clear k1_ k2_ kk_
  go_wp2_with fail
  refine (ofF 1 2 _ ⟨by omega, by omega⟩ ⟨by omega, by omega⟩ (by omega)).mono ?_
  rintro e v3 ⟨u, rfl, k1_, hu⟩
  go_upto_region 3 with fail
  refine wp_new1 fun v4 hU k2_ => ?_
  have kk_ := Below.call k1_ k2_
  replace hTab := hTab.on kk_
  replace ha := ha.on kk_
  replace hA := hA.on kk_
  replace hu := hu.on k2_
  replace b1 := Below.call b1 kk_
  clear k1_ k2_ kk_
  go_wp2_with fail
  refine (ofF 1 3 _ ⟨by omega, by omega⟩ ⟨by omega, by omega⟩ (by omega)).mono ?_
  rintro e v5 ⟨t, rfl, k1_, ht⟩
  go_upto_region 4 with fail
  refine wp_new1 fun v6 hT k2_ => ?_
  have kk_ := Below.call k1_ k2_
  replace hTab := hTab.on kk_
  replace ha := ha.on kk_
  replace hA := hA.on kk_
  replace hu := hu.on kk_
  replace hU := hU.on kk_
  replace ht := ht.on k2_
  replace b1 := Below.call b1 kk_
  clear k1_ k2_ kk_
  obtain ⟨c0_0, c0_1, c0_2, c0_3, _⟩ := hU.all4
  obtain ⟨c1_0, c1_1, c1_2, c1_3, _⟩ := hT.all4
  go_wp2_with fail
  refine (HAd.out _ _ _ hu ht).mono ?_
  rintro e v7 ⟨b, rfl, k1_, hb⟩
  clear c0_0 c0_1 c0_2 c0_3 c1_0 c1_1 c1_2 c1_3
  go_upto_region 5 with fail
  refine wp_new1 fun v8 hB k2_ => ?_
  have kk_ := Below.call k1_ k2_
  replace hTab := hTab.on kk_
  replace ha := ha.on kk_
  replace hA := hA.on kk_
  replace hu := hu.on kk_
  replace hU := hU.on kk_
  replace ht := ht.on kk_
  replace hT := hT.on kk_
  replace hb := hb.on k2_
  replace b1 := Below.call b1 kk_
  clear k1_ k2_ kk_
  clear hu hU
  go_wp2_with fail
  refine (whole_any 1 _ ⟨by omega, by omega⟩).mono ?_
  rintro e v9 ⟨p, rfl, k1_, hp⟩
  replace hTab := hTab.on k1_
  replace ha := ha.on k1_
  replace hA := hA.on k1_
  replace ht := ht.on k1_
  replace hT := hT.on k1_
  replace hb := hb.on k1_
  replace hB := hB.on k1_
  replace b1 := Below.call b1 k1_
  clear k1_
  go_wp2_with fail
  refine (whole_any 0 _ ⟨by omega, by omega⟩).mono ?_
  rintro e v10 ⟨q, rfl, k1_, hq⟩
  replace hTab := hTab.on k1_
  replace ha := ha.on k1_
  replace hA := hA.on k1_
  replace ht := ht.on k1_
  replace hT := hT.on k1_
  replace hb := hb.on k1_
  replace hB := hB.on k1_
  replace hp := hp.on k1_
  replace b1 := Below.call b1 k1_
  clear k1_
  go_wp2_with fail
  refine (HDv.out _ _ _ hp hq).mono ?_
  rintro e v11 ⟨d, rfl, k1_, hd⟩
  go_upto_region 6 with fail
  refine wp_new1 fun v12 hD k2_ => ?_
  have kk_ := Below.call k1_ k2_
  replace hTab := hTab.on kk_
  replace ha := ha.on kk_
  replace hA := hA.on kk_
  replace ht := ht.on kk_
  replace hT := hT.on kk_
  replace hb := hb.on kk_
  replace hB := hB.on kk_
  replace hp := hp.on kk_
  replace hq := hq.on kk_
  replace hd := hd.on k2_
  replace b1 := Below.call b1 kk_
  clear k1_ k2_ kk_
  clear hp hq hd hD
  obtain ⟨bT, hbT⟩ : ∃ bT, bT = v5.heap.size := ⟨_, rfl⟩
  rw [← hbT] at hT ⊢
  clear hbT
  refine wp_region_boxes v12 [sFR ((1 : Int) : Rat), Spec.eq (.agg #[.bool t.p.neg, .slice t.p.A t.p.n t.p.c, .bool t.l.neg, .slice t.l.A t.l.n t.l.c]), sFRE (Rat.divInt 2 3) 0, sFRE (Rat.divInt 2 3) 0, sFR (Rat.divInt 2 3), Spec.eq (.int .i64 0), Spec.any, Spec.any, Spec.eq (.int .i64 0)]
      [{ A := 6, j := 7, t := 11, T := 31, zs := [.bool false, .slice none 0 0, .bool false, .slice none 0 0], X := fun us w => ∃ x : FV, us = [.bool x.p.neg, .slice x.p.A x.p.n x.p.c, .bool x.l.neg, .slice x.l.A x.l.n x.l.c] ∧ FR x w (Rat.divInt 2 3), up := fun ⟨x, e, hx⟩ k => ⟨x, e, hx.keeps k⟩ }]
      (by kernel_rfl) (by kernel_rfl) rfl (by kernel_rfl) rfl (Below.drew (Below.refl _ _)) ?_ ?_ ⟨rfl, rfl, trivial⟩ ?_
  ·
    refine RegSteps.cons ?_ ?_
    · intro _ az wz hC hF hD _ K hK; clear hF hD; refine want_none rfl ?_; go_simp; refine (whole_any 1 _ ⟨by omega, by omega⟩).mono ?_; rintro e wy ⟨x, rfl, k, hx⟩; exact hK _ _ (Below.call hC k) k ⟨x, rfl, hx⟩
    refine RegSteps.cons ?_ ?_
    · intro _ az wz hC hF hD _ K hK; have q5 : az.tmps[5]? = some (.pointer (some ⟨bT, 0, none⟩)) := hF 5 rfl; obtain ⟨l0, l1, l2, l3, _⟩ := (hT.on hC).all4; clear hF hD; refine want_none rfl ?_; go_simp; exact hK _ _ hC (Below.refl _ _) rfl
    refine RegSteps.cons ?_ ?_
    · intro _ az wz hC hF hD _ K hK; obtain ⟨_, q44, x44, rfl, hx44⟩ := dep hD 0 rfl rfl rfl rfl; obtain ⟨_, q45, rfl⟩ := dep hD 1 rfl rfl rfl rfl; clear hF hD; refine want_none rfl ?_; go_simp; refine (HSub.out _ _ _ hx44 (ht.on hC)).mono ?_; rintro e wy ⟨x, rfl, k, hx⟩; exact hK _ _ (Below.call hC k) k ⟨x, rfl, hx⟩
    refine RegSteps.cons ?_ ?_
    · intro _ az wz hC hF hD _ K hK; obtain ⟨_, q46, x46, rfl, hx46⟩ := dep hD 2 rfl rfl rfl rfl; clear hF hD; refine want_none rfl ?_; go_simp; exact hK _ _ hC (Below.refl _ _) ⟨x46, rfl, hx46⟩
    refine RegSteps.cons ?_ ?_
    · intro _ az wz hC hF hD _ K hK; obtain ⟨_, q43, x43, rfl, hx43⟩ := dep hD 3 rfl rfl rfl rfl; clear hF hD; refine want_none rfl ?_; go_simp; exact hK _ _ hC (Below.refl _ _) ⟨x43, rfl, hx43⟩
    refine RegSteps.cons ?_ ?_
    · intro _ az wz hC hF hD _ K hK; obtain ⟨_, q43, x43, rfl, hx43⟩ := dep hD 3 rfl rfl rfl rfl; clear hF hD; refine want_none rfl ?_; go_simp; exact hK _ _ hC (Below.refl _ _) rfl
    refine RegSteps.cons ?_ ?_
    · exact fun h => by cases h
    refine RegSteps.cons ?_ ?_
    · exact fun h => by cases h
    refine RegSteps.cons ?_ ?_
    · intro _ az wz hC hF hD _ K hK; obtain ⟨_, q48, rfl⟩ := dep hD 5 rfl rfl rfl rfl; clear hF hD; refine want_none rfl ?_; go_simp; exact hK _ _ hC (Below.refl _ _) rfl
    exact RegSteps.nil
  · refine ⟨?_, trivial⟩
    · refine ⟨⟨_, rfl, rfl, rfl, fun az wz K hK => by go_simp; exact hK⟩, ⟨_, rfl, rfl, rfl, ?_⟩, by simp [Word], by simp⟩
      intro az wz gz cs hC hF hD hA K hK
      obtain ⟨p1, p2, p3, p4, p5⟩ := hA
      obtain ⟨_, q47, x, rfl, hx⟩ := dep hD 4 rfl rfl rfl rfl
      obtain ⟨c0, c1, c2, c3, rfl⟩ := list_4 (l := cs) p4
      have z0 := p3.c0
      have z1 := p3.c1
      have z2 := p3.c2
      have z3 := p3.c3
      have f0 := p3.frozen 0
      have f1 := p3.frozen 1
      have f2 := p3.frozen 2
      have f3 := p3.frozen 3
      clear hF hD p3 p5
      refine want_none rfl ?_
      go_simp
      exact hK [.bool x.p.neg, .slice x.p.A x.p.n x.p.c, .bool x.l.neg, .slice x.l.A x.l.n x.l.c] rfl (by simp [Word]) ⟨x, rfl, hx⟩
  intro v13 gs hC hgl hbf
  obtain ⟨gm, rfl⟩ := list_1 hgl
  obtain ⟨⟨hg0, us0, hOb0, ⟨m, rfl, hm⟩⟩, _⟩ := hbf
  rintro _ ⟨y44, rfl, _⟩ _ rfl _ ⟨y46, rfl, _⟩ _ ⟨y43, rfl, _⟩ _ ⟨y47, rfl, _⟩ _ rfl _ rfl _ _ _ rfl
  simp only [FinOK, Act.put, List.setIfInBounds_toArray, List.set_cons_zero, List.set_cons_succ]
  replace hTab := hTab.on hC
  replace ha := ha.on hC
  replace hA := hA.on hC
  replace ht := ht.on hC
  replace hT := hT.on hC
  replace hb := hb.on hC
  replace hB := hB.on hC
  replace b1 := Below.call b1 hC
  have hM := hOb0
  clear hOb0
  clear hC
  clear ht hT
  obtain ⟨c0_0, c0_1, c0_2, c0_3, _⟩ := hM.all4
  go_wp2_with fail
  refine (Pow_23 hm).mono ?_
  rintro e v14 ⟨c, rfl, k1_, hc⟩
  clear c0_0 c0_1 c0_2 c0_3
  go_upto_region 8 with fail
  refine wp_new1 fun v15 hC k2_ => ?_
  have kk_ := Below.call k1_ k2_
  replace hTab := hTab.on kk_
  replace ha := ha.on kk_
  replace hA := hA.on kk_
  replace hb := hb.on kk_
  replace hB := hB.on kk_
  replace hm := hm.on kk_
  replace hM := hM.on kk_
  replace hc := hc.on k2_
  replace b1 := Below.call b1 kk_
  clear k1_ k2_ kk_
  clear hm hM
  go_wp2_with fail
  refine (HP0.out _ hTab).mono ?_
  rintro e v16 ⟨i, rfl, k1_, hi⟩
  go_upto_region 9 with fail
  refine wp_new1 fun v17 hI k2_ => ?_
  have kk_ := Below.call k1_ k2_
  replace hTab := hTab.on kk_
  replace ha := ha.on kk_
  replace hA := hA.on kk_
  replace hb := hb.on kk_
  replace hB := hB.on kk_
  replace hc := hc.on kk_
  replace hC := hC.on kk_
  replace hi := hi.on k2_
  replace b1 := Below.call b1 kk_
  clear k1_ k2_ kk_
  go_wp2_with fail
  refine (HP1.out _ hTab).mono ?_
  rintro e v18 ⟨j, rfl, k1_, hj⟩
  go_upto_region 10 with fail
  refine wp_new1 fun v19 hJ k2_ => ?_
  have kk_ := Below.call k1_ k2_
  replace hTab := hTab.on kk_
  replace ha := ha.on kk_
  replace hA := hA.on kk_
  replace hb := hb.on kk_
  replace hB := hB.on kk_
  replace hc := hc.on kk_
  replace hC := hC.on kk_
  replace hi := hi.on kk_
  replace hI := hI.on kk_
  replace hj := hj.on k2_
  replace b1 := Below.call b1 kk_
  clear k1_ k2_ kk_
  clear hi hI hj hJ
  have L1 : Hid (∀ u, FR a u (Rat.divInt 6 (-8)) → Tab u → Calls Tryz.prog 87 #[.agg #[.bool a.p.neg, .slice a.p.A a.p.n a.p.c, .bool a.l.neg, .slice a.l.A a.l.n a.l.c]] u (fun e w' => e = .returned (.string ⟨#[45, 51, 47, 52]⟩) ∧ Below u.heap.size u w')) := Lib.hid fun u h1 h2 => by have := FString_r h1 h2; rwa [txt1] at this
  have L2 : Hid (∀ u, FR b u (Rat.divInt 5 6) → Tab u → Calls Tryz.prog 87 #[.agg #[.bool b.p.neg, .slice b.p.A b.p.n b.p.c, .bool b.l.neg, .slice b.l.A b.l.n b.l.c]] u (fun e w' => e = .returned (.string ⟨#[53, 47, 54]⟩) ∧ Below u.heap.size u w')) := Lib.hid fun u h1 h2 => by have := FString_r h1 h2; rwa [txt2] at this
  have L3 : Hid (∀ u, FR c u (Rat.divInt 8 27) → Tab u → Calls Tryz.prog 87 #[.agg #[.bool c.p.neg, .slice c.p.A c.p.n c.p.c, .bool c.l.neg, .slice c.l.A c.l.n c.l.c]] u (fun e w' => e = .returned (.string ⟨#[56, 47, 50, 55]⟩) ∧ Below u.heap.size u w')) := Lib.hid fun u h1 h2 => by have := FString_r h1 h2; rwa [txt3] at this
  obtain ⟨c0_0, c0_1, c0_2, c0_3, _⟩ := hA.all4
  go_wp2_with fail
  refine (L1.out _ ha hTab).mono ?_
  rintro e v20 ⟨rfl, k1_⟩
  clear c0_0 c0_1 c0_2 c0_3
  replace hTab := hTab.on k1_
  replace ha := ha.on k1_
  replace hA := hA.on k1_
  replace hb := hb.on k1_
  replace hB := hB.on k1_
  replace hc := hc.on k1_
  replace hC := hC.on k1_
  replace b1 := Below.call b1 k1_
  clear k1_
  obtain ⟨c0_0, c0_1, c0_2, c0_3, _⟩ := hB.all4
  go_wp2_with fail
  refine (L2.out _ hb hTab).mono ?_
  rintro e v21 ⟨rfl, k1_⟩
  clear c0_0 c0_1 c0_2 c0_3
  replace hTab := hTab.on k1_
  replace ha := ha.on k1_
  replace hA := hA.on k1_
  replace hb := hb.on k1_
  replace hB := hB.on k1_
  replace hc := hc.on k1_
  replace hC := hC.on k1_
  replace b1 := Below.call b1 k1_
  clear k1_
  obtain ⟨c0_0, c0_1, c0_2, c0_3, _⟩ := hC.all4
  go_wp2_with fail
  refine (L3.out _ hc hTab).mono ?_
  rintro e v22 ⟨rfl, k1_⟩
  clear c0_0 c0_1 c0_2 c0_3
  replace hTab := hTab.on k1_
  replace ha := ha.on k1_
  replace hA := hA.on k1_
  replace hb := hb.on k1_
  replace hB := hB.on k1_
  replace hc := hc.on k1_
  replace hC := hC.on k1_
  replace b1 := Below.call b1 k1_
  clear k1_
  have HB := Lib.hid b1
  go_wp2
  go_returns
  exact ⟨rfl, HB.out⟩
end Go.Proofs.YthafhbogpfggjaaGreatDoor
