/-
  The texts of fractions, plain: what a text spells, and that a fraction's own text spells it.
-/
import Derived.Test.YthafhbogpfggjaaGreatDoorB0
import Derived.Test.YthafhbogpfggjaaGreatDoorX9
import Derived.Test.YthafhbogpfggjaaGreatDoorB2
import Derived.Test.YthafhbogpfggjaaGreatDoorT3
import Derived.Deep.CutBlock
namespace Go.Proofs.YthafhbogpfggjaaGreatDoor
open Go.RowKit Mag
open DecM

/-- The text of a rational number. -/
def rtext (a : Rat) : List UInt8 := ftext a.num (a.den : Int)
/-- In front of the first '/', and behind it. -/
def topS (l : List UInt8) : List UInt8 := l.takeWhile (· != 47)
def botS (l : List UInt8) : List UInt8 := if (47 : UInt8) ∈ l then (l.dropWhile (· != 47)).tail else [49]
def parR0 (p q : Int × Int) (l : List UInt8) : Rat × Int :=
  if p.2 ≠ 0 ∨ q.2 ≠ 0 then (0, 2) else if q.1 = 0 then (0, 2) else if rtext (Rat.divInt p.1 q.1) = l then (Rat.divInt p.1 q.1, 0) else (0, 2)
/-- What a text spells. -/
def parR (l : List UInt8) : Rat × Int := parR0 (Txt.num top (topS l)) (Txt.num top (botS l)) l
theorem no47_dec (n : Nat) : (47 : UInt8) ∉ Lib.decDigits n := fun h => by
  have := dec_isDig n 47 h
  simp [isDig] at this
theorem no47_itoa (z : Int) : (47 : UInt8) ∉ Lib.itoa z := by
  unfold Lib.itoa
  split
  · intro h
    rcases List.mem_cons.1 h with h | h
    · exact absurd h (by decide)
    · exact no47_dec _ h
  · exact no47_dec _
theorem takeWhile_all {l : List UInt8} (h : (47 : UInt8) ∉ l) : l.takeWhile (· != 47) = l := by
  induction l with
  | nil => rfl
  | cons c l ih =>
    have hc : (c != 47) = true := by simp; exact fun e => h (by simp [e])
    rw [List.takeWhile_cons, hc, if_pos rfl, ih fun k => h (List.mem_cons_of_mem _ k)]
theorem take_slash {l : List UInt8} (h : (47 : UInt8) ∉ l) (m : List UInt8) : (l ++ 47 :: m).takeWhile (· != 47) = l ∧ (l ++ 47 :: m).dropWhile (· != 47) = 47 :: m := by
  induction l with
  | nil => simp
  | cons c l ih =>
    have hc : (c != 47) = true := by simp; exact fun e => h (by simp [e])
    obtain ⟨h1, h2⟩ := ih fun k => h (List.mem_cons_of_mem _ k)
    rw [List.cons_append, List.takeWhile_cons, List.dropWhile_cons, hc, if_pos rfl, if_pos rfl, h1, h2]
    exact ⟨rfl, rfl⟩
theorem rat_int {a : Rat} (h : (a.den : Int) = 1) : Rat.divInt a.num 1 = a := by rw [← h]; exact rat_self a
theorem num_one : Txt.num top [49] = (1, 0) := by
  have := Txt.num_itoa (T := top) (z := 1) one_fits (by rw [itoa_1]; decide)
  rwa [itoa_1] at this
/-- A fraction's own text spells it. -/
theorem parR_text {a : Rat} (hp : a.num.natAbs < top) (hq : (a.den : Int).natAbs < top) : parR (rtext a) = (a, 0) := by
  have ep := Txt.num_itoa (T := top) (z := a.num) hp (itoa_5000 hp)
  have eq := Txt.num_itoa (T := top) (z := a.den) hq (itoa_5000 hq)
  by_cases h : (a.den : Int) = 1
  · have e : rtext a = Lib.itoa a.num := by unfold rtext ftext; rw [if_pos h]
    have h1 : topS (rtext a) = Lib.itoa a.num := by rw [e]; exact takeWhile_all (no47_itoa _)
    have h2 : botS (rtext a) = [49] := by rw [e]; exact if_neg (no47_itoa _)
    unfold parR parR0
    rw [h1, h2, ep, num_one, rat_int h]
    simp
  · have e : rtext a = Lib.itoa a.num ++ 47 :: Lib.itoa a.den := by unfold rtext ftext; rw [if_neg h]
    have ht := take_slash (no47_itoa a.num) (Lib.itoa a.den)
    have h1 : topS (rtext a) = Lib.itoa a.num := by rw [e]; exact ht.1
    have h2 : botS (rtext a) = Lib.itoa a.den := by
      unfold botS
      rw [if_pos (by rw [e]; simp), e, ht.2]; rfl
    unfold parR parR0
    rw [h1, h2, ep, eq, rat_self]
    simp
    exact a.den_nz
theorem rtext_inj {a b : Rat} (ha : a.num.natAbs < top ∧ (a.den : Int).natAbs < top) (hb : b.num.natAbs < top ∧ (b.den : Int).natAbs < top) (h : rtext a = rtext b) : a = b := by
  have h1 := parR_text ha.1 ha.2
  rw [h, parR_text hb.1 hb.2] at h1
  exact (congrArg Prod.fst h1).symm
theorem parR_err (l : List UInt8) : ((parR l).2 = 0 ∧ rtext (parR l).1 = l) ∨ ((parR l).2 = 2 ∧ (parR l).1 = 0) := by
  unfold parR parR0
  split
  · exact .inr ⟨rfl, rfl⟩
  · split
    · exact .inr ⟨rfl, rfl⟩
    · split
      · rename_i h; exact .inl ⟨rfl, h⟩
      · exact .inr ⟨rfl, rfl⟩
theorem divInt_fits {p q : Int} (hp : p.natAbs < top) (hq : q.natAbs < top) (h0 : q ≠ 0) : (Rat.divInt p q).num.natAbs < top ∧ ((Rat.divInt p q).den : Int).natAbs < top :=
  ⟨Nat.lt_of_le_of_lt (divInt_le h0).1 hp, Nat.lt_of_le_of_lt (divInt_le h0).2 hq⟩
end Go.Proofs.YthafhbogpfggjaaGreatDoor

/-
  (second part)
-/
namespace Go.Proofs.YthafhbogpfggjaaGreatDoor
open Go.RowKit Mag
open Dig (val Ws Nz)

theorem sm_itoa {k : Nat} {z : Int} (h : Sm k z) (hk : 0 < k) : (Lib.itoa z).length ≤ 4 * k + 1 := by
  refine Txt.itoa_len (k := 4 * k) (by omega) ?_
  unfold Sm at h
  rwa [show (10000 : Nat) = 10 ^ 4 from rfl, ← Nat.pow_mul] at h
theorem top_pow (j k : Nat) (hj : j = 4933) (hk : k = 1240) : top ≤ 10000 ^ k := by
  have h1 := top_ten
  rw [← hj] at h1
  refine Nat.le_trans h1 ?_
  rw [show (10000 : Nat) = 10 ^ 4 from rfl, ← Nat.pow_mul]
  exact Nat.pow_le_pow_right (by decide) (by omega)
theorem sm_of_top {z : Int} (h : z.natAbs < top) : Sm 1240 z := Nat.lt_of_lt_of_le h (top_pow 4933 1240 rfl rfl)
theorem lit_one : (⟨#[49]⟩ : ByteArray).toList = [49] := by rw [ByteArray.toList_mk]
set_option maxRecDepth 100000 in
set_option maxHeartbeats 1600000 in
theorem fText_any {f : FV} {a : Rat} {w : World} (hf : NR f w a) (sa : SmR 1240 a) : Calls Tryz.prog 85 #[.agg #[.bool f.p.neg, .slice f.p.A f.p.n f.p.c, .bool f.l.neg, .slice f.l.A f.l.n f.l.c]] w (TxtPost w (rtext a)) := by
  obtain ⟨sp, hsp⟩ : ∃ sp : ByteArray, sp = ⟨(Lib.itoa a.num).toArray⟩ := ⟨_, rfl⟩
  obtain ⟨sq, hsq⟩ : ∃ sq : ByteArray, sq = ⟨(Lib.itoa (a.den : Int)).toArray⟩ := ⟨_, rfl⟩
  have hl1 : sp.size ≤ 4961 := by rw [hsp]; exact sm_itoa sa.1 (by omega)
  have hl2 : sq.size ≤ 4961 := by rw [hsq]; exact sm_itoa sa.2 (by omega)
  have HTP : Hid (∀ u : World, NI f.p u a.num → Calls Tryz.prog 28 #[.agg #[.bool f.p.neg, .slice f.p.A f.p.n f.p.c]] u (fun e w' => e = .returned (.string sp) ∧ Below u.heap.size u w')) := Lib.hid fun u h => by rw [hsp]; exact rText_any h
  have HTQ : Hid (∀ u : World, NI f.l u (a.den : Int) → Calls Tryz.prog 28 #[.agg #[.bool f.l.neg, .slice f.l.A f.l.n f.l.c]] u (fun e w' => e = .returned (.string sq) ∧ Below u.heap.size u w')) := Lib.hid fun u h => by rw [hsq]; exact rText_any h
  by_cases h1 : (a.den : Int) = 1
  · have e1 : sq = ⟨#[49]⟩ := by rw [hsq, h1, itoa_1]
    have HE : Hid (Value.string sp = .string ⟨(rtext a).toArray⟩) := Lib.hid (by rw [hsp]; unfold rtext ftext; rw [if_pos h1])
    subst e1
    clear hsp hsq h1
    go_enter Tryz.func85, Tryz.ntmps85
    go_upto_region 1 with fail
    refine wp_new1 fun W hA hB => ?_
    replace hf := hf.on hB
    obtain ⟨r0, r1, r2, r3⟩ := hA.rules4
    have hW := Below.refl W.heap.size W
    go_wp2_with fail
    refine (HTQ.out _ hf.2).mono ?_
    rintro e w1 ⟨rfl, k1⟩
    go_wp2_with fail
    refine (HTP.out _ (hf.on k1).1).mono ?_
    rintro e w2 ⟨rfl, k2⟩
    have HB := Lib.hid (Below.call hB (Below.call k1 k2))
    go_wp2
    go_returns
    exact ⟨congrArg Ending.returned HE.out, HB.out⟩
  · have hne : (sq.toList == [49]) = false := by
      rw [hsq, ByteArray.toList_mk, beq_eq_false_iff_ne, ← itoa_1]
      exact fun e => h1 (Txt.itoa_inj e)
    have hne2 : (sq.toList == (⟨#[49]⟩ : ByteArray).toList) = false := by rw [lit_one]; exact hne
    have HE : Hid (Value.string (sp ++ ⟨#[47]⟩ ++ sq) = .string ⟨(rtext a).toArray⟩) := Lib.hid (by
      rw [hsp, hsq]
      unfold rtext ftext
      rw [if_neg h1]
      congr 1
      exact ByteArray.ext (by simp))
    have hl3 : ¬ 9223372036854775807 < sp.size + 1 := by omega
    have hl4 : ¬ 9223372036854775807 ≤ sp.size := by omega
    have hl5 : ¬ 9223372036854775807 < sp.size + 1 + sq.size := by omega
    clear hsp hsq h1
    go_enter Tryz.func85, Tryz.ntmps85
    go_upto_region 1 with fail
    refine wp_new1 fun W hA hB => ?_
    replace hf := hf.on hB
    obtain ⟨r0, r1, r2, r3⟩ := hA.rules4
    have hW := Below.refl W.heap.size W
    go_wp2_with fail
    refine (HTQ.out _ hf.2).mono ?_
    rintro e w1 ⟨rfl, k1⟩
    go_wp2_with fail
    refine (HTP.out _ (hf.on k1).1).mono ?_
    rintro e w2 ⟨rfl, k2⟩
    have HB := Lib.hid (Below.call hB (Below.call k1 k2))
    go_wp2
    go_returns
    exact ⟨congrArg Ending.returned HE.out, HB.out⟩
theorem top_pos : 0 < top := Nat.lt_of_le_of_lt (Nat.zero_le _) one_fits
theorem rParse_t (s : ByteArray) (hs : s.size ≤ 140737488355328) (w : World) (p : Int × Int) (hp : Txt.num top s.data.toList = p) : Calls Tryz.prog 33 #[.string s] w (RetNE w p.1 p.2) := by
  have := rParse_any s hs w
  rwa [← top_2k 16384 (by rw [topW_eq]), hp] at this
theorem wParse_t (s : ByteArray) (hs : s.size ≤ 140737488355328) (w : World) (p : Int × Int) (hp : Txt.num top s.data.toList = p) : Calls Tryz.prog 32 #[.string s] w (IntE w p.1 p.2) := by
  have := wParse_any s hs w
  rwa [hp] at this
/-- What stands in front of the first i bytes' slash. -/
theorem no47_top {l : List UInt8} (h : (47 : UInt8) ∉ l) : topS l = l ∧ botS l = [49] := ⟨takeWhile_all h, if_neg h⟩
theorem at47 {s : ByteArray} {i : Nat} (hi : i < s.size) (h : ∀ j, j < i → ∀ hj : j < s.size, s[j] ≠ 47) (h47 : s[i] = 47) :
    (s.extract 0 i).data.toList = topS s.data.toList ∧ (s.extract (i + 1) s.size).data.toList = botS s.data.toList := by
  have hl : s.data.toList.length = s.size := by rw [Array.length_toList]; rfl
  have e : s.data.toList = s.data.toList.take i ++ 47 :: s.data.toList.drop (i + 1) := by
    have h1 := List.drop_eq_getElem_cons (l := s.data.toList) (i := i) (by omega)
    have h2 : s.data.toList[i]'(by omega) = 47 := h47
    rw [h2] at h1
    rw [← h1, List.take_append_drop]
  have hn : (47 : UInt8) ∉ s.data.toList.take i := by
    intro hm
    obtain ⟨j, hj, he⟩ := List.mem_take_iff_getElem.1 hm
    have : s[j]'(by omega) = 47 := he
    exact h j (by omega) (by omega) this
  obtain ⟨h1, h2⟩ := take_slash hn (s.data.toList.drop (i + 1))
  rw [← e] at h1 h2
  constructor
  · unfold topS
    rw [h1]
    simp [ByteArray.data_extract]
  · unfold botS
    rw [if_pos (by rw [e]; simp), h2]
    simp only [ByteArray.data_extract, Array.toList_extract, List.extract_eq_take_drop, List.tail_cons]
    rw [List.take_of_length_le (by rw [List.length_drop, hl]; exact Nat.le_refl _)]
theorem all47 {s : ByteArray} (h : ∀ j, ∀ hj : j < s.size, s[j] ≠ 47) : topS s.data.toList = s.data.toList ∧ botS s.data.toList = [49] := by
  refine no47_top fun hm => ?_
  obtain ⟨j, hj, he⟩ := List.mem_iff_getElem.1 hm
  have hj' : j < s.size := by rwa [Array.length_toList] at hj
  exact h j hj' he
set_option maxRecDepth 100000 in
set_option maxHeartbeats 6400000 in
theorem fParse_any (s : ByteArray) (hs : s.size ≤ 1000000) (w : World) : Calls Tryz.prog 88 #[.string s] w (RetNRE w (parR s.data.toList).1 (parR s.data.toList).2) := by
  obtain ⟨p, hp⟩ : ∃ p, Txt.num top (topS s.data.toList) = p := ⟨_, rfl⟩
  obtain ⟨q, hq⟩ : ∃ q, Txt.num top (botS s.data.toList) = q := ⟨_, rfl⟩
  have hpar : parR s.data.toList = parR0 p q s.data.toList := by unfold parR; rw [hp, hq]
  have hps : Sm 1240 p.1 := sm_of_top (by rw [← hp]; exact Txt.num_lt top_pos _)
  have hqs : Sm 1240 q.1 := sm_of_top (by rw [← hq]; exact Txt.num_lt top_pos _)
  have HP := Lib.hid hp
  have HQ := Lib.hid hq
  rw [hpar]
  clear hp hq hpar
  go_enter Tryz.func88, Tryz.ntmps88
  go_upto_region 1 with fail
  refine wp_new1 fun W hO hB => ?_
  go_upto_block 0 with fail
  go_cut [4, 5] (fun s4 s5 wx => ∃ t b : ByteArray, s4 = .string t ∧ s5 = .string b ∧ Hid (t.data.toList = topS s.data.toList ∧ b.data.toList = botS s.data.toList) ∧ t.size ≤ 1000000 ∧ b.size ≤ 1000000 ∧ wx = W)
  case first =>
    go_wp2_with fail
    go_loop [4, 5, 6] (fun s4 s5 s6 => ∃ i : Nat, i ≤ s.size ∧ s6 = .int .i64 (i : Int) ∧ s4 = .string s ∧ s5 = .string ⟨#[49]⟩ ∧ Hid (∀ j, j < i → ∀ hj : j < s.size, s[j] ≠ 47)) (fun _ _ s6 => s.size - (intOf s6).toNat)
    case atStart => exact ⟨0, by omega, rfl, rfl, rfl, Lib.hid fun j hj => absurd hj (by omega)⟩
    case round =>
      obtain ⟨i, hi, rfl, rfl, rfl, hno⟩ := hrel
      rcases Nat.lt_or_eq_of_le hi with hlt | heq
      · have i0 : (0 : Int) ≤ (i : Int) := by omega
        have i1 : (i : Int) < (s.size : Int) := by omega
        by_cases h47 : s[i] = 47
        · have HT := Lib.hid (at47 hlt hno.out h47)
          have hc : (((s[i]).toNat : Int) == 47) = true := by rw [h47]; rfl
          have j0 : (0 : Int) ≤ (i : Int) + 1 := by omega
          have j1 : (i : Int) + 1 ≤ (s.size : Int) := by omega
          have j2 : (i : Int) ≤ (s.size : Int) := by omega
          clear h47 hno
          go_wp2_with fail
          go_meet
          exact ⟨s.extract 0 i, s.extract (i + 1) s.size, rfl, rfl, HT, by rw [ByteArray.size_extract]; omega, by rw [ByteArray.size_extract]; omega, rfl⟩
        · have hc : (((s[i]).toNat : Int) == 47) = false := by
            rw [beq_eq_false_iff_ne]
            intro e
            exact h47 (UInt8.toNat_inj.1 (by show s[i].toNat = 47; omega))
          have hno2 : Hid (∀ j, j < i + 1 → ∀ hj : j < s.size, s[j] ≠ 47) := Lib.hid fun j hj hj' => by
            rcases Nat.lt_or_eq_of_le (Nat.le_of_lt_succ hj) with h | rfl
            · exact hno.out j h hj'
            · exact h47
          clear h47 hno
          go_wp2_with fail
          go_round
          case rel => exact ⟨i + 1, by omega, by go_num, rfl, rfl, hno2⟩
          case measure => simp [intOf]; omega
      · have hT := all47 (s := s) fun j hj => hno.out j (by omega) hj
        have HT := Lib.hid (And.intro hT.1.symm (show (⟨#[49]⟩ : ByteArray).data.toList = botS s.data.toList from hT.2.symm))
        have hi1 : ¬ (i : Int) < (s.size : Int) := by omega
        clear hT hno
        go_wp2_with fail
        go_meet
        exact ⟨s, ⟨#[49]⟩, rfl, rfl, HT, hs, by decide, rfl⟩
  case rest =>
    obtain ⟨t, b, rfl, rfl, htb, ht, hb, rfl⟩ := hcut
    have HPt : Hid (∀ u, Calls Tryz.prog 33 #[.string t] u (RetNE u p.1 p.2)) := Lib.hid fun u => rParse_t t (by omega) u p (by rw [htb.out.1]; exact HP.out)
    have HPb : Hid (∀ u, Calls Tryz.prog 33 #[.string b] u (RetNE u q.1 q.2)) := Lib.hid fun u => rParse_t b (by omega) u q (by rw [htb.out.2]; exact HQ.out)
    clear htb HP HQ
    obtain ⟨pz, pe⟩ := p
    obtain ⟨qz, qe⟩ := q
    go_wp2_with fail
    refine (HPt.out _).mono ?_
    rintro e w1 ⟨x, rfl, k1, hx⟩
    go_upto_region 10 with fail
    refine wp_new1 fun w2 hX k2 => ?_
    go_wp2_with fail
    refine (HPb.out _).mono ?_
    rintro e w3 ⟨y, rfl, k3, hy⟩
    go_upto_region 11 with fail
    refine wp_new1 fun w4 hY k4 => ?_
    have kk := Below.call k3 k4
    replace hx := (hx.on k2).on kk
    replace hX := hX.on kk
    replace hy := hy.on k4
    have k5 := Below.call (Below.call k1 k2) kk
    have hB2 := Below.call hB k5
    have hO2 := hO.on k5
    clear k1 k2 k3 k4 kk k5 hO hB HPt HPb
    by_cases he : pe = 0 ∧ qe = 0
    · obtain ⟨rfl, rfl⟩ := he
      by_cases hz : qz = 0
      · have HR := Lib.hid (show parR0 (pz, 0) (qz, 0) s.data.toList = (0, 2) by unfold parR0; rw [if_neg (by simp), if_pos hz])
        have HM := Lib.hid (show makeR pz qz = (0, 1) from if_pos hz)
        have nx := hps.len hx
        have ny := hqs.len hy
        obtain ⟨x0, x1, _⟩ := hX.all2
        obtain ⟨y0, y1, _⟩ := hY.all2
        clear hz
        go_wp2_with fail
        refine (fMake_any hx hy (by have h : x.n ≤ 1240 := nx; unfold many; omega) (by have h : y.n ≤ 1240 := ny; unfold many; omega)).mono ?_
        rw [HM.out]
        rintro e w5 ⟨f, rfl, k5, hf⟩
        go_upto_region 14 with fail
        refine wp_new1 fun w6 hF k6 => ?_
        have kk := Below.call k5 k6
        have hB3 := Below.call hB2 kk
        have hO3 := hO2.on kk
        clear hx hy hX hY x0 x1 y0 y1 k5 k6 kk nx ny hB2 hO2 hf
        go_wp2_with fail
        refine (fOf_any 0 _ ⟨by omega, by omega⟩).mono ?_
        rintro e w7 ⟨u, rfl, k7, hu⟩
        have hB4 := Below.call hB3 k7
        have hO4 := hO3.on k7
        clear hB3 hO3 hF
        obtain ⟨z0, z1, z2, z3, f0, f1, f2, f3⟩ := hO4.all4
        have HF := Lib.hid (put_nre (err := 2) hB4 (by omega) hO4 (by simp) (by simp) (by simp) (by simp) hu)
        obtain ⟨q0, q1, q2, q3, _⟩ := (hO4.put4 (.bool u.p.neg) (.slice u.p.A u.p.n u.p.c) (.bool u.l.neg) (.slice u.l.A u.l.n u.l.c)).all4
        clear hO4 hu
        go_wp2
        exact bodyPost_ret (v := .tuple #[.agg #[.bool u.p.neg, .slice u.p.A u.p.n u.p.c, .bool u.l.neg, .slice u.l.A u.l.n u.l.c], .int .i64 2]) (by simp [results, Tryz.results88, go_sem, q0, q1, q2, q3]) rfl (by rw [HR.out]; exact HF.out)
      · obtain ⟨r, hr⟩ : ∃ r, r = Rat.divInt pz qz := ⟨_, rfl⟩
        have hsr : SmR 1240 r := by rw [hr]; exact SmR.divInt hps hqs hz
        have HM := Lib.hid (show makeR pz qz = (r, 0) by rw [hr]; exact if_neg hz)
        have HR := Lib.hid (show parR0 (pz, 0) (qz, 0) s.data.toList = if rtext r = s.data.toList then (r, 0) else (0, 2) by unfold parR0; rw [if_neg (by simp), if_neg hz, ← hr])
        have nx := hps.len hx
        have ny := hqs.len hy
        obtain ⟨x0, x1, _⟩ := hX.all2
        obtain ⟨y0, y1, _⟩ := hY.all2
        obtain ⟨sr, hsrr⟩ : ∃ sr : ByteArray, sr = ⟨(rtext r).toArray⟩ := ⟨_, rfl⟩
        have HTx : Hid (∀ (f : FV) (u : World), NR f u r → Calls Tryz.prog 85 #[.agg #[.bool f.p.neg, .slice f.p.A f.p.n f.p.c, .bool f.l.neg, .slice f.l.A f.l.n f.l.c]] u (fun e w' => e = .returned (.string sr) ∧ Below u.heap.size u w')) := Lib.hid fun f u h => by rw [hsrr]; exact fText_any h hsr
        obtain ⟨bb, hbb⟩ : ∃ bb, decide (rtext r = s.data.toList) = bb := ⟨_, rfl⟩
        have hcmp : (sr.toList == s.toList) = bb := by
          rw [← hbb, hsrr, ByteArray.toList_mk, ByteArray.toList_eq]
          by_cases h : rtext r = s.data.toList <;> simp [h]
        have HBB := Lib.hid hbb
        have HCMP := Lib.hid hcmp
        clear hz hr hsrr hbb hcmp hsr
        go_wp2_with fail
        refine (fMake_any hx hy (by have h : x.n ≤ 1240 := nx; unfold many; omega) (by have h : y.n ≤ 1240 := ny; unfold many; omega)).mono ?_
        rw [HM.out]
        rintro e w5 ⟨f, rfl, k5, hf⟩
        go_upto_region 14 with fail
        refine wp_new1 fun w6 hF k6 => ?_
        have kk := Below.call k5 k6
        have hB3 := Below.call hB2 kk
        have hO3 := hO2.on kk
        have hf2 := hf.on k6
        obtain ⟨c0, c1, c2, c3, _⟩ := hF.all4
        clear hx hy hX hY x0 x1 y0 y1 k5 k6 kk nx ny hB2 hO2 hf
        go_wp2_with fail
        refine (HTx.out _ _ hf2).mono ?_
        rintro e w7 ⟨rfl, k7⟩
        have hB4 := Below.call hB3 k7
        have hO4 := hO3.on k7
        have hF4 := hF.on k7
        have hf4 := hf2.on k7
        have hcmp := HCMP.out
        clear hB3 hO3 hF hf2 c0 c1 c2 c3
        cases bb
        · have hcmp2 : (sr.toList != s.toList) = true := by rw [bne, hcmp]; rfl
          replace HR := Lib.hid (HR.out.trans (if_neg (by simpa using HBB.out)))
          clear hF4 hf4
          go_wp2_with fail
          refine (fOf_any 0 _ ⟨by omega, by omega⟩).mono ?_
          rintro e w8 ⟨u, rfl, k8, hu⟩
          have hB5 := Below.call hB4 k8
          have hO5 := hO4.on k8
          clear hB4 hO4
          obtain ⟨z0, z1, z2, z3, f0, f1, f2, f3⟩ := hO5.all4
          have HF := Lib.hid (put_nre (err := 2) hB5 (by omega) hO5 (by simp) (by simp) (by simp) (by simp) hu)
          obtain ⟨q0, q1, q2, q3, _⟩ := (hO5.put4 (.bool u.p.neg) (.slice u.p.A u.p.n u.p.c) (.bool u.l.neg) (.slice u.l.A u.l.n u.l.c)).all4
          clear hO5 hu
          go_wp2
          exact bodyPost_ret (v := .tuple #[.agg #[.bool u.p.neg, .slice u.p.A u.p.n u.p.c, .bool u.l.neg, .slice u.l.A u.l.n u.l.c], .int .i64 2]) (by simp [results, Tryz.results88, go_sem, q0, q1, q2, q3]) rfl (by rw [HR.out]; exact HF.out)
        · have hcmp2 : (sr.toList != s.toList) = false := by rw [bne, hcmp]; rfl
          replace HR := Lib.hid (HR.out.trans (if_pos (by simpa using HBB.out)))
          obtain ⟨c0, c1, c2, c3, _⟩ := hF4.all4
          obtain ⟨z0, z1, z2, z3, f0, f1, f2, f3⟩ := hO4.all4
          have HF := Lib.hid (put_nre (err := 0) hB4 (by omega) hO4 (by simp) (by simp) (by simp) (by simp) hf4)
          obtain ⟨q0, q1, q2, q3, _⟩ := (hO4.put4 (.bool f.p.neg) (.slice f.p.A f.p.n f.p.c) (.bool f.l.neg) (.slice f.l.A f.l.n f.l.c)).all4
          clear hO4 hf4
          go_wp2
          exact bodyPost_ret (v := .tuple #[.agg #[.bool f.p.neg, .slice f.p.A f.p.n f.p.c, .bool f.l.neg, .slice f.l.A f.l.n f.l.c], .int .i64 0]) (by simp [results, Tryz.results88, go_sem, q0, q1, q2, q3]) rfl (by rw [HR.out]; exact HF.out)
    · have HR := Lib.hid (show parR0 (pz, pe) (qz, qe) s.data.toList = (0, 2) by
        unfold parR0
        rw [if_pos (by simp only; omega)])
      clear hx hy hX hY
      by_cases h1 : pe = 0
      · subst h1
        have hqe : (qe != 0) = true := by simp; omega
        clear he
        go_wp2_with fail
        refine (fOf_any 0 _ ⟨by omega, by omega⟩).mono ?_
        rintro e w8 ⟨u, rfl, k8, hu⟩
        have hB5 := Below.call hB2 k8
        have hO5 := hO2.on k8
        clear hB2 hO2
        obtain ⟨z0, z1, z2, z3, f0, f1, f2, f3⟩ := hO5.all4
        have HF := Lib.hid (put_nre (err := 2) hB5 (by omega) hO5 (by simp) (by simp) (by simp) (by simp) hu)
        obtain ⟨q0, q1, q2, q3, _⟩ := (hO5.put4 (.bool u.p.neg) (.slice u.p.A u.p.n u.p.c) (.bool u.l.neg) (.slice u.l.A u.l.n u.l.c)).all4
        clear hO5 hu
        go_wp2
        exact bodyPost_ret (v := .tuple #[.agg #[.bool u.p.neg, .slice u.p.A u.p.n u.p.c, .bool u.l.neg, .slice u.l.A u.l.n u.l.c], .int .i64 2]) (by simp [results, Tryz.results88, go_sem, q0, q1, q2, q3]) rfl (by rw [HR.out]; exact HF.out)
      · have hqe : (pe != 0) = true := by simp; omega
        clear he h1
        go_wp2_with fail
        refine (fOf_any 0 _ ⟨by omega, by omega⟩).mono ?_
        rintro e w8 ⟨u, rfl, k8, hu⟩
        have hB5 := Below.call hB2 k8
        have hO5 := hO2.on k8
        clear hB2 hO2
        obtain ⟨z0, z1, z2, z3, f0, f1, f2, f3⟩ := hO5.all4
        have HF := Lib.hid (put_nre (err := 2) hB5 (by omega) hO5 (by simp) (by simp) (by simp) (by simp) hu)
        obtain ⟨q0, q1, q2, q3, _⟩ := (hO5.put4 (.bool u.p.neg) (.slice u.p.A u.p.n u.p.c) (.bool u.l.neg) (.slice u.l.A u.l.n u.l.c)).all4
        clear hO5 hu
        go_wp2
        exact bodyPost_ret (v := .tuple #[.agg #[.bool u.p.neg, .slice u.p.A u.p.n u.p.c, .bool u.l.neg, .slice u.l.A u.l.n u.l.c], .int .i64 2]) (by simp [results, Tryz.results88, go_sem, q0, q1, q2, q3]) rfl (by rw [HR.out]; exact HF.out)
end Go.Proofs.YthafhbogpfggjaaGreatDoor
