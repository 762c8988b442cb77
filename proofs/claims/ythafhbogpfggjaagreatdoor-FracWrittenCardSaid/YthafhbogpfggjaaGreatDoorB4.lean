/-
  The texts of fractions, plain: what a text spells, and that a fraction's own text spells it.
-/
import Derived.Test.YthafhbogpfggjaaGreatDoorB0
import Derived.Test.YthafhbogpfggjaaGreatDoorX9
import Derived.Test.YthafhbogpfggjaaGreatDoorB2
namespace Go.Proofs.YthafhbogpfggjaaGreatDoor
open Go.RowKit Mag
open DecM

/-- The text of a rational number. -/
def rtext (a : Rat) : List UInt8 := ftext a.num (a.den : Int)
/-- In front of the first '/', and behind it. -/
def topS (l : List UInt8) : List UInt8 := l.takeWhile (· != 47)
def botS (l : List UInt8) : List UInt8 := if (47 : UInt8) ∈ l then (l.dropWhile (· != 47)).tail else [49]
def parR0 (p q : Int × Int) (l : List UInt8) : Rat × Int :=
  if p.2 ≠ 0 ∨ q.2 ≠ 0 then (0, 2) else if q.1 = 0 then (0, 2) else if rtext (Rat.divInt p.1 q.1) = l then (Rat.divInt p.1 q.1, 0) else (0, 2)
/-- What a text spells. -/
def parR (l : List UInt8) : Rat × Int := parR0 (Txt.num top (topS l)) (Txt.num top (botS l)) l
theorem no47_dec (n : Nat) : (47 : UInt8) ∉ Lib.decDigits n := fun h => by
  have := dec_isDig n 47 h
  simp [isDig] at this
theorem no47_itoa (z : Int) : (47 : UInt8) ∉ Lib.itoa z := by
  unfold Lib.itoa
  split
  · intro h
    rcases List.mem_cons.1 h with h | h
    · exact absurd h (by decide)
    · exact no47_dec _ h
  · exact no47_dec _
theorem takeWhile_all {l : List UInt8} (h : (47 : UInt8) ∉ l) : l.takeWhile (· != 47) = l := by
  induction l with
  | nil => rfl
  | cons c l ih =>
    have hc : (c != 47) = true := by simp; exact fun e => h (by simp [e])
    rw [List.takeWhile_cons, hc, if_pos rfl, ih fun k => h (List.mem_cons_of_mem _ k)]
theorem take_slash {l : List UInt8} (h : (47 : UInt8) ∉ l) (m : List UInt8) : (l ++ 47 :: m).takeWhile (· != 47) = l ∧ (l ++ 47 :: m).dropWhile (· != 47) = 47 :: m := by
  induction l with
  | nil => simp
  | cons c l ih =>
    have hc : (c != 47) = true := by simp; exact fun e => h (by simp [e])
    obtain ⟨h1, h2⟩ := ih fun k => h (List.mem_cons_of_mem _ k)
    rw [List.cons_append, List.takeWhile_cons, List.dropWhile_cons, hc, if_pos rfl, if_pos rfl, h1, h2]
    exact ⟨rfl, rfl⟩
theorem rat_int {a : Rat} (h : (a.den : Int) = 1) : Rat.divInt a.num 1 = a := by rw [← h]; exact rat_self a
theorem num_one : Txt.num top [49] = (1, 0) := by
  have := Txt.num_itoa (T := top) (z := 1) one_fits (by rw [itoa_1]; decide)
  rwa [itoa_1] at this
/-- A fraction's own text spells it. -/
theorem parR_text {a : Rat} (hp : a.num.natAbs < top) (hq : (a.den : Int).natAbs < top) : parR (rtext a) = (a, 0) := by
  have ep := Txt.num_itoa (T := top) (z := a.num) hp (itoa_5000 hp)
  have eq := Txt.num_itoa (T := top) (z := a.den) hq (itoa_5000 hq)
  by_cases h : (a.den : Int) = 1
  · have e : rtext a = Lib.itoa a.num := by unfold rtext ftext; rw [if_pos h]
    have h1 : topS (rtext a) = Lib.itoa a.num := by rw [e]; exact takeWhile_all (no47_itoa _)
    have h2 : botS (rtext a) = [49] := by rw [e]; exact if_neg (no47_itoa _)
    unfold parR parR0
    rw [h1, h2, ep, num_one, rat_int h]
    simp
  · have e : rtext a = Lib.itoa a.num ++ 47 :: Lib.itoa a.den := by unfold rtext ftext; rw [if_neg h]
    have ht := take_slash (no47_itoa a.num) (Lib.itoa a.den)
    have h1 : topS (rtext a) = Lib.itoa a.num := by rw [e]; exact ht.1
    have h2 : botS (rtext a) = Lib.itoa a.den := by
      unfold botS
      rw [if_pos (by rw [e]; simp), e, ht.2]; rfl
    unfold parR parR0
    rw [h1, h2, ep, eq, rat_self]
    simp
    exact a.den_nz
theorem rtext_inj {a b : Rat} (ha : a.num.natAbs < top ∧ (a.den : Int).natAbs < top) (hb : b.num.natAbs < top ∧ (b.den : Int).natAbs < top) (h : rtext a = rtext b) : a = b := by
  have h1 := parR_text ha.1 ha.2
  rw [h, parR_text hb.1 hb.2] at h1
  exact (congrArg Prod.fst h1).symm
theorem parR_err (l : List UInt8) : ((parR l).2 = 0 ∧ rtext (parR l).1 = l) ∨ ((parR l).2 = 2 ∧ (parR l).1 = 0) := by
  unfold parR parR0
  split
  · exact .inr ⟨rfl, rfl⟩
  · split
    · exact .inr ⟨rfl, rfl⟩
    · split
      · rename_i h; exact .inl ⟨rfl, h⟩
      · exact .inr ⟨rfl, rfl⟩
theorem divInt_fits {p q : Int} (hp : p.natAbs < top) (hq : q.natAbs < top) (h0 : q ≠ 0) : (Rat.divInt p q).num.natAbs < top ∧ ((Rat.divInt p q).den : Int).natAbs < top :=
  ⟨Nat.lt_of_le_of_lt (divInt_le h0).1 hp, Nat.lt_of_le_of_lt (divInt_le h0).2 hq⟩
end Go.Proofs.YthafhbogpfggjaaGreatDoor

/-
  (second part)
-/
namespace Go.Proofs.YthafhbogpfggjaaGreatDoor
open Go.RowKit Mag
open Dig (val Ws Nz)

theorem sm_itoa {k : Nat} {z : Int} (h : Sm k z) (hk : 0 < k) : (Lib.itoa z).length ≤ 4 * k + 1 := by
  refine Txt.itoa_len (k := 4 * k) (by omega) ?_
  unfold Sm at h
  rwa [show (10000 : Nat) = 10 ^ 4 from rfl, ← Nat.pow_mul] at h
theorem top_pow (j k : Nat) (hj : j = 4933) (hk : k = 1240) : top ≤ 10000 ^ k := by
  have h1 := top_ten
  rw [← hj] at h1
  refine Nat.le_trans h1 ?_
  rw [show (10000 : Nat) = 10 ^ 4 from rfl, ← Nat.pow_mul]
  exact Nat.pow_le_pow_right (by decide) (by omega)
theorem sm_of_top {z : Int} (h : z.natAbs < top) : Sm 1240 z := Nat.lt_of_lt_of_le h (top_pow 4933 1240 rfl rfl)
theorem lit_one : (⟨#[49]⟩ : ByteArray).toList = [49] := by rw [ByteArray.toList_mk]
set_option maxRecDepth 100000 in
set_option maxHeartbeats 1600000 in
theorem fText_any {f : FV} {a : Rat} {w : World} (hf : NR f w a) (sa : SmR 1240 a) : Calls Tryz.prog 85 #[.agg #[.bool f.p.neg, .slice f.p.A f.p.n f.p.c, .bool f.l.neg, .slice f.l.A f.l.n f.l.c]] w (TxtPost w (rtext a)) := by
  obtain ⟨sp, hsp⟩ : ∃ sp : ByteArray, sp = ⟨(Lib.itoa a.num).toArray⟩ := ⟨_, rfl⟩
  obtain ⟨sq, hsq⟩ : ∃ sq : ByteArray, sq = ⟨(Lib.itoa (a.den : Int)).toArray⟩ := ⟨_, rfl⟩
  have hl1 : sp.size ≤ 4961 := by rw [hsp]; exact sm_itoa sa.1 (by omega)
  have hl2 : sq.size ≤ 4961 := by rw [hsq]; exact sm_itoa sa.2 (by omega)
  have HTP : Hid (∀ u : World, NI f.p u a.num → Calls Tryz.prog 28 #[.agg #[.bool f.p.neg, .slice f.p.A f.p.n f.p.c]] u (fun e w' => e = .returned (.string sp) ∧ Below u.heap.size u w')) := Lib.hid fun u h => by rw [hsp]; exact rText_any h
  have HTQ : Hid (∀ u : World, NI f.l u (a.den : Int) → Calls Tryz.prog 28 #[.agg #[.bool f.l.neg, .slice f.l.A f.l.n f.l.c]] u (fun e w' => e = .returned (.string sq) ∧ Below u.heap.size u w')) := Lib.hid fun u h => by rw [hsq]; exact rText_any h
  by_cases h1 : (a.den : Int) = 1
  · have e1 : sq = ⟨#[49]⟩ := by rw [hsq, h1, itoa_1]
    have HE : Hid (Value.string sp = .string ⟨(rtext a).toArray⟩) := Lib.hid (by rw [hsp]; unfold rtext ftext; rw [if_pos h1])
    subst e1
    clear hsp hsq h1
    go_enter Tryz.func85, Tryz.ntmps85
    go_upto_region 1 with fail
    refine wp_new1 fun W hA hB => ?_
    replace hf := hf.on hB
    obtain ⟨r0, r1, r2, r3⟩ := hA.rules4
    have hW := Below.refl W.heap.size W
    go_wp2_with fail
    refine (HTQ.out _ hf.2).mono ?_
    rintro e w1 ⟨rfl, k1⟩
    go_wp2_with fail
    refine (HTP.out _ (hf.on k1).1).mono ?_
    rintro e w2 ⟨rfl, k2⟩
    have HB := Lib.hid (Below.call hB (Below.call k1 k2))
    go_wp2
    go_returns
    exact ⟨congrArg Ending.returned HE.out, HB.out⟩
  · have hne : (sq.toList == [49]) = false := by
      rw [hsq, ByteArray.toList_mk, beq_eq_false_iff_ne, ← itoa_1]
      exact fun e => h1 (Txt.itoa_inj e)
    have hne2 : (sq.toList == (⟨#[49]⟩ : ByteArray).toList) = false := by rw [lit_one]; exact hne
    have HE : Hid (Value.string (sp ++ ⟨#[47]⟩ ++ sq) = .string ⟨(rtext a).toArray⟩) := Lib.hid (by
      rw [hsp, hsq]
      unfold rtext ftext
      rw [if_neg h1]
      congr 1
      exact ByteArray.ext (by simp))
    have hl3 : ¬ 9223372036854775807 < sp.size + 1 := by omega
    have hl4 : ¬ 9223372036854775807 ≤ sp.size := by omega
    have hl5 : ¬ 9223372036854775807 < sp.size + 1 + sq.size := by omega
    clear hsp hsq h1
    go_enter Tryz.func85, Tryz.ntmps85
    go_upto_region 1 with fail
    refine wp_new1 fun W hA hB => ?_
    replace hf := hf.on hB
    obtain ⟨r0, r1, r2, r3⟩ := hA.rules4
    have hW := Below.refl W.heap.size W
    go_wp2_with fail
    refine (HTQ.out _ hf.2).mono ?_
    rintro e w1 ⟨rfl, k1⟩
    go_wp2_with fail
    refine (HTP.out _ (hf.on k1).1).mono ?_
    rintro e w2 ⟨rfl, k2⟩
    have HB := Lib.hid (Below.call hB (Below.call k1 k2))
    go_wp2
    go_returns
    exact ⟨congrArg Ending.returned HE.out, HB.out⟩
theorem top_pos : 0 < top := Nat.lt_of_le_of_lt (Nat.zero_le _) one_fits
theorem wParse_t (s : ByteArray) (hs : s.size ≤ 140737488355328) (w : World) (p : Int × Int) (hp : Txt.num top s.data.toList = p) : Calls Tryz.prog 32 #[.string s] w (IntE w p.1 p.2) := by
  have := wParse_any s hs w
  rwa [hp] at this
/-- What stands in front of the first i bytes' slash. -/
theorem no47_top {l : List UInt8} (h : (47 : UInt8) ∉ l) : topS l = l ∧ botS l = [49] := ⟨takeWhile_all h, if_neg h⟩
theorem all47 {s : ByteArray} (h : ∀ j, ∀ hj : j < s.size, s[j] ≠ 47) : topS s.data.toList = s.data.toList ∧ botS s.data.toList = [49] := by
  refine no47_top fun hm => ?_
  obtain ⟨j, hj, he⟩ := List.mem_iff_getElem.1 hm
  have hj' : j < s.size := by rwa [Array.length_toList] at hj
  exact h j hj' he
end Go.Proofs.YthafhbogpfggjaaGreatDoor
