/-
  Chapter 03's reference: Gcd. (begun)
-/
import Derived.Test.YthafhbogpfggjaaGreatDoorE11
import Derived.Test.YthafhbogpfggjaaGreatDoorT1
import Derived.Test.YthafhbogpfggjaaGreatDoorReg
import Derived.Test.YthafhbogpfggjaaGreatDoorW2
import Derived.Test.YthafhbogpfggjaaGreatDoorTwo
namespace Go.Proofs.YthafhbogpfggjaaGreatDoor
open Go.RowKit
open Dig (val Ws Nz)

/-- The state of Gcd at a round's head. -/
structure GcdSt (w : World) (g5 g6 X Y G k : Nat) (x y : IV) (wr : World) : Prop where
  bel : Below w.heap.size w wr
  o5 : Own wr g5 44 [.bool x.neg, .slice x.A x.n x.c]
  o6 : Own wr g6 44 [.bool y.neg, .slice y.A y.n y.c]
  hx : NI x wr (X : Int)
  hy : NI y wr (Y : Int)
  eq : Nat.gcd X Y = G
  nx : x.n ≤ k
  ny : y.n ≤ k
theorem gcd_step {X Y G : Nat} (h : Nat.gcd X Y = G) : Nat.gcd Y (X % Y) = G := by
  rw [← h, Nat.gcd_comm X Y, Nat.gcd_comm Y (X % Y), ← Nat.gcd_rec]
theorem NI.len_le {x y : IV} {w w' : World} {a b : Int} (hx : NI x w a) (hy : NI y w' b) (h : a.natAbs ≤ b.natAbs) : x.n ≤ y.n :=
  ND.len (d := ⟨x.A, x.n, x.c⟩) (e := ⟨y.A, y.n, y.c⟩) (hx.nd rfl) (hy.nd rfl) h
set_option maxRecDepth 100000 in
set_option maxHeartbeats 3200000 in
theorem rGcd_any {x y : IV} {w : World} {a b : Int} (hx : NI x w a) (hy : NI y w b) (hn : x.n < many - 2) (hm : y.n < many - 2) :
    Calls Tryz.prog 58 #[.agg #[.bool x.neg, .slice x.A x.n x.c], .agg #[.bool y.neg, .slice y.A y.n y.c]] w (RetN w (Nat.gcd a.natAbs b.natAbs : Nat)) := by
  have hnm : many = 65536 := rfl
  obtain ⟨G, hG⟩ : ∃ G, G = Nat.gcd a.natAbs b.natAbs := ⟨_, rfl⟩
  rw [← hG]
  have HG := Lib.hid hG
  clear hG
  go_enter Tryz.func58, Tryz.ntmps58
  go_upto_region 1 with fail
  refine wp_new3 fun W hA hBx hO hBel => ?_
  obtain ⟨r0, r1⟩ := hA.rules2
  obtain ⟨s0, s1⟩ := hBx.rules2
  replace hx := hx.on hBel
  replace hy := hy.on hBel
  have hW := Below.refl W.heap.size W
  go_wp2_with fail
  refine (nnormal (d := ⟨x.A, x.n, x.c⟩) false hx.dv rfl).mono ?_
  rintro e w1 ⟨u, rfl, k1, hu⟩
  go_upto_region 2 with fail
  refine wp_new1 fun W2 hO5 hB2 => ?_
  have k2 := Below.call k1 hB2
  have hy2 := hy.on k2
  have hu2 := hu.on hB2
  have h15 := k1.size
  clear hu k1 hB2 hW
  go_wp2_with fail
  refine (nnormal (d := ⟨y.A, y.n, y.c⟩) false hy2.dv rfl).mono ?_
  rintro e w3 ⟨v, rfl, k3, hv⟩
  go_wp2_with fail
  refine wp_new1 fun W4 hO6 hB4 => ?_
  have k4 := Below.call k3 hB4
  have hst0 : GcdSt W w1.heap.size w3.heap.size a.natAbs b.natAbs (Nat.gcd a.natAbs b.natAbs) 65533 u v W4 :=
    ⟨Below.call k2 k4, hO5.on k4, hO6, hu2.on k4, hv.on hB4, rfl, by have := NI.len_eq hu2 hx (rsgn_abs _ _); omega, by have := NI.len_eq hv hy (rsgn_abs _ _); omega⟩
  have h56 : w1.heap.size < w3.heap.size := by have := hO5.lt; have := k3.size; omega
  rw [← HG.out] at hst0
  clear k4 hO5 hO6 hu2 hv hy2 k3 hB4 r0 r1 s0 s1 k2
  go_loopg [] (b.natAbs) (fun n wr => ∃ X x y, GcdSt W w1.heap.size w3.heap.size X n G 65533 x y wr)
  case atStart => exact ⟨a.natAbs, u, v, hst0⟩
  case round =>
    obtain ⟨X, p, q, hst⟩ := hrel
    obtain ⟨a0, a1, _, _⟩ := hst.o5.all2
    obtain ⟨b0, b1, _, _⟩ := hst.o6.all2
    have hlp := (hst.hy.nd (m := gk) (by omega)).len_pos
    simp only at hlp
    rcases Nat.eq_zero_or_pos gk with h0 | h0
    · subst h0
      have hOr := hO.on hst.bel
      obtain ⟨z0, z1, f0, f1⟩ := hOr.all2
      have hG := hst.eq
      rw [Nat.gcd_zero_right] at hG
      have hxx := hst.hx
      rw [hG] at hxx
      have hqn : ¬ (0 < q.n) := by omega
      have HF := Lib.hid (retN_end (Below.call hBel hst.bel) (by omega) hOr (by simp) (by simp) hxx)
      have hO6 := hOr.put2 (.bool p.neg) (.slice p.A p.n p.c)
      obtain ⟨q0, q1, _⟩ := hO6.all2
      clear hO6 hOr hxx hG hst hlp hst0
      go_wp2
      exact bodyPost_ret (v := .agg #[.bool p.neg, .slice p.A p.n p.c]) (by simp [results, Tryz.results58, go_sem, q0, q1]) rfl HF.out
    · have hqn : 0 < q.n := by omega
      have hb0 : (gk : Int) ≠ 0 := by omega
      have hst' := Lib.hid hst
      have hx9 := hst.hx
      have hy9 := hst.hy
      have hnx := hst.nx
      have hny := hst.ny
      clear hlp hst0 hst
      go_wp2_with fail
      refine (rDiv_any hx9 hy9 hb0 (by omega) (by omega)).mono ?_
      rintro e w5 ⟨qq, rr, rfl, k5, hq5, hr5⟩
      go_upto_region 5 with fail
      refine wp_new2 fun W6 hO7 hO8 hB6 => ?_
      have k6 := Below.call k5 hB6
      have hr6 := hr5.on hB6
      have o5 := hst'.out.o5.on k6
      have o6 := hst'.out.o6.on k6
      obtain ⟨c0, c1, cf0, cf1⟩ := o5.all2
      obtain ⟨d0, d1, df0, df1⟩ := o6.all2
      obtain ⟨V, hV, v1, v2, v3, v4, v5⟩ := put_beside (Below.call hst'.out.bel k6) (by omega) o5 o6 (by omega) (by simp) (by simp) (hst'.out.hy.on k6) hr6
      have hl5 := hst'.out.o5.lt
      have hs5 := k5.size
      have hO9 := (hO8.far (p := ⟨w1.heap.size, 0, none⟩) (by show _ ≠ w1.heap.size; omega) (.bool q.neg)).far (p := ⟨w1.heap.size, 1, none⟩) (by show _ ≠ w1.heap.size; omega) (.slice q.A q.n q.c)
      rw [hV] at hO9
      obtain ⟨u0, u1, _, _⟩ := hO9.all2
      obtain ⟨m0, m1, mf0, mf1⟩ := v3.all2
      obtain ⟨U, hU, x1, x2, x3, x4, x5⟩ := put_beside v1 (by omega) v3 v2 (by omega) (by simp) (by simp) v5 v4
      have hnr : rr.n ≤ q.n := NI.len_le v5 v4 (by
        rw [← Int.natCast_emod, Int.natAbs_natCast, Int.natAbs_natCast]
        exact Nat.le_of_lt (Nat.mod_lt _ h0))
      have hN := GcdSt.mk (G := G) (k := 65533) (X := gk) (Y := X % gk) x1 x3 x2 x5 (by rw [Int.natCast_emod]; exact x4) (gcd_step hst'.out.eq) hny (by omega)
      have HN := Lib.hid (And.intro hU hN)
      have hlt : X % gk < gk := Nat.mod_lt _ h0
      clear hU hN x1 x2 x3 x4 x5 v1 v2 v3 v4 v5 hO9 hO8 hO7 o5 o6 hr6 hr5 hq5 hx9 hy9 hst' k5 k6 hB6
      go_wp2_with fail
      go_roundg (X % gk)
      case measure => exact hlt
      case rel => exact ⟨gk, q, rr, by rw [HN.out.1]; exact HN.out.2⟩
end Go.Proofs.YthafhbogpfggjaaGreatDoor

/-
  (second part)
-/
namespace Go.Proofs.YthafhbogpfggjaaGreatDoor
open Go.RowKit
open DecM

theorem digit_at (d : Nat) (h : d < 10) : ((⟨#[48, 49, 50, 51, 52, 53, 54, 55, 56, 57]⟩ : ByteArray).extract d (d + 1)) = ⟨#[UInt8.ofNat (48 + d)]⟩ := by
  rcases (by omega : d = 0 ∨ d = 1 ∨ d = 2 ∨ d = 3 ∨ d = 4 ∨ d = 5 ∨ d = 6 ∨ d = 7 ∨ d = 8 ∨ d = 9) with rfl | rfl | rfl | rfl | rfl | rfl | rfl | rfl | rfl | rfl <;> rfl
/-- The digits that are still to be written, ahead of those that are. -/
def DecSt (m j : Nat) (sd : ByteArray) : Prop := (if j = 0 then [] else Lib.decDigits j) ++ sd.data.toList = Lib.decDigits m
theorem DecSt.start {m : Nat} (h : 0 < m) : DecSt m m ⟨#[]⟩ := by unfold DecSt; rw [if_neg (by omega)]; simp
theorem DecSt.done {m : Nat} {sd : ByteArray} (h : DecSt m 0 sd) : sd.data.toList = Lib.decDigits m := h
theorem DecSt.next {m j : Nat} {sd : ByteArray} (h : DecSt m j sd) (hj : 0 < j) : DecSt m (j / 10) (⟨#[UInt8.ofNat (48 + j % 10)]⟩ ++ sd) := by
  have e1 : Lib.decDigits j ++ sd.data.toList = Lib.decDigits m := by
    unfold DecSt at h
    rwa [if_neg (by omega)] at h
  have e2 : (⟨#[UInt8.ofNat (48 + j % 10)]⟩ ++ sd : ByteArray).data.toList = UInt8.ofNat (48 + j % 10) :: sd.data.toList := str_cat _ _
  unfold DecSt
  rw [e2, ← e1]
  by_cases h10 : j < 10
  · rw [if_pos (by omega), dec_small h10, Nat.mod_eq_of_lt h10]; rfl
  · rw [if_neg (by omega), dec_big (by omega : 10 ≤ j), List.append_assoc]; rfl
theorem DecSt.size {m j : Nat} {sd : ByteArray} (h : DecSt m j sd) (hm : m ≤ 9223372036854775808) : sd.size ≤ 19 := by
  have h1 := dec_length_le (k := 19) (n := m) (by omega) (by omega)
  have h2 := congrArg List.length h
  rw [List.length_append] at h2
  rw [str_size (s := sd) rfl]
  omega
theorem DecSt.pos {m j : Nat} {sd : ByteArray} (h : DecSt m j sd) (hj : 0 < j) {a b : Nat} (ha : a = j % 10) (hb : b = j % 10 + 1) :
    DecSt m (j / 10) ((⟨#[48, 49, 50, 51, 52, 53, 54, 55, 56, 57]⟩ : ByteArray).extract a b ++ sd) := by
  subst ha hb
  rw [digit_at _ (by omega)]
  exact h.next hj
theorem DecSt.text {m : Nat} {sd : ByteArray} (h : DecSt m 0 sd) : sd = ⟨(Lib.decDigits m).toArray⟩ := str_eq h.done
theorem itoa_neg {m : Nat} (h : 0 < m) : Lib.itoa (-(m : Int)) = 45 :: Lib.decDigits m := by
  unfold Lib.itoa
  rw [if_pos (by omega), show (-(m : Int)).natAbs = m by omega]
theorem itoa_nat (m : Nat) : Lib.itoa (m : Int) = Lib.decDigits m := by
  unfold Lib.itoa
  rw [if_neg (by omega), Int.toNat_natCast]
set_option maxRecDepth 100000 in
set_option maxHeartbeats 800000 in
theorem Decimal_any (n : Int) (w : World) (n0 : -9223372036854775808 ≤ n) (n1 : n ≤ 9223372036854775807) : Calls Tryz.prog 111 #[.int .i64 n] w (TxtPost w (Lib.itoa n)) := by
  go_enter Tryz.func111, Tryz.ntmps111
  rcases Int.lt_trichotomy n 0 with h | h | h
  · obtain ⟨m, rfl⟩ : ∃ m : Nat, n = -(m : Int) := ⟨n.natAbs, by omega⟩
    have hm : 0 < m := by omega
    have hmx : m ≤ 9223372036854775808 := by omega
    have hst := Lib.hid (DecSt.start hm)
    go_wp2_with fail
    go_loop [4, 5] (fun s4 s5 => ∃ (j : Nat) (sd : ByteArray), j ≤ m ∧ s5 = .int .i64 (-(j : Int)) ∧ s4 = .string sd ∧ Hid (DecSt m j sd)) (fun _ s5 => (intOf s5).natAbs)
    case atStart => exact ⟨m, _, Nat.le_refl _, rfl, rfl, hst⟩
    case round =>
      obtain ⟨j, sd, hj, rfl, rfl, hd⟩ := hrel
      have hsz := hd.out.size hmx
      rcases Nat.eq_zero_or_pos j with h0 | h0
      · subst h0
        have hf : Lib.itoa (-(m : Int)) = 45 :: sd.data.toList := by rw [itoa_neg hm, hd.out.done]
        have HF := Lib.hid hf
        clear hf
        go_wp2
        go_returns
        refine ⟨?_, by go_grown⟩
        rw [HF.out]
        exact congrArg (fun s => Ending.returned (.string s)) (str_eq (str_cat _ _))
      · rcases Nat.eq_zero_or_pos (j % 10) with hz | hz
        · have hz2 : (j : Int) % 10 = 0 := by omega
          have HN := Lib.hid (hd.out.pos h0 (a := 0) (b := 1) hz.symm (by omega))
          clear hz
          go_wp2
          exact ⟨⟨j / 10, _, by omega, by go_num, rfl, HN⟩, by simp [intOf]; omega⟩
        · have hz2 : -((j : Int) % 10) < 0 := by omega
          have HN := Lib.hid (hd.out.pos h0 (a := j % 10) (b := j % 10 + 1) rfl rfl)
          go_wp2
          exact ⟨⟨j / 10, _, by omega, by go_num, rfl, HN⟩, by simp [intOf]; omega⟩
  · subst h
    go_wp2
    go_returns
    exact ⟨by rw [show (0 : Int) = ((0 : Nat) : Int) from rfl, itoa_nat, dec_zero]; rfl, by go_grown⟩
  · obtain ⟨m, rfl⟩ : ∃ m : Nat, n = (m : Int) := ⟨n.natAbs, by omega⟩
    have hm : 0 < m := by omega
    have hmx : m ≤ 9223372036854775808 := by omega
    have hst := Lib.hid (DecSt.start hm)
    go_wp2_with fail
    go_loop [4, 5] (fun s4 s5 => ∃ (j : Nat) (sd : ByteArray), j ≤ m ∧ s5 = .int .i64 (j : Int) ∧ s4 = .string sd ∧ Hid (DecSt m j sd)) (fun _ s5 => (intOf s5).natAbs)
    case atStart => exact ⟨m, _, Nat.le_refl _, rfl, rfl, hst⟩
    case round =>
      obtain ⟨j, sd, hj, rfl, rfl, hd⟩ := hrel
      have hsz := hd.out.size hmx
      rcases Nat.eq_zero_or_pos j with h0 | h0
      · subst h0
        have hf : sd = ⟨(Lib.itoa (m : Int)).toArray⟩ := by rw [itoa_nat]; exact hd.out.text
        have HF := Lib.hid hf
        clear hf
        go_wp2
        go_returns
        exact ⟨congrArg (fun s => Ending.returned (.string s)) HF.out, by go_grown⟩
      · have hz2 : ¬ ((j : Int) % 10) < 0 := by omega
        have HN := Lib.hid (hd.out.pos h0 (a := j % 10) (b := j % 10 + 1) rfl rfl)
        go_wp2
        exact ⟨⟨j / 10, _, by omega, by go_num, rfl, HN⟩, by simp [intOf]; omega⟩
end Go.Proofs.YthafhbogpfggjaaGreatDoor

/-
  (second part)
-/
namespace Go.Proofs.YthafhbogpfggjaaGreatDoor
open Go.RowKit

def in64 (z : Int) : Prop := -9223372036854775808 ≤ z ∧ z ≤ 9223372036854775807
/-- What Around reckons. -/
def around (n m : Int) : Int := (if n < 0 then -(n + 1) else n) % m
theorem around_neg {n m : Int} (h : n < 0) : around n m = -((n + 1).tmod m) := by
  rw [around, if_pos h, ← Int.neg_tmod, Int.tmod_eq_emod_of_nonneg (by omega)]
theorem around_pos {n m : Int} (h : ¬ n < 0) : around n m = n % m := by rw [around, if_neg h]
theorem around_bd (n : Int) {m : Int} (h : 0 < m) : 0 ≤ around n m ∧ around n m < m := ⟨Int.emod_nonneg _ (by omega), Int.emod_lt_of_pos _ h⟩
set_option maxRecDepth 100000 in
theorem Around_any (n m : Int) (w : World) (n0 : -9223372036854775808 ≤ n) (n1 : n ≤ 9223372036854775807) (m0 : 0 < m) (m1 : m ≤ 9223372036854775807) : Calls Tryz.prog 30 #[.int .i64 n, .int .i64 m] w (RetInt w (around n m)) := by
  go_enter Tryz.func30, Tryz.ntmps30
  by_cases h : n < 0
  · have HV := Lib.hid (around_neg (m := m) h)
    go_wp2
    go_returns
    exact ⟨by rw [HV.out]; simp, by go_grown⟩
  · have HV := Lib.hid (around_pos (m := m) h)
    go_wp2
    go_returns
    exact ⟨by rw [HV.out]; simp, by go_grown⟩
/-- The ints of a slice. -/
structure IntsIs (w : World) (A : Option Addr) (l : List Int) (c : Nat) : Prop where
  sl : Sl w w.heap.size A (l.map i64)
  rg : ∀ x ∈ l, -9223372036854775808 ≤ x ∧ x ≤ 9223372036854775807
  cap : l.length ≤ c
  mx : c ≤ maxLen
theorem IntsIs.on {w w' : World} {A : Option Addr} {l : List Int} {c : Nat} (h : IntsIs w A l c) (hb : Below w.heap.size w w') : IntsIs w' A l c := ⟨h.sl.on hb, h.rg, h.cap, h.mx⟩
def pick (l : List Int) (i : Nat) (m : Int) : Int := match l[i]? with
  | some x => around x m
  | none => 0
theorem pick_bd (l : List Int) (i : Nat) {m : Int} (h : 0 < m) : 0 ≤ pick l i m ∧ pick l i m < m := by
  unfold pick
  split
  · exact around_bd _ h
  · omega
set_option maxRecDepth 100000 in
theorem Pick_any {w : World} {A : Option Addr} {l : List Int} {c : Nat} (h : IntsIs w A l c) (i : Nat) (m : Int) (m0 : 0 < m) (m1 : m ≤ 9223372036854775807) :
    Calls Tryz.prog 112 #[.slice A l.length c, .int .i64 (i : Int), .int .i64 m] w (RetInt w (pick l i m)) := by
  have h0 : ¬ (i : Int) < 0 := by omega
  go_enter Tryz.func112, Tryz.ntmps112
  rcases Nat.lt_or_ge i l.length with hl | hl
  · obtain ⟨g, off, hA, hg, hc⟩ := h.sl.at_ (i := i) (x := .int .i64 l[i]) (by simp [i64, hl])
    obtain ⟨r0, r1⟩ := h.rg l[i] (List.getElem_mem hl)
    have hp : pick l i m = around l[i] m := by unfold pick; rw [List.getElem?_eq_getElem hl]
    have HP := Lib.hid hp
    subst hA
    clear hp
    go_wp2_with fail
    refine (Around_any l[i] m _ r0 r1 m0 m1).mono ?_
    rintro e w1 ⟨rfl, k1⟩
    go_wp2
    go_returns
    exact ⟨by rw [HP.out]; rfl, k1⟩
  · have hp : pick l i m = 0 := by unfold pick; rw [List.getElem?_eq_none hl]
    have HP := Lib.hid hp
    clear hp
    go_wp2
    go_returns
    exact ⟨by rw [HP.out]; rfl, by go_grown⟩
set_option maxRecDepth 100000 in
theorem Bound_any (n m : Int) (w : World) (n0 : -9223372036854775808 ≤ n) (n1 : n ≤ 9223372036854775807) (m0 : 0 ≤ m) (m1 : m ≤ 1000000000) :
    Calls Tryz.prog 51 #[.int .i64 n, .int .i64 m] w (RetInt w (around n (2 * m + 1) - m)) := by
  obtain ⟨b0, b1⟩ := around_bd n (m := 2 * m + 1) (by omega)
  go_enter Tryz.func51, Tryz.ntmps51
  go_wp2_with fail
  refine (Around_any n (2 * m + 1) _ n0 n1 (by omega) (by omega)).mono ?_
  rintro e w1 ⟨rfl, k1⟩
  go_wp2
  go_returns
  exact ⟨rfl, k1⟩
end Go.Proofs.YthafhbogpfggjaaGreatDoor

/-
  (second part)
-/
namespace Go.Proofs.YthafhbogpfggjaaGreatDoor
open Go.RowKit
open Dig (val Ws Nz)

/-- What the reference's Small returns. -/
def RetSm (w : World) (z : Int) (e : Ending) (w' : World) : Prop :=
  Below w.heap.size w w' ∧ ((in64 z ∧ e = .returned (.tuple #[.int .i64 z, .bool true])) ∨ (¬ in64 z ∧ e = .returned (.tuple #[.int .i64 0, .bool false])))
theorem val_drop {l : List Nat} {m : Nat} (h : m < l.length) : val (l.drop m) = val (l.drop (m + 1)) * 10000 + l[m] := by
  rw [List.drop_eq_getElem_cons h]; simp only [val]; omega
theorem val_drop_le (l : List Nat) : ∀ m, m ≤ l.length → val (l.drop m) ≤ val l
  | 0, _ => by simp
  | m + 1, h => by
    have h1 := val_drop_le l m (by omega)
    have h2 := val_drop (l := l) (m := m) (by omega)
    omega
set_option maxRecDepth 100000 in
set_option maxHeartbeats 1600000 in
theorem rSmall_any {x : IV} {w : World} {z : Int} (hx : NI x w z) : Calls Tryz.prog 42 #[.agg #[.bool x.neg, .slice x.A x.n x.c]] w (RetSm w z) := by
  go_enter Tryz.func42, Tryz.ntmps42
  go_upto_region 1 with fail
  refine wp_new1 fun W hA hB => ?_
  replace hx := hx.on hB
  by_cases h1 : 9223372036854775807 < z
  · have hc1 : 0 < cmpI z 9223372036854775807 := by rw [cmpI_gt h1]; omega
    have hfin : ¬ in64 z := fun h => by unfold in64 at h; omega
    have HF := Lib.hid hfin
    clear hfin h1
    refine wp_region_specs W [Spec.eq (.agg #[.bool x.neg, .slice x.A x.n x.c]), sN 9223372036854775807, Spec.eq (.int .i64 (cmpI z 9223372036854775807)), Spec.eq (.bool true), Spec.eq (.bool true), Spec.eq undef, Spec.eq undef, Spec.eq undef, Spec.eq undef, Spec.eq (.bool true)]
        (by kernel_rfl) (by kernel_rfl) rfl (by kernel_rfl) (Below.drew (Below.refl _ _)) ?_ ?_
    ·
      refine RegSteps.cons ?_ ?_
      · intro _ az wz hC hF hD _ K hK
        have q1 : az.tmps[1]? = some (.pointer (some ⟨w.heap.size, 0, none⟩)) := hF 1 rfl
        obtain ⟨l0, l1, _⟩ := (hA.on hC).all2
        clear hF hD
        refine want_none rfl ?_
        go_simp
        exact hK _ _ hC (Below.refl _ _) rfl
      refine RegSteps.cons ?_ ?_
      · intro _ az wz hC hF hD _ K hK
        clear hF hD
        refine want_none rfl ?_
        go_simp
        refine (rOf_any _ _ (by omega) (by omega)).mono ?_
        rintro e wy ⟨x, rfl, k, hx⟩
        exact hK _ _ (Below.call hC k) k ⟨x, rfl, hx⟩
      refine RegSteps.cons ?_ ?_
      · intro _ az wz hC hF hD _ K hK
        obtain ⟨_, q6, rfl⟩ := dep hD 0 rfl rfl rfl rfl
        obtain ⟨_, q7, x7, rfl, hx7⟩ := dep hD 1 rfl rfl rfl rfl
        clear hF hD
        refine want_none rfl ?_
        go_simp
        refine (rCompare_any (hx.on hC) hx7).mono ?_
        rintro e wy ⟨rfl, k⟩
        exact hK _ _ (Below.call hC k) k rfl
      refine RegSteps.cons ?_ ?_
      · intro _ az wz hC hF hD _ K hK
        obtain ⟨_, q8, rfl⟩ := dep hD 2 rfl rfl rfl rfl
        clear hF hD
        refine want_none rfl ?_
        go_simp
        exact hK _ _ hC (Below.refl _ _) rfl
      refine RegSteps.cons ?_ ?_
      · intro _ az wz hC hF hD _ K hK
        obtain ⟨_, q9, rfl⟩ := dep hD 3 rfl rfl rfl rfl
        clear hF hD
        refine want_none rfl ?_
        go_simp
        exact hK _ _ hC (Below.refl _ _) rfl
      refine RegSteps.cons ?_ ?_
      · exact fun _ => step_no (c := true) rfl rfl rfl rfl rfl (fun _ _ h => h) rfl (fun _ => rfl)
      refine RegSteps.cons ?_ ?_
      · exact fun _ => step_no (c := true) rfl rfl rfl rfl rfl (fun _ _ h => h) rfl (fun _ => rfl)
      refine RegSteps.cons ?_ ?_
      · exact fun _ => step_no (c := true) rfl rfl rfl rfl rfl (fun _ _ h => h) rfl (fun _ => rfl)
      refine RegSteps.cons ?_ ?_
      · exact fun _ => step_no (c := true) rfl rfl rfl rfl rfl (fun _ _ h => h) rfl (fun _ => rfl)
      refine RegSteps.cons ?_ ?_
      · intro _ az wz hC hF hD _ K hK
        obtain ⟨_, q10, rfl⟩ := dep hD 4 rfl rfl rfl rfl
        obtain ⟨_, q14, rfl⟩ := dep hD 8 rfl rfl rfl rfl
        clear hF hD
        refine want_none rfl ?_
        go_simp
        exact hK _ _ hC (Below.refl _ _) rfl
      exact RegSteps.nil
    intro w5 hC
    rintro _ rfl _ ⟨y7, rfl, _⟩ _ rfl _ rfl _ rfl _ rfl _ rfl _ rfl _ rfl _ rfl
    simp only [FinOK, Act.put, List.setIfInBounds_toArray, List.set_cons_zero, List.set_cons_succ]
    go_wp2
    go_returns
    exact ⟨Below.call hB hC, .inr ⟨HF.out, rfl⟩⟩
  · have hc1 : ¬ 0 < cmpI z 9223372036854775807 := by
      rcases Int.lt_or_eq_of_le (by omega : z ≤ 9223372036854775807) with h | h
      · rw [cmpI_lt h]; omega
      · rw [cmpI_eq h]; omega
    by_cases h2 : z < -9223372036854775808
    · have hc2 : cmpI z (-9223372036854775808) < 0 := by rw [cmpI_lt h2]; omega
      have hfin : ¬ in64 z := fun h => by unfold in64 at h; omega
      have HF := Lib.hid hfin
      clear hfin h1 h2
      refine wp_region_specs W [Spec.eq (.agg #[.bool x.neg, .slice x.A x.n x.c]), sN 9223372036854775807, Spec.eq (.int .i64 (cmpI z 9223372036854775807)), Spec.eq (.bool false), Spec.eq (.bool false), Spec.eq (.agg #[.bool x.neg, .slice x.A x.n x.c]), sN (-9223372036854775808), Spec.eq (.int .i64 (cmpI z (-9223372036854775808))), Spec.eq (.bool true), Spec.eq (.bool true)]
          (by kernel_rfl) (by kernel_rfl) rfl (by kernel_rfl) (Below.drew (Below.refl _ _)) ?_ ?_
      ·
        refine RegSteps.cons ?_ ?_
        · intro _ az wz hC hF hD _ K hK
          have q1 : az.tmps[1]? = some (.pointer (some ⟨w.heap.size, 0, none⟩)) := hF 1 rfl
          obtain ⟨l0, l1, _⟩ := (hA.on hC).all2
          clear hF hD
          refine want_none rfl ?_
          go_simp
          exact hK _ _ hC (Below.refl _ _) rfl
        refine RegSteps.cons ?_ ?_
        · intro _ az wz hC hF hD _ K hK
          clear hF hD
          refine want_none rfl ?_
          go_simp
          refine (rOf_any _ _ (by omega) (by omega)).mono ?_
          rintro e wy ⟨x, rfl, k, hx⟩
          exact hK _ _ (Below.call hC k) k ⟨x, rfl, hx⟩
        refine RegSteps.cons ?_ ?_
        · intro _ az wz hC hF hD _ K hK
          obtain ⟨_, q6, rfl⟩ := dep hD 0 rfl rfl rfl rfl
          obtain ⟨_, q7, x7, rfl, hx7⟩ := dep hD 1 rfl rfl rfl rfl
          clear hF hD
          refine want_none rfl ?_
          go_simp
          refine (rCompare_any (hx.on hC) hx7).mono ?_
          rintro e wy ⟨rfl, k⟩
          exact hK _ _ (Below.call hC k) k rfl
        refine RegSteps.cons ?_ ?_
        · intro _ az wz hC hF hD _ K hK
          obtain ⟨_, q8, rfl⟩ := dep hD 2 rfl rfl rfl rfl
          clear hF hD
          refine want_none rfl ?_
          go_simp
          exact hK _ _ hC (Below.refl _ _) rfl
        refine RegSteps.cons ?_ ?_
        · intro _ az wz hC hF hD _ K hK
          obtain ⟨_, q9, rfl⟩ := dep hD 3 rfl rfl rfl rfl
          clear hF hD
          refine want_none rfl ?_
          go_simp
          exact hK _ _ hC (Below.refl _ _) rfl
        refine RegSteps.cons ?_ ?_
        · intro _ az wz hC hF hD _ K hK
          have q1 : az.tmps[1]? = some (.pointer (some ⟨w.heap.size, 0, none⟩)) := hF 1 rfl
          obtain ⟨_, qg, rfl⟩ := dep hD 4 rfl rfl rfl rfl
          obtain ⟨l0, l1, _⟩ := (hA.on hC).all2
          clear hF hD
          refine want_yes rfl rfl rfl qg ?_
          go_simp
          exact hK _ _ hC (Below.refl _ _) rfl
        refine RegSteps.cons ?_ ?_
        · intro _ az wz hC hF hD _ K hK
          obtain ⟨_, qg, rfl⟩ := dep hD 4 rfl rfl rfl rfl
          clear hF hD
          refine want_yes rfl rfl rfl qg ?_
          go_simp
          refine (rOf_any _ _ (by omega) (by omega)).mono ?_
          rintro e wy ⟨x, rfl, k, hx⟩
          exact hK _ _ (Below.call hC k) k ⟨x, rfl, hx⟩
        refine RegSteps.cons ?_ ?_
        · intro _ az wz hC hF hD _ K hK
          obtain ⟨_, q11, rfl⟩ := dep hD 5 rfl rfl rfl rfl
          obtain ⟨_, q12, x12, rfl, hx12⟩ := dep hD 6 rfl rfl rfl rfl
          obtain ⟨_, qg, rfl⟩ := dep hD 4 rfl rfl rfl rfl
          clear hF hD
          refine want_yes rfl rfl rfl qg ?_
          go_simp
          refine (rCompare_any (hx.on hC) hx12).mono ?_
          rintro e wy ⟨rfl, k⟩
          exact hK _ _ (Below.call hC k) k rfl
        refine RegSteps.cons ?_ ?_
        · intro _ az wz hC hF hD _ K hK
          obtain ⟨_, q13, rfl⟩ := dep hD 7 rfl rfl rfl rfl
          obtain ⟨_, qg, rfl⟩ := dep hD 4 rfl rfl rfl rfl
          clear hF hD
          refine want_yes rfl rfl rfl qg ?_
          go_simp
          exact hK _ _ hC (Below.refl _ _) rfl
        refine RegSteps.cons ?_ ?_
        · intro _ az wz hC hF hD _ K hK
          obtain ⟨_, q10, rfl⟩ := dep hD 4 rfl rfl rfl rfl
          obtain ⟨_, q14, rfl⟩ := dep hD 8 rfl rfl rfl rfl
          clear hF hD
          refine want_none rfl ?_
          go_simp
          exact hK _ _ hC (Below.refl _ _) rfl
        exact RegSteps.nil
      intro w5 hC
      rintro _ rfl _ ⟨y7, rfl, _⟩ _ rfl _ rfl _ rfl _ rfl _ ⟨y12, rfl, _⟩ _ rfl _ rfl _ rfl
      simp only [FinOK, Act.put, List.setIfInBounds_toArray, List.set_cons_zero, List.set_cons_succ]
      go_wp2
      go_returns
      exact ⟨Below.call hB hC, .inr ⟨HF.out, rfl⟩⟩
    · have hc2 : ¬ cmpI z (-9223372036854775808) < 0 := by
        rcases Int.lt_or_eq_of_le (by omega : -9223372036854775808 ≤ z) with h | h
        · rw [cmpI_gt h]; omega
        · rw [cmpI_eq h.symm]; omega
      have hfin : in64 z := by unfold in64; omega
      have HF := Lib.hid hfin
      refine wp_region_specs W [Spec.eq (.agg #[.bool x.neg, .slice x.A x.n x.c]), sN 9223372036854775807, Spec.eq (.int .i64 (cmpI z 9223372036854775807)), Spec.eq (.bool false), Spec.eq (.bool false), Spec.eq (.agg #[.bool x.neg, .slice x.A x.n x.c]), sN (-9223372036854775808), Spec.eq (.int .i64 (cmpI z (-9223372036854775808))), Spec.eq (.bool false), Spec.eq (.bool false)]
          (by kernel_rfl) (by kernel_rfl) rfl (by kernel_rfl) (Below.drew (Below.refl _ _)) ?_ ?_
      ·
        refine RegSteps.cons ?_ ?_
        · intro _ az wz hC hF hD _ K hK
          have q1 : az.tmps[1]? = some (.pointer (some ⟨w.heap.size, 0, none⟩)) := hF 1 rfl
          obtain ⟨l0, l1, _⟩ := (hA.on hC).all2
          clear hF hD
          refine want_none rfl ?_
          go_simp
          exact hK _ _ hC (Below.refl _ _) rfl
        refine RegSteps.cons ?_ ?_
        · intro _ az wz hC hF hD _ K hK
          clear hF hD
          refine want_none rfl ?_
          go_simp
          refine (rOf_any _ _ (by omega) (by omega)).mono ?_
          rintro e wy ⟨x, rfl, k, hx⟩
          exact hK _ _ (Below.call hC k) k ⟨x, rfl, hx⟩
        refine RegSteps.cons ?_ ?_
        · intro _ az wz hC hF hD _ K hK
          obtain ⟨_, q6, rfl⟩ := dep hD 0 rfl rfl rfl rfl
          obtain ⟨_, q7, x7, rfl, hx7⟩ := dep hD 1 rfl rfl rfl rfl
          clear hF hD
          refine want_none rfl ?_
          go_simp
          refine (rCompare_any (hx.on hC) hx7).mono ?_
          rintro e wy ⟨rfl, k⟩
          exact hK _ _ (Below.call hC k) k rfl
        refine RegSteps.cons ?_ ?_
        · intro _ az wz hC hF hD _ K hK
          obtain ⟨_, q8, rfl⟩ := dep hD 2 rfl rfl rfl rfl
          clear hF hD
          refine want_none rfl ?_
          go_simp
          exact hK _ _ hC (Below.refl _ _) rfl
        refine RegSteps.cons ?_ ?_
        · intro _ az wz hC hF hD _ K hK
          obtain ⟨_, q9, rfl⟩ := dep hD 3 rfl rfl rfl rfl
          clear hF hD
          refine want_none rfl ?_
          go_simp
          exact hK _ _ hC (Below.refl _ _) rfl
        refine RegSteps.cons ?_ ?_
        · intro _ az wz hC hF hD _ K hK
          have q1 : az.tmps[1]? = some (.pointer (some ⟨w.heap.size, 0, none⟩)) := hF 1 rfl
          obtain ⟨_, qg, rfl⟩ := dep hD 4 rfl rfl rfl rfl
          obtain ⟨l0, l1, _⟩ := (hA.on hC).all2
          clear hF hD
          refine want_yes rfl rfl rfl qg ?_
          go_simp
          exact hK _ _ hC (Below.refl _ _) rfl
        refine RegSteps.cons ?_ ?_
        · intro _ az wz hC hF hD _ K hK
          obtain ⟨_, qg, rfl⟩ := dep hD 4 rfl rfl rfl rfl
          clear hF hD
          refine want_yes rfl rfl rfl qg ?_
          go_simp
          refine (rOf_any _ _ (by omega) (by omega)).mono ?_
          rintro e wy ⟨x, rfl, k, hx⟩
          exact hK _ _ (Below.call hC k) k ⟨x, rfl, hx⟩
        refine RegSteps.cons ?_ ?_
        · intro _ az wz hC hF hD _ K hK
          obtain ⟨_, q11, rfl⟩ := dep hD 5 rfl rfl rfl rfl
          obtain ⟨_, q12, x12, rfl, hx12⟩ := dep hD 6 rfl rfl rfl rfl
          obtain ⟨_, qg, rfl⟩ := dep hD 4 rfl rfl rfl rfl
          clear hF hD
          refine want_yes rfl rfl rfl qg ?_
          go_simp
          refine (rCompare_any (hx.on hC) hx12).mono ?_
          rintro e wy ⟨rfl, k⟩
          exact hK _ _ (Below.call hC k) k rfl
        refine RegSteps.cons ?_ ?_
        · intro _ az wz hC hF hD _ K hK
          obtain ⟨_, q13, rfl⟩ := dep hD 7 rfl rfl rfl rfl
          obtain ⟨_, qg, rfl⟩ := dep hD 4 rfl rfl rfl rfl
          clear hF hD
          refine want_yes rfl rfl rfl qg ?_
          go_simp
          exact hK _ _ hC (Below.refl _ _) rfl
        refine RegSteps.cons ?_ ?_
        · intro _ az wz hC hF hD _ K hK
          obtain ⟨_, q10, rfl⟩ := dep hD 4 rfl rfl rfl rfl
          obtain ⟨_, q14, rfl⟩ := dep hD 8 rfl rfl rfl rfl
          clear hF hD
          refine want_none rfl ?_
          go_simp
          exact hK _ _ hC (Below.refl _ _) rfl
        exact RegSteps.nil
      intro w5 hC
      rintro _ rfl _ ⟨y7, rfl, _⟩ _ rfl _ rfl _ rfl _ rfl _ ⟨y12, rfl, _⟩ _ rfl _ rfl _ rfl
      simp only [FinOK, Act.put, List.setIfInBounds_toArray, List.set_cons_zero, List.set_cons_succ]
      replace hx := hx.on hC
      replace hA := hA.on hC
      replace hB := Below.call hB hC
      clear hC hc1 hc2
      obtain ⟨l, e1, e2, e3, e4, e5, e6⟩ := hx.abs
      obtain ⟨a0, a1, _, _⟩ := hA.all2
      obtain ⟨ng, A, n, c⟩ := x
      simp only at e1 e2 e3 e4 e5 e6 a0 a1 ⊢
      subst e1
      have hnm : many = 65536 := rfl
      rw [hnm] at e2
      have hle : val l ≤ 9223372036854775808 := by rw [e5]; unfold in64 at hfin; omega
      have hpos : ng = false → val l ≤ 9223372036854775807 := fun h => by
        rw [e5]
        rw [h] at e6
        have := of_decide_eq_false e6.symm
        unfold in64 at hfin
        omega
      have HP := Lib.hid hpos
      have hws := e3.ws
      have hsl := e3.sl
      have HE := Lib.hid (And.intro e5 e6)
      clear hpos hx e3 e4 e5 e6 hnm hfin
      cases ng with
      | false =>
        have hle7 := HP.out rfl
        go_wp2_with fail
        go_loop [4, 5] (fun s4 s5 => ∃ k : Nat, k ≤ l.length ∧ s5 = .int .i64 ((k : Int) - 1) ∧ s4 = .int .i64 (val (l.drop k) : Int)) (fun _ s5 => (intOf s5 + 1).toNat)
        case atStart => exact ⟨l.length, Nat.le_refl _, rfl, by rw [List.drop_length]; rfl⟩
        case round =>
          obtain ⟨k, hk, rfl, rfl⟩ := hrel
          rcases Nat.eq_zero_or_pos k with h0 | h0
          · subst h0
            have hf : ((val l : Nat) : Int) = z := by
              have h3 := HE.out.1
              have h4 := of_decide_eq_false HE.out.2.symm
              omega
            have HZ := Lib.hid hf
            clear hf
            go_wp2
            go_returns
            exact ⟨hB, .inl ⟨HF.out, by rw [← HZ.out]; simp⟩⟩
          · obtain ⟨m, rfl⟩ : ∃ m, k = m + 1 := ⟨k - 1, by omega⟩
            rw [show (((m + 1 : Nat) : Int) - 1) = (m : Int) by omega]
            obtain ⟨g, off, rfl, hg, hc⟩ := hsl.d64at (i := m) (by omega)
            have hv := val_drop (l := l) (m := m) (by omega)
            have hl2 := val_drop_le l m (by omega)
            have hd := hws.get (i := m) (by omega)
            generalize val (l.drop (m + 1)) = p at hv ⊢
            have HV := Lib.hid hv
            have hp1 : p * 10000 + l[m] ≤ 9223372036854775807 := by omega
            have q1 : (0 : Int) ≤ (m : Int) := by omega
            have q2 : (m : Int) < (l.length : Int) := by omega
            clear hv hl2
            go_wp2
            exact ⟨⟨m, by omega, by go_num, by rw [HV.out]; simp⟩, by simp [intOf] <;> omega⟩
      | true =>
        go_wp2_with fail
        go_loop [4, 5] (fun s4 s5 => ∃ k : Nat, k ≤ l.length ∧ s5 = .int .i64 ((k : Int) - 1) ∧ s4 = .int .i64 (-(val (l.drop k) : Int))) (fun _ s5 => (intOf s5 + 1).toNat)
        case atStart => exact ⟨l.length, Nat.le_refl _, rfl, by rw [List.drop_length]; rfl⟩
        case round =>
          obtain ⟨k, hk, rfl, rfl⟩ := hrel
          rcases Nat.eq_zero_or_pos k with h0 | h0
          · subst h0
            have hf : -((val l : Nat) : Int) = z := by
              have h3 := HE.out.1
              have h4 := of_decide_eq_true HE.out.2.symm
              omega
            have HZ := Lib.hid hf
            clear hf
            go_wp2
            go_returns
            exact ⟨hB, .inl ⟨HF.out, by rw [← HZ.out]; simp⟩⟩
          · obtain ⟨m, rfl⟩ : ∃ m, k = m + 1 := ⟨k - 1, by omega⟩
            rw [show (((m + 1 : Nat) : Int) - 1) = (m : Int) by omega]
            obtain ⟨g, off, rfl, hg, hc⟩ := hsl.d64at (i := m) (by omega)
            have hv := val_drop (l := l) (m := m) (by omega)
            have hl2 := val_drop_le l m (by omega)
            have hd := hws.get (i := m) (by omega)
            generalize val (l.drop (m + 1)) = p at hv ⊢
            have HV := Lib.hid hv
            have hp1 : p * 10000 + l[m] ≤ 9223372036854775808 := by omega
            have q1 : (0 : Int) ≤ (m : Int) := by omega
            have q2 : (m : Int) < (l.length : Int) := by omega
            clear hv hl2
            go_wp2
            exact ⟨⟨m, by omega, by go_num, by rw [HV.out]; simp; omega⟩, by simp [intOf] <;> omega⟩
theorem tdiv_in {n : Int} (n0 : -9223372036854775808 ≤ n) (n1 : n ≤ 9223372036854775807) : -9223372036854775808 ≤ n.tdiv 28 ∧ n.tdiv 28 ≤ 9223372036854775807 := by
  rcases Int.lt_or_le n 0 with h | h
  · have e : n.tdiv 28 = -((-n) / 28) := by
      rw [← Int.tdiv_eq_ediv_of_nonneg (by omega), Int.neg_tdiv, Int.neg_neg]
    omega
  · rw [Int.tdiv_eq_ediv_of_nonneg h]; omega
/-- The powers of two that Near is near to. -/
def nearE (j : Nat) : Nat := match j with
  | 0 => 16384
  | 1 => 16383
  | 2 => 8192
  | _ => 63
def nearV (k : Int) : Int := ((2 ^ nearE (k % 4).toNat : Nat) : Int) + (k / 4 - 3)
theorem rPower_nat (p : Nat) (w : World) (hp : p ≤ 16384) (i : Int) (hi : i = (p : Int)) : Calls Tryz.prog 62 #[.int .i64 i] w (RetN w ((2 ^ p : Nat) : Int)) := by
  subst hi
  exact rPower_any p w hp
set_option maxRecDepth 100000 in
set_option maxHeartbeats 1600000 in
theorem rNear_any (n : Int) (hn : in64 n) (w : World) : Calls Tryz.prog 40 #[.int .i64 n] w (fun e w' => ∃ z : Int, (z = nearV (around n 28) ∨ z = -nearV (around n 28)) ∧ RetN w z e w') := by
  obtain ⟨d0, d1⟩ := around_bd n (m := 28) (by omega)
  obtain ⟨n0, n1⟩ := hn
  go_enter Tryz.func40, Tryz.ntmps40
  go_upto_region 1 with fail
  refine wp_new1 fun W hO hB => ?_
  go_wp2_with fail
  refine (Around_any n 28 _ n0 n1 (by omega) (by omega)).mono ?_
  rintro e w1 ⟨rfl, k1⟩
  obtain ⟨K, hK⟩ : ∃ K, K = around n 28 := ⟨_, rfl⟩
  rw [← hK] at d0 d1 ⊢
  have HK := Lib.hid hK
  clear hK
  obtain ⟨j, hj⟩ : ∃ j : Nat, j = (K % 4).toNat := ⟨_, rfl⟩
  have hp : nearE j ≤ 16384 := by unfold nearE; split <;> omega
  have hPow : ∀ i : Int, i = (nearE j : Int) → ∀ w, Calls Tryz.prog 62 #[.int .i64 i] w (RetN w ((2 ^ nearE j : Nat) : Int)) := fun i hi w => rPower_nat _ w hp i hi
  have HV : Hid (nearV K = ((2 ^ nearE j : Nat) : Int) + (K / 4 - 3)) := Lib.hid (by unfold nearV; rw [← hj])
  obtain ⟨T, hT⟩ : ∃ T : Nat, T = 2 ^ nearE j := ⟨_, rfl⟩
  have hTn : ∀ {x : IV} {w : World}, NI x w (T : Int) → x.n ≤ 1262 := fun h => by
    rw [hT] at h
    exact NI.two_ (j := 1261) h (by omega)
  rw [← hT] at hPow HV
  have HP := Lib.hid hPow
  clear hPow hT hp
  have hjc : (K % 4 = 0 ∧ j = 0) ∨ (K % 4 = 1 ∧ j = 1) ∨ (K % 4 = 2 ∧ j = 2) ∨ (K % 4 = 3 ∧ j = 3) := by omega
  clear hj
  rcases hjc with ⟨hm, rfl⟩ | ⟨hm, rfl⟩ | ⟨hm, rfl⟩ | ⟨hm, rfl⟩
  ·
    go_wp2_with fail
    refine (HP.out 16384 rfl _).mono ?_
    rintro e w2 ⟨p, rfl, k2, hp⟩
    go_wp2_with fail
    refine (rOf_any (K / 4 - 3) _ (by omega) (by omega)).mono ?_
    rintro e w3 ⟨q, rfl, k3, hq⟩
    have hnq := NI.len hq (k := 1) (by omega)
    have hnp := hTn (hp.on k3)
    go_wp2_with fail
    refine (rAdd_any (hp.on k3) hq (by unfold many; omega) (by unfold many; omega)).mono ?_
    rintro e w4 ⟨s, rfl, k4, hs⟩
    rw [← HV.out] at hs
    go_upto_region 3 with fail
    refine wp_new1 fun w5 hS k5 => ?_
    have kk := Below.call (Below.call (Below.call k1 (below_new w1 _)) k2) (Below.call (Below.call k3 k4) k5)
    replace hs := hs.on k5
    clear hp hq k2 k3 k4 k5 hm hTn hnp hnq
    have ht0 : -9223372036854775808 ≤ n.tdiv 28 ∧ n.tdiv 28 ≤ 9223372036854775807 := tdiv_in n0 n1
    obtain ⟨c0, c1⟩ := around_bd (n.tdiv 28) (m := 2) (by omega)
    go_wp2_with fail
    refine (Around_any (n.tdiv 28) 2 _ ht0.1 ht0.2 (by omega) (by omega)).mono ?_
    rintro e w6 ⟨rfl, k6⟩
    have kk2 := Below.call kk k6
    replace hs := hs.on k6
    replace hS := hS.on k6
    have hOr := hO.on kk2
    replace hB := Below.call hB kk2
    clear kk kk2 k6 hO ht0
    obtain ⟨s0, s1⟩ := hS.rules2
    have hW := Below.refl w6.heap.size w6
    by_cases ha : around (n.tdiv 28) 2 = 1
    · go_wp2_with fail
      refine (rNeg_any hs).mono ?_
      rintro e w7 ⟨t, rfl, k7, ht⟩
      have hO7 := hOr.on k7
      obtain ⟨z0, z1, f0, f1⟩ := hO7.all2
      have HF := Lib.hid (retN_end (Below.call hB k7) (Nat.le_refl _) hO7 (by simp) (by simp) ht)
      obtain ⟨q0, q1, _⟩ := (hO7.put2 (.bool t.neg) (.slice t.A t.n t.c)).all2
      clear hO7 hOr hs hS s0 s1 hW
      go_wp2
      exact bodyPost_ret (v := .agg #[.bool t.neg, .slice t.A t.n t.c]) (by simp [results, Tryz.results40, go_sem, q0, q1]) rfl ⟨_, .inr (by rw [HK.out]), HF.out⟩
    · have hb : (around (n.tdiv 28) 2 == 1) = false := by rw [beq_eq_false_iff_ne]; exact ha
      obtain ⟨s0, s1, _, _⟩ := hS.all2
      obtain ⟨z0, z1, f0, f1⟩ := hOr.all2
      have HF := Lib.hid (retN_end hB (Nat.le_refl _) hOr (by simp) (by simp) hs)
      obtain ⟨q0, q1, _⟩ := (hOr.put2 (.bool s.neg) (.slice s.A s.n s.c)).all2
      clear hOr hs hS hW
      go_wp2
      exact bodyPost_ret (v := .agg #[.bool s.neg, .slice s.A s.n s.c]) (by simp [results, Tryz.results40, go_sem, q0, q1]) rfl ⟨_, .inl (by rw [HK.out]), HF.out⟩
  ·
    go_wp2_with fail
    refine (HP.out 16383 rfl _).mono ?_
    rintro e w2 ⟨p, rfl, k2, hp⟩
    go_wp2_with fail
    refine (rOf_any (K / 4 - 3) _ (by omega) (by omega)).mono ?_
    rintro e w3 ⟨q, rfl, k3, hq⟩
    have hnq := NI.len hq (k := 1) (by omega)
    have hnp := hTn (hp.on k3)
    go_wp2_with fail
    refine (rAdd_any (hp.on k3) hq (by unfold many; omega) (by unfold many; omega)).mono ?_
    rintro e w4 ⟨s, rfl, k4, hs⟩
    rw [← HV.out] at hs
    go_upto_region 3 with fail
    refine wp_new1 fun w5 hS k5 => ?_
    have kk := Below.call (Below.call (Below.call k1 (below_new w1 _)) k2) (Below.call (Below.call k3 k4) k5)
    replace hs := hs.on k5
    clear hp hq k2 k3 k4 k5 hm hTn hnp hnq
    have ht0 : -9223372036854775808 ≤ n.tdiv 28 ∧ n.tdiv 28 ≤ 9223372036854775807 := tdiv_in n0 n1
    obtain ⟨c0, c1⟩ := around_bd (n.tdiv 28) (m := 2) (by omega)
    go_wp2_with fail
    refine (Around_any (n.tdiv 28) 2 _ ht0.1 ht0.2 (by omega) (by omega)).mono ?_
    rintro e w6 ⟨rfl, k6⟩
    have kk2 := Below.call kk k6
    replace hs := hs.on k6
    replace hS := hS.on k6
    have hOr := hO.on kk2
    replace hB := Below.call hB kk2
    clear kk kk2 k6 hO ht0
    obtain ⟨s0, s1⟩ := hS.rules2
    have hW := Below.refl w6.heap.size w6
    by_cases ha : around (n.tdiv 28) 2 = 1
    · go_wp2_with fail
      refine (rNeg_any hs).mono ?_
      rintro e w7 ⟨t, rfl, k7, ht⟩
      have hO7 := hOr.on k7
      obtain ⟨z0, z1, f0, f1⟩ := hO7.all2
      have HF := Lib.hid (retN_end (Below.call hB k7) (Nat.le_refl _) hO7 (by simp) (by simp) ht)
      obtain ⟨q0, q1, _⟩ := (hO7.put2 (.bool t.neg) (.slice t.A t.n t.c)).all2
      clear hO7 hOr hs hS s0 s1 hW
      go_wp2
      exact bodyPost_ret (v := .agg #[.bool t.neg, .slice t.A t.n t.c]) (by simp [results, Tryz.results40, go_sem, q0, q1]) rfl ⟨_, .inr (by rw [HK.out]), HF.out⟩
    · have hb : (around (n.tdiv 28) 2 == 1) = false := by rw [beq_eq_false_iff_ne]; exact ha
      obtain ⟨s0, s1, _, _⟩ := hS.all2
      obtain ⟨z0, z1, f0, f1⟩ := hOr.all2
      have HF := Lib.hid (retN_end hB (Nat.le_refl _) hOr (by simp) (by simp) hs)
      obtain ⟨q0, q1, _⟩ := (hOr.put2 (.bool s.neg) (.slice s.A s.n s.c)).all2
      clear hOr hs hS hW
      go_wp2
      exact bodyPost_ret (v := .agg #[.bool s.neg, .slice s.A s.n s.c]) (by simp [results, Tryz.results40, go_sem, q0, q1]) rfl ⟨_, .inl (by rw [HK.out]), HF.out⟩
  ·
    go_wp2_with fail
    refine (HP.out 8192 rfl _).mono ?_
    rintro e w2 ⟨p, rfl, k2, hp⟩
    go_wp2_with fail
    refine (rOf_any (K / 4 - 3) _ (by omega) (by omega)).mono ?_
    rintro e w3 ⟨q, rfl, k3, hq⟩
    have hnq := NI.len hq (k := 1) (by omega)
    have hnp := hTn (hp.on k3)
    go_wp2_with fail
    refine (rAdd_any (hp.on k3) hq (by unfold many; omega) (by unfold many; omega)).mono ?_
    rintro e w4 ⟨s, rfl, k4, hs⟩
    rw [← HV.out] at hs
    go_upto_region 3 with fail
    refine wp_new1 fun w5 hS k5 => ?_
    have kk := Below.call (Below.call (Below.call k1 (below_new w1 _)) k2) (Below.call (Below.call k3 k4) k5)
    replace hs := hs.on k5
    clear hp hq k2 k3 k4 k5 hm hTn hnp hnq
    have ht0 : -9223372036854775808 ≤ n.tdiv 28 ∧ n.tdiv 28 ≤ 9223372036854775807 := tdiv_in n0 n1
    obtain ⟨c0, c1⟩ := around_bd (n.tdiv 28) (m := 2) (by omega)
    go_wp2_with fail
    refine (Around_any (n.tdiv 28) 2 _ ht0.1 ht0.2 (by omega) (by omega)).mono ?_
    rintro e w6 ⟨rfl, k6⟩
    have kk2 := Below.call kk k6
    replace hs := hs.on k6
    replace hS := hS.on k6
    have hOr := hO.on kk2
    replace hB := Below.call hB kk2
    clear kk kk2 k6 hO ht0
    obtain ⟨s0, s1⟩ := hS.rules2
    have hW := Below.refl w6.heap.size w6
    by_cases ha : around (n.tdiv 28) 2 = 1
    · go_wp2_with fail
      refine (rNeg_any hs).mono ?_
      rintro e w7 ⟨t, rfl, k7, ht⟩
      have hO7 := hOr.on k7
      obtain ⟨z0, z1, f0, f1⟩ := hO7.all2
      have HF := Lib.hid (retN_end (Below.call hB k7) (Nat.le_refl _) hO7 (by simp) (by simp) ht)
      obtain ⟨q0, q1, _⟩ := (hO7.put2 (.bool t.neg) (.slice t.A t.n t.c)).all2
      clear hO7 hOr hs hS s0 s1 hW
      go_wp2
      exact bodyPost_ret (v := .agg #[.bool t.neg, .slice t.A t.n t.c]) (by simp [results, Tryz.results40, go_sem, q0, q1]) rfl ⟨_, .inr (by rw [HK.out]), HF.out⟩
    · have hb : (around (n.tdiv 28) 2 == 1) = false := by rw [beq_eq_false_iff_ne]; exact ha
      obtain ⟨s0, s1, _, _⟩ := hS.all2
      obtain ⟨z0, z1, f0, f1⟩ := hOr.all2
      have HF := Lib.hid (retN_end hB (Nat.le_refl _) hOr (by simp) (by simp) hs)
      obtain ⟨q0, q1, _⟩ := (hOr.put2 (.bool s.neg) (.slice s.A s.n s.c)).all2
      clear hOr hs hS hW
      go_wp2
      exact bodyPost_ret (v := .agg #[.bool s.neg, .slice s.A s.n s.c]) (by simp [results, Tryz.results40, go_sem, q0, q1]) rfl ⟨_, .inl (by rw [HK.out]), HF.out⟩
  ·
    go_wp2_with fail
    refine (HP.out 63 rfl _).mono ?_
    rintro e w2 ⟨p, rfl, k2, hp⟩
    go_wp2_with fail
    refine (rOf_any (K / 4 - 3) _ (by omega) (by omega)).mono ?_
    rintro e w3 ⟨q, rfl, k3, hq⟩
    have hnq := NI.len hq (k := 1) (by omega)
    have hnp := hTn (hp.on k3)
    go_wp2_with fail
    refine (rAdd_any (hp.on k3) hq (by unfold many; omega) (by unfold many; omega)).mono ?_
    rintro e w4 ⟨s, rfl, k4, hs⟩
    rw [← HV.out] at hs
    go_upto_region 3 with fail
    refine wp_new1 fun w5 hS k5 => ?_
    have kk := Below.call (Below.call (Below.call k1 (below_new w1 _)) k2) (Below.call (Below.call k3 k4) k5)
    replace hs := hs.on k5
    clear hp hq k2 k3 k4 k5 hm hTn hnp hnq
    have ht0 : -9223372036854775808 ≤ n.tdiv 28 ∧ n.tdiv 28 ≤ 9223372036854775807 := tdiv_in n0 n1
    obtain ⟨c0, c1⟩ := around_bd (n.tdiv 28) (m := 2) (by omega)
    go_wp2_with fail
    refine (Around_any (n.tdiv 28) 2 _ ht0.1 ht0.2 (by omega) (by omega)).mono ?_
    rintro e w6 ⟨rfl, k6⟩
    have kk2 := Below.call kk k6
    replace hs := hs.on k6
    replace hS := hS.on k6
    have hOr := hO.on kk2
    replace hB := Below.call hB kk2
    clear kk kk2 k6 hO ht0
    obtain ⟨s0, s1⟩ := hS.rules2
    have hW := Below.refl w6.heap.size w6
    by_cases ha : around (n.tdiv 28) 2 = 1
    · go_wp2_with fail
      refine (rNeg_any hs).mono ?_
      rintro e w7 ⟨t, rfl, k7, ht⟩
      have hO7 := hOr.on k7
      obtain ⟨z0, z1, f0, f1⟩ := hO7.all2
      have HF := Lib.hid (retN_end (Below.call hB k7) (Nat.le_refl _) hO7 (by simp) (by simp) ht)
      obtain ⟨q0, q1, _⟩ := (hO7.put2 (.bool t.neg) (.slice t.A t.n t.c)).all2
      clear hO7 hOr hs hS s0 s1 hW
      go_wp2
      exact bodyPost_ret (v := .agg #[.bool t.neg, .slice t.A t.n t.c]) (by simp [results, Tryz.results40, go_sem, q0, q1]) rfl ⟨_, .inr (by rw [HK.out]), HF.out⟩
    · have hb : (around (n.tdiv 28) 2 == 1) = false := by rw [beq_eq_false_iff_ne]; exact ha
      obtain ⟨s0, s1, _, _⟩ := hS.all2
      obtain ⟨z0, z1, f0, f1⟩ := hOr.all2
      have HF := Lib.hid (retN_end hB (Nat.le_refl _) hOr (by simp) (by simp) hs)
      obtain ⟨q0, q1, _⟩ := (hOr.put2 (.bool s.neg) (.slice s.A s.n s.c)).all2
      clear hOr hs hS hW
      go_wp2
      exact bodyPost_ret (v := .agg #[.bool s.neg, .slice s.A s.n s.c]) (by simp [results, Tryz.results40, go_sem, q0, q1]) rfl ⟨_, .inl (by rw [HK.out]), HF.out⟩
end Go.Proofs.YthafhbogpfggjaaGreatDoor

/-
  (second part)
-/
namespace Go.Proofs.YthafhbogpfggjaaGreatDoor
open Go.RowKit
open Dig (val Ws Nz)
open DecM

/-- A digit's text, zeros ahead. -/
def PadSt (r : Nat) (sd : ByteArray) : Prop := sd.size ≤ 4 ∧ ∃ j, sd.data.toList = List.replicate j 48 ++ Lib.decDigits r
theorem PadSt.start {r : Nat} (h : r < 10000) : PadSt r ⟨(Lib.decDigits r).toArray⟩ := by
  refine ⟨?_, 0, by simp⟩
  rw [str_size (l := Lib.decDigits r) (by simp)]
  exact dec_length_le (by omega) (by omega)
theorem PadSt.next {r : Nat} {sd : ByteArray} (h : PadSt r sd) (hs : sd.size < 4) : PadSt r (⟨#[48]⟩ ++ sd) := by
  obtain ⟨h1, j, hj⟩ := h
  have e : (⟨#[48]⟩ ++ sd : ByteArray).data.toList = 48 :: sd.data.toList := str_cat _ _
  refine ⟨?_, j + 1, ?_⟩
  · rw [str_size e, List.length_cons, ← str_size (s := sd) rfl]; omega
  · rw [e, hj, List.replicate_succ]; rfl
theorem PadSt.done {r : Nat} {sd : ByteArray} (h : PadSt r sd) (hr : r < 10000) (hs : ¬ sd.size < 4) : sd.data.toList = padD 4 r := by
  obtain ⟨h1, j, hj⟩ := h
  have h2 := str_size hj
  rw [List.length_append, List.length_replicate] at h2
  rw [padD_dec 4 r (by omega) (by omega), hj, show j = 4 - (Lib.decDigits r).length by omega]
/-- What is written of the digits from k on. -/
structure TxtSt (l : List Nat) (k : Nat) (sd : ByteArray) : Prop where
  txt : sd.data.toList = Lib.decDigits (val (l.drop k))
  pos : 0 < val (l.drop k)
  sz : sd.size ≤ 4 * (l.length - k)
theorem TxtSt.start {l : List Nat} {m : Nat} (hl : m + 1 = l.length) (hw : Ws l) (hz : Nz l) : TxtSt l m ⟨(Lib.decDigits (l[m]'(by omega))).toArray⟩ := by
  have e : l.drop m = [l[m]'(by omega)] := by
    rw [List.drop_eq_getElem_cons (by omega : m < l.length), List.drop_of_length_le (by omega : l.length ≤ m + 1)]
  have hr := hw.get (i := m) (by omega)
  have hne : l[m]'(by omega) ≠ 0 := fun h0 => by
    apply hz
    rw [List.getLast?_eq_getElem?, show l.length - 1 = m by omega, List.getElem?_eq_getElem (by omega), h0]
  refine ⟨by rw [e]; simp [val], by rw [e]; simp [val]; omega, ?_⟩
  rw [str_size (l := Lib.decDigits (l[m]'(by omega))) (by simp)]
  have := dec_length_le (k := 4) (n := l[m]'(by omega)) (by omega) (by omega)
  omega
theorem TxtSt.next {l : List Nat} {m : Nat} {sd sp : ByteArray} (h : TxtSt l (m + 1) sd) (hm : m < l.length) (hw : Ws l) (hp : sp.data.toList = padD 4 l[m]) : TxtSt l m (sd ++ sp) := by
  have e : val (l.drop m) = val (l.drop (m + 1)) * 10 ^ 4 + l[m] := by
    rw [List.drop_eq_getElem_cons hm]; simp only [val]; omega
  have hr := hw.get (i := m) hm
  have hpos := h.pos
  have e2 : (sd ++ sp).data.toList = Lib.decDigits (val (l.drop m)) := by
    rw [str_cat, e, dec_glue 4 _ _ hpos (by omega), h.txt, hp]
  refine ⟨e2, by omega, ?_⟩
  rw [str_size (str_cat sd sp), List.length_append, hp, padD_length, ← str_size (s := sd) rfl]
  have := h.sz
  omega
set_option maxRecDepth 100000 in
set_option maxHeartbeats 1600000 in
theorem rText_any {x : IV} {w : World} {z : Int} (hx : NI x w z) : Calls Tryz.prog 28 #[.agg #[.bool x.neg, .slice x.A x.n x.c]] w (TxtPost w (Lib.itoa z)) := by
  obtain ⟨l, e1, e2, e3, e4, e5, e6⟩ := hx.abs
  obtain ⟨ng, A, n, c⟩ := x
  simp only at e1 e2 e3 e4 e5 e6
  subst e1 e6
  have hnm : many = 65536 := rfl
  rw [hnm] at e2
  clear hnm hx
  go_enter Tryz.func28, Tryz.ntmps28
  go_upto_region 1 with fail
  refine wp_new1 fun W hA hB => ?_
  obtain ⟨r0, r1⟩ := hA.rules2
  have hW := Below.refl W.heap.size W
  rcases Nat.eq_zero_or_pos l.length with h0 | h0
  · obtain rfl : l = [] := List.eq_nil_of_length_eq_zero h0
    have hz0 : z = 0 := by have : (0 : Nat) = z.natAbs := e5; omega
    subst hz0
    simp only [List.length_nil]
    clear e2 e3 e4 e5
    go_wp2
    go_returns
    exact ⟨by simp [Lib.itoa, dec_zero], hB⟩
  · obtain ⟨m, hm⟩ : ∃ m, m + 1 = l.length := ⟨l.length - 1, by omega⟩
    have hd := e3.on hB
    have hws := e3.ws
    obtain ⟨g, off, hA', hg, hc0⟩ := hd.sl.d64at (i := m) (by omega)
    subst hA'
    have hr := hws.get (i := m) (by omega)
    have hst := Lib.hid (TxtSt.start hm hws e4)
    have j1 : ((l.length : Int) - 1).toNat = m := by omega
    go_wp2_with fail
    refine (Decimal_any _ _ (by omega) (by omega)).mono ?_
    rintro e w1 ⟨rfl, k1⟩
    rw [itoa_nat]
    go_wp2_with fail
    go_loopw [3, 4] (fun s3 s4 wr => ∃ (k : Nat) (sd : ByteArray), k ≤ m ∧ s4 = .int .i64 ((k : Int) - 1) ∧ s3 = .string sd ∧ Hid (TxtSt l k sd) ∧ Below W.heap.size W wr) (fun _ s4 _ => (intOf s4 + 1).toNat)
    case atStart => exact ⟨m, _, Nat.le_refl _, by rw [show (l.length : Int) - 2 = (m : Int) - 1 by omega], rfl, hst, k1⟩
    case round =>
      obtain ⟨k, sd, hk, rfl, rfl, hd', hb⟩ := hrel
      have hsz := hd'.out.sz
      rcases Nat.eq_zero_or_pos k with hk0 | hk0
      · subst hk0
        have ht := hd'.out.txt
        rw [List.drop_zero, e5] at ht
        have HB := Lib.hid (Below.call hB hb)
        by_cases hz : z < 0
        · have hf : Lib.itoa z = 45 :: sd.data.toList := by unfold Lib.itoa; rw [if_pos hz, ht]
          have HF := Lib.hid hf
          clear hf ht
          go_wp2
          go_returns
          refine ⟨?_, HB.out⟩
          rw [HF.out]
          exact congrArg (fun s => Ending.returned (.string s)) (str_eq (str_cat _ _))
        · have hf : Lib.itoa z = sd.data.toList := by unfold Lib.itoa; rw [if_neg hz, ht, show z.toNat = z.natAbs by omega]
          have HF := Lib.hid hf
          clear hf ht
          go_wp2
          go_returns
          refine ⟨?_, HB.out⟩
          rw [HF.out]
          exact congrArg (fun s => Ending.returned (.string s)) (str_eq rfl)
      · obtain ⟨i, rfl⟩ : ∃ i, k = i + 1 := ⟨k - 1, by omega⟩
        rw [show (((i + 1 : Nat) : Int) - 1) = (i : Int) by omega]
        obtain ⟨g', off', hA', hg', hc'⟩ := (hd.on hb).sl.d64at (i := i) (by omega)
        obtain ⟨rfl, rfl⟩ : g' = g ∧ off' = off := by injection hA' with hA'; injection hA' with h1 h2; exact ⟨h1.symm, h2.symm⟩
        have hr' := hws.get (i := i) (by omega)
        have q1 : (0 : Int) ≤ (i : Int) := by omega
        have q2 : (i : Int) < (l.length : Int) := by omega
        clear hA'
        go_wp2_with fail
        refine (Decimal_any _ _ (by omega) (by omega)).mono ?_
        rintro e w2 ⟨rfl, k2⟩
        rw [itoa_nat]
        have hp := Lib.hid (PadSt.start hr')
        have hb2 := Below.call hb k2
        go_wp2_with fail
        go_loop [5] (fun s5 => ∃ (sp : ByteArray), s5 = .string sp ∧ Hid (PadSt l[i] sp)) (fun s5 => match s5 with | .string s => 4 - s.size | _ => 0)
        case atStart => exact ⟨_, rfl, hp⟩
        case round =>
          obtain ⟨sp, rfl, hp'⟩ := hrel
          have hs4 := hp'.out.1
          by_cases hs : sp.size < 4
          · have HN := Lib.hid (hp'.out.next hs)
            have hs2 : (sp.size : Int) < 4 := by omega
            have hsz2 : (⟨#[48]⟩ ++ sp : ByteArray).size = sp.size + 1 := by rw [str_size (str_cat _ _), List.length_append, ← str_size (s := sp) rfl]; simp; omega
            have HS := Lib.hid hsz2
            clear hsz2
            go_wp2
            exact ⟨⟨_, rfl, HN⟩, by show 4 - (_ : ByteArray).size < 4 - sp.size; rw [HS.out]; omega⟩
          · have hs2 : ¬ (sp.size : Int) < 4 := by omega
            have HN := Lib.hid (hd'.out.next (by omega) hws (hp'.out.done hr' hs))
            go_wp2
            go_roundw
            case rel => exact ⟨i, _, by omega, by go_num, rfl, HN, hb2⟩
            case measure => simp [intOf] <;> omega
end Go.Proofs.YthafhbogpfggjaaGreatDoor

/-
  (second part)
-/
namespace Go.Proofs.YthafhbogpfggjaaGreatDoor
open Go.RowKit
open Dig (val Ws Nz)

theorem Pick_int {w : World} {A : Option Addr} {l : List Int} {c : Nat} (h : IntsIs w A l c) (i : Int) (hi : 0 ≤ i) (m : Int) (m0 : 0 < m) (m1 : m ≤ 9223372036854775807) :
    Calls Tryz.prog 112 #[.slice A l.length c, .int .i64 i, .int .i64 m] w (RetInt w (pick l i.toNat m)) := by
  have := Pick_any h i.toNat m m0 m1
  rwa [Int.toNat_of_nonneg hi] at this
theorem rPower_int (k : Int) (w : World) (h0 : 0 ≤ k) (hk : k ≤ 16384) : Calls Tryz.prog 62 #[.int .i64 k] w (RetN w ((2 ^ k.toNat : Nat) : Int)) := by
  have := rPower_any k.toNat w (by omega)
  rwa [Int.toNat_of_nonneg h0] at this
/-- What Number's rounds keep to. -/
structure NumB (M : Nat) : Prop where
  mul : ∀ (k : Nat) (c : Int), k ≤ 224 → -4 ≤ c → c ≤ 4 → (((2 ^ k : Nat) : Int) * c).natAbs + 2 ≤ M
  few : 5 * M < 10000 ^ 18
theorem numB : NumB (2 ^ 227) := by
  refine ⟨fun k c hk h0 h1 => ?_, by decide +kernel⟩
  have h2 : (2 : Nat) ^ k ≤ 2 ^ 224 := Nat.pow_le_pow_right (by omega) hk
  have h3 : (2 : Nat) ^ 227 = 8 * 2 ^ 224 := by decide +kernel
  have h4 : 1 ≤ (2 : Nat) ^ 224 := by decide +kernel
  rw [Int.natAbs_mul, Int.natAbs_natCast, h3]
  have h5 : 2 ^ k * c.natAbs ≤ 2 ^ 224 * 4 := Nat.mul_le_mul h2 (by omega)
  generalize (2 : Nat) ^ 224 = P at *
  generalize 2 ^ k * c.natAbs = Q at *
  omega
/-- The state of Number at a round's head. -/
structure NumSt (w : World) (g : Nat) (M i : Nat) (z : Int) (x : IV) (wr : World) : Prop where
  bel : Below w.heap.size w wr
  own : Own wr g 44 [.bool x.neg, .slice x.A x.n x.c]
  hx : NI x wr z
  le : z.natAbs ≤ i * M
theorem NumSt.on {w : World} {g M i : Nat} {z : Int} {x : IV} {wr w' : World} (h : NumSt w g M i z x wr) (hb : Below wr.heap.size wr w') : NumSt w g M i z x w' :=
  ⟨Below.call h.bel hb, h.own.on hb, h.hx.on hb, h.le⟩
theorem NumSt.n_le {w : World} {g M i : Nat} {z : Int} {x : IV} {wr : World} (h : NumSt w g M i z x wr) (hM : NumB M) (hi : i ≤ 5) : x.n ≤ 18 := by
  refine NI.len h.hx (Nat.lt_of_le_of_lt (Nat.le_trans h.le (Nat.mul_le_mul_right M hi)) hM.few)
set_option maxRecDepth 100000 in
set_option maxHeartbeats 3200000 in
theorem rNumber_any {w : World} {A : Option Addr} {l : List Int} {c : Nat} (h : IntsIs w A l c) (at_ : Nat) (hat : at_ ≤ 100) :
    Calls Tryz.prog 29 #[.slice A l.length c, .int .i64 (at_ : Int)] w (fun e w' => ∃ z : Int, z.natAbs < 10000 ^ 18 ∧ RetN w z e w') := by
  obtain ⟨M, hM⟩ : ∃ M, M = 2 ^ 227 := ⟨_, rfl⟩
  have HM := Lib.hid (show NumB M by rw [hM]; exact numB)
  obtain ⟨T, hT⟩ : ∃ T, T = 10000 ^ 18 := ⟨_, rfl⟩
  have HT := Lib.hid (show 5 * M < T by rw [hT]; exact HM.out.few)
  have HE := Lib.hid hT
  rw [← hT]
  clear hM hT
  go_enter Tryz.func29, Tryz.ntmps29
  go_upto_region 1 with fail
  refine wp_new1 fun W hR hB => ?_
  have hl := h.on hB
  go_upto_region 2 with fail
  refine wp_new1 fun W2 hX hB2 => ?_
  have hst0 : NumSt W W.heap.size M 0 0 nZero W2 := ⟨hB2, hX, NI.zero W2, by simp⟩
  clear hX h
  go_wp2_with fail
  go_loopw [6] (fun s wr => ∃ (i : Nat) (z : Int) (x : IV), i ≤ 5 ∧ s = .int .i64 (i : Int) ∧ NumSt W W.heap.size M i z x wr) (fun s _ => 6 - (intOf s).toNat)
  case atStart => exact ⟨0, 0, nZero, by omega, rfl, hst0⟩
  case round =>
    obtain ⟨i, z, x, hi, rfl, hst⟩ := hrel
    have hlr := hl.on hst.bel
    obtain ⟨b0, b1⟩ := pick_bd l at_ (m := 5) (by omega)
    go_wp2_with fail
    refine (Pick_any hlr at_ 5 (by omega) (by omega)).mono ?_
    rintro e w3 ⟨rfl, k3⟩
    generalize pick l at_ 5 = q at b0 b1 ⊢
    have hst3 := hst.on k3
    have hl3 := hlr.on k3
    have hnx := hst3.n_le HM.out hi
    clear hst hlr hst0
    obtain ⟨a0, a1, a2, a3⟩ := hst3.own.all2
    by_cases hq : (i : Int) < 1 + q
    · clear a0 a1 a2 a3
      have hi4 : i < 5 := by omega
      obtain ⟨c0, c1⟩ := pick_bd l ((at_ : Int) + 1 + (i : Int)).toNat (m := 1000000) (by omega)
      go_wp2_with fail
      refine (Pick_int hl3 ((at_ : Int) + 1 + (i : Int)) (by omega) 1000000 (by omega) (by omega)).mono ?_
      rintro e w4 ⟨rfl, k4⟩
      generalize pick l ((at_ : Int) + 1 + (i : Int)).toNat 1000000 = v at c0 c1 ⊢
      have hk0 : 0 ≤ 32 * (v % 7) + v / 7 % 5 * 8 := by omega
      have hk1 : 32 * (v % 7) + v / 7 % 5 * 8 ≤ 224 := by omega
      go_wp2_with fail
      refine (rPower_int (32 * (v % 7) + v / 7 % 5 * 8) _ hk0 (by omega)).mono ?_
      rintro e w5 ⟨p2, rfl, k5, hp2⟩
      go_wp2_with fail
      refine (rOf_any (v / 35 % 9 - 4) _ (by omega) (by omega)).mono ?_
      rintro e w6 ⟨cc, rfl, k6, hcc⟩
      have hn2 := NI.two_ (j := 18) hp2 (by omega)
      have hnc := NI.len hcc (k := 1) (by omega)
      have hpz := HM.out.mul (32 * (v % 7) + v / 7 % 5 * 8).toNat (v / 35 % 9 - 4) (by omega) (by omega) (by omega)
      go_wp2_with fail
      refine (rMul_any (hp2.on k6) hcc (by unfold many; omega)).mono ?_
      rintro e w7 ⟨p, rfl, k7, hp⟩
      generalize ((2 ^ (32 * (v % 7) + v / 7 % 5 * 8).toNat : Nat) : Int) * (v / 35 % 9 - 4) = pz at hpz hp
      go_upto_region 7 with fail
      refine wp_new1 fun w8 hP k8 => ?_
      have k9 := Below.call (Below.call k4 k5) (Below.call k6 (Below.call k7 k8))
      have hst8 := hst3.on k9
      have hX := hst8.own
      have hx := hst8.hx
      replace hp := hp.on k8
      have h5M := HM.out.few
      have hnp : p.n ≤ 18 := NI.len hp (by omega)
      have hs : (pz + (v / 315 % 5 - 2)).natAbs ≤ M := by omega
      have HPZ := Lib.hid (show (pz + (v / 315 % 5 - 2)).natAbs < 10000 ^ 18 by omega)
      have hle : (z + (pz + (v / 315 % 5 - 2))).natAbs ≤ (i + 1) * M := by
        have := hst8.le
        rw [Nat.add_mul, Nat.one_mul]
        omega
      have HLE := Lib.hid hle
      clear hle hs h5M hp2 hcc hst3 hpz hn2 hnc k3 k4 k5 k6 k7 k8 k9 hl3
      refine wp_region_last w8 [Spec.eq (.agg #[.bool x.neg, .slice x.A x.n x.c]), Spec.eq (.agg #[.bool p.neg, .slice p.A p.n p.c]), Spec.eq (.int .i64 v), Spec.eq (.int .i64 (v / 315)), Spec.eq (.int .i64 (v / 315 % 5)), Spec.eq (.int .i64 (v / 315 % 5 - 2)), sN (v / 315 % 5 - 2), sN (pz + (v / 315 % 5 - 2)), sN (z + (pz + (v / 315 % 5 - 2)))]
          rfl (by kernel_rfl) (by kernel_rfl) rfl (by kernel_rfl) (by kernel_rfl) (Below.drew (Below.refl _ _)) ?_ ?_
      ·
        refine RegSteps.cons ?_ ?_
        · intro _ az wz hC hF hD _ K hK
          have q5 : az.tmps[5]? = some (.pointer (some ⟨W.heap.size, 0, none⟩)) := hF 5 rfl
          obtain ⟨l0, l1, _⟩ := (hX.on hC).all2
          clear hF hD
          refine want_none rfl ?_
          go_simp
          exact hK _ _ hC (Below.refl _ _) rfl
        refine RegSteps.cons ?_ ?_
        · intro _ az wz hC hF hD _ K hK
          have q8 : az.tmps[8]? = some (.pointer (some ⟨w7.heap.size, 0, none⟩)) := hF 8 rfl
          obtain ⟨l0, l1, _⟩ := (hP.on hC).all2
          clear hF hD
          refine want_none rfl ?_
          go_simp
          exact hK _ _ hC (Below.refl _ _) rfl
        refine RegSteps.cons ?_ ?_
        · intro _ az wz hC hF hD _ K hK
          have q7 : az.tmps[7]? = some (.int .i64 v) := hF 7 rfl
          clear hF hD
          refine want_none rfl ?_
          go_simp
          exact hK _ _ hC (Below.refl _ _) rfl
        refine RegSteps.cons ?_ ?_
        · intro _ az wz hC hF hD _ K hK
          obtain ⟨_, q41, rfl⟩ := dep hD 2 rfl rfl rfl rfl
          clear hF hD
          refine want_none rfl ?_
          go_simp
          try go_ints
          exact hK _ _ hC (Below.refl _ _) rfl
        refine RegSteps.cons ?_ ?_
        · intro _ az wz hC hF hD _ K hK
          obtain ⟨_, q42, rfl⟩ := dep hD 3 rfl rfl rfl rfl
          clear hF hD
          refine want_none rfl ?_
          go_simp
          try go_ints
          exact hK _ _ hC (Below.refl _ _) rfl
        refine RegSteps.cons ?_ ?_
        · intro _ az wz hC hF hD _ K hK
          obtain ⟨_, q43, rfl⟩ := dep hD 4 rfl rfl rfl rfl
          clear hF hD
          refine want_none rfl ?_
          go_simp
          try go_ints
          exact hK _ _ hC (Below.refl _ _) rfl
        refine RegSteps.cons ?_ ?_
        · intro _ az wz hC hF hD _ K hK
          obtain ⟨_, q44, rfl⟩ := dep hD 5 rfl rfl rfl rfl
          clear hF hD
          refine want_none rfl ?_
          go_simp
          refine (rOf_any _ _ (by omega) (by omega)).mono ?_
          rintro e wy ⟨x, rfl, k, hx⟩
          exact hK _ _ (Below.call hC k) k ⟨x, rfl, hx⟩
        refine RegSteps.cons ?_ ?_
        · intro _ az wz hC hF hD _ K hK
          obtain ⟨_, q40, rfl⟩ := dep hD 1 rfl rfl rfl rfl
          obtain ⟨_, q45, x45, rfl, hx45⟩ := dep hD 6 rfl rfl rfl rfl
          clear hF hD
          refine want_none rfl ?_
          go_simp
          refine (rAdd_any (hp.on hC) hx45 (by unfold many; omega) (by have := NI.len hx45 (k := 1) (by omega); unfold many; omega)).mono ?_
          rintro e wy ⟨x, rfl, k, hx⟩
          exact hK _ _ (Below.call hC k) k ⟨x, rfl, hx⟩
        refine RegSteps.cons ?_ ?_
        · intro _ az wz hC hF hD _ K hK
          obtain ⟨_, q39, rfl⟩ := dep hD 0 rfl rfl rfl rfl
          obtain ⟨_, q46, x46, rfl, hx46⟩ := dep hD 7 rfl rfl rfl rfl
          clear hF hD
          refine want_none rfl ?_
          go_simp
          refine (rAdd_any (hx.on hC) hx46 (by unfold many; omega) (by have := NI.len hx46 HPZ.out; unfold many; omega)).mono ?_
          rintro e wy ⟨x, rfl, k, hx⟩
          exact hK _ _ (Below.call hC k) k ⟨x, rfl, hx⟩
        exact RegSteps.nil
      intro w9 hC9
      rintro _ rfl _ rfl _ rfl _ rfl _ rfl _ rfl _ ⟨y45, rfl, _⟩ _ ⟨y46, rfl, _⟩ _ ⟨y47, rfl, hy47⟩
      simp only [List.dropLast, FinOK, Act.put, List.setIfInBounds_toArray, List.set_cons_zero, List.set_cons_succ]
      intro K hK
      refine want_none rfl ?_
      obtain ⟨z0, z1, f0, f1⟩ := (hX.on hC9).all2
      go_simp
      refine hK _ _ ?_
      clear hK K
      have hO9 := hX.on hC9
      have HN := Lib.hid (NumSt.mk (Below.put2 (Below.call hst8.bel hC9) (Nat.le_refl _) (.bool y47.neg) (.slice y47.A y47.n y47.c)) (hO9.put2 (.bool y47.neg) (.slice y47.A y47.n y47.c)) (hy47.put2 hO9 (by simp) (by simp) _ _) HLE.out)
      clear hO9 hX hst8 hx hp
      go_wp2_with fail
      go_roundw
      case rel => exact ⟨i + 1, _, y47, by omega, by go_num, HN.out⟩
      case measure => simp [intOf]; omega
    · have hOr := hR.on hst3.bel
      obtain ⟨z0, z1, f0, f1⟩ := hOr.all2
      have HF := Lib.hid (retN_end (Below.call hB hst3.bel) (Nat.le_refl _) hOr (by simp) (by simp) hst3.hx)
      have HZ := Lib.hid (show z.natAbs < T from Nat.lt_of_le_of_lt (Nat.le_trans hst3.le (Nat.mul_le_mul_right M hi)) HT.out)
      have hO6 := hOr.put2 (.bool x.neg) (.slice x.A x.n x.c)
      obtain ⟨q0, q1, _⟩ := hO6.all2
      clear hO6 hOr hst3 hl3 k3
      go_wp2
      exact bodyPost_ret (v := .agg #[.bool x.neg, .slice x.A x.n x.c]) (by simp [results, Tryz.results29, go_sem, q0, q1]) rfl ⟨z, HZ.out, HF.out⟩
end Go.Proofs.YthafhbogpfggjaaGreatDoor
