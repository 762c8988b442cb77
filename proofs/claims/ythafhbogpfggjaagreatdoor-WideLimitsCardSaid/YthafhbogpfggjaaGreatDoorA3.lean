/-
  Chapter 03's reference: Text.
-/
import Derived.Test.YthafhbogpfggjaaGreatDoorA1
import Derived.Test.YthafhbogpfggjaaGreatDoorE2
namespace Go.Proofs.YthafhbogpfggjaaGreatDoor
open Go.RowKit
open Dig (val Ws Nz)
open DecM

/-- A digit's text, zeros ahead. -/
def PadSt (r : Nat) (sd : ByteArray) : Prop := sd.size ≤ 4 ∧ ∃ j, sd.data.toList = List.replicate j 48 ++ Lib.decDigits r
theorem PadSt.start {r : Nat} (h : r < 10000) : PadSt r ⟨(Lib.decDigits r).toArray⟩ := by
  refine ⟨?_, 0, by simp⟩
  rw [str_size (l := Lib.decDigits r) (by simp)]
  exact dec_length_le (by omega) (by omega)
theorem PadSt.next {r : Nat} {sd : ByteArray} (h : PadSt r sd) (hs : sd.size < 4) : PadSt r (⟨#[48]⟩ ++ sd) := by
  obtain ⟨h1, j, hj⟩ := h
  have e : (⟨#[48]⟩ ++ sd : ByteArray).data.toList = 48 :: sd.data.toList := str_cat _ _
  refine ⟨?_, j + 1, ?_⟩
  · rw [str_size e, List.length_cons, ← str_size (s := sd) rfl]; omega
  · rw [e, hj, List.replicate_succ]; rfl
theorem PadSt.done {r : Nat} {sd : ByteArray} (h : PadSt r sd) (hr : r < 10000) (hs : ¬ sd.size < 4) : sd.data.toList = padD 4 r := by
  obtain ⟨h1, j, hj⟩ := h
  have h2 := str_size hj
  rw [List.length_append, List.length_replicate] at h2
  rw [padD_dec 4 r (by omega) (by omega), hj, show j = 4 - (Lib.decDigits r).length by omega]
/-- What is written of the digits from k on. -/
structure TxtSt (l : List Nat) (k : Nat) (sd : ByteArray) : Prop where
  txt : sd.data.toList = Lib.decDigits (val (l.drop k))
  pos : 0 < val (l.drop k)
  sz : sd.size ≤ 4 * (l.length - k)
theorem TxtSt.start {l : List Nat} {m : Nat} (hl : m + 1 = l.length) (hw : Ws l) (hz : Nz l) : TxtSt l m ⟨(Lib.decDigits (l[m]'(by omega))).toArray⟩ := by
  have e : l.drop m = [l[m]'(by omega)] := by
    rw [List.drop_eq_getElem_cons (by omega : m < l.length), List.drop_of_length_le (by omega : l.length ≤ m + 1)]
  have hr := hw.get (i := m) (by omega)
  have hne : l[m]'(by omega) ≠ 0 := fun h0 => by
    apply hz
    rw [List.getLast?_eq_getElem?, show l.length - 1 = m by omega, List.getElem?_eq_getElem (by omega), h0]
  refine ⟨by rw [e]; simp [val], by rw [e]; simp [val]; omega, ?_⟩
  rw [str_size (l := Lib.decDigits (l[m]'(by omega))) (by simp)]
  have := dec_length_le (k := 4) (n := l[m]'(by omega)) (by omega) (by omega)
  omega
theorem TxtSt.next {l : List Nat} {m : Nat} {sd sp : ByteArray} (h : TxtSt l (m + 1) sd) (hm : m < l.length) (hw : Ws l) (hp : sp.data.toList = padD 4 l[m]) : TxtSt l m (sd ++ sp) := by
  have e : val (l.drop m) = val (l.drop (m + 1)) * 10 ^ 4 + l[m] := by
    rw [List.drop_eq_getElem_cons hm]; simp only [val]; omega
  have hr := hw.get (i := m) hm
  have hpos := h.pos
  have e2 : (sd ++ sp).data.toList = Lib.decDigits (val (l.drop m)) := by
    rw [str_cat, e, dec_glue 4 _ _ hpos (by omega), h.txt, hp]
  refine ⟨e2, by omega, ?_⟩
  rw [str_size (str_cat sd sp), List.length_append, hp, padD_length, ← str_size (s := sd) rfl]
  have := h.sz
  omega
set_option maxRecDepth 100000 in
set_option maxHeartbeats 1600000 in
theorem rText_any {x : IV} {w : World} {z : Int} (hx : NI x w z) : Calls Tryz.prog 28 #[.agg #[.bool x.neg, .slice x.A x.n x.c]] w (TxtPost w (Lib.itoa z)) := by
  obtain ⟨l, e1, e2, e3, e4, e5, e6⟩ := hx.abs
  obtain ⟨ng, A, n, c⟩ := x
  simp only at e1 e2 e3 e4 e5 e6
  subst e1 e6
  have hnm : many = 65536 := rfl
  rw [hnm] at e2
  clear hnm hx
  go_enter Tryz.func28, Tryz.ntmps28
  go_upto_region 1 with fail
  refine wp_new1 fun W hA hB => ?_
  obtain ⟨r0, r1⟩ := hA.rules2
  have hW := Below.refl W.heap.size W
  rcases Nat.eq_zero_or_pos l.length with h0 | h0
  · obtain rfl : l = [] := List.eq_nil_of_length_eq_zero h0
    have hz0 : z = 0 := by have : (0 : Nat) = z.natAbs := e5; omega
    subst hz0
    simp only [List.length_nil]
    clear e2 e3 e4 e5
    go_wp2
    go_returns
    exact ⟨by simp [Lib.itoa, dec_zero], hB⟩
  · obtain ⟨m, hm⟩ : ∃ m, m + 1 = l.length := ⟨l.length - 1, by omega⟩
    have hd := e3.on hB
    have hws := e3.ws
    obtain ⟨g, off, hA', hg, hc0⟩ := hd.sl.d64at (i := m) (by omega)
    subst hA'
    have hr := hws.get (i := m) (by omega)
    have hst := Lib.hid (TxtSt.start hm hws e4)
    have j1 : ((l.length : Int) - 1).toNat = m := by omega
    go_wp2_with fail
    refine (Decimal_any _ _ (by omega) (by omega)).mono ?_
    rintro e w1 ⟨rfl, k1⟩
    rw [itoa_nat]
    go_wp2_with fail
    go_loopw [3, 4] (fun s3 s4 wr => ∃ (k : Nat) (sd : ByteArray), k ≤ m ∧ s4 = .int .i64 ((k : Int) - 1) ∧ s3 = .string sd ∧ Hid (TxtSt l k sd) ∧ Below W.heap.size W wr) (fun _ s4 _ => (intOf s4 + 1).toNat)
    case atStart => exact ⟨m, _, Nat.le_refl _, by rw [show (l.length : Int) - 2 = (m : Int) - 1 by omega], rfl, hst, k1⟩
    case round =>
      obtain ⟨k, sd, hk, rfl, rfl, hd', hb⟩ := hrel
      have hsz := hd'.out.sz
      rcases Nat.eq_zero_or_pos k with hk0 | hk0
      · subst hk0
        have ht := hd'.out.txt
        rw [List.drop_zero, e5] at ht
        have HB := Lib.hid (Below.call hB hb)
        by_cases hz : z < 0
        · have hf : Lib.itoa z = 45 :: sd.data.toList := by unfold Lib.itoa; rw [if_pos hz, ht]
          have HF := Lib.hid hf
          clear hf ht
          go_wp2
          go_returns
          refine ⟨?_, HB.out⟩
          rw [HF.out]
          exact congrArg (fun s => Ending.returned (.string s)) (str_eq (str_cat _ _))
        · have hf : Lib.itoa z = sd.data.toList := by unfold Lib.itoa; rw [if_neg hz, ht, show z.toNat = z.natAbs by omega]
          have HF := Lib.hid hf
          clear hf ht
          go_wp2
          go_returns
          refine ⟨?_, HB.out⟩
          rw [HF.out]
          exact congrArg (fun s => Ending.returned (.string s)) (str_eq rfl)
      · obtain ⟨i, rfl⟩ : ∃ i, k = i + 1 := ⟨k - 1, by omega⟩
        rw [show (((i + 1 : Nat) : Int) - 1) = (i : Int) by omega]
        obtain ⟨g', off', hA', hg', hc'⟩ := (hd.on hb).sl.d64at (i := i) (by omega)
        obtain ⟨rfl, rfl⟩ : g' = g ∧ off' = off := by injection hA' with hA'; injection hA' with h1 h2; exact ⟨h1.symm, h2.symm⟩
        have hr' := hws.get (i := i) (by omega)
        have q1 : (0 : Int) ≤ (i : Int) := by omega
        have q2 : (i : Int) < (l.length : Int) := by omega
        clear hA'
        go_wp2_with fail
        refine (Decimal_any _ _ (by omega) (by omega)).mono ?_
        rintro e w2 ⟨rfl, k2⟩
        rw [itoa_nat]
        have hp := Lib.hid (PadSt.start hr')
        have hb2 := Below.call hb k2
        go_wp2_with fail
        go_loop [5] (fun s5 => ∃ (sp : ByteArray), s5 = .string sp ∧ Hid (PadSt l[i] sp)) (fun s5 => match s5 with | .string s => 4 - s.size | _ => 0)
        case atStart => exact ⟨_, rfl, hp⟩
        case round =>
          obtain ⟨sp, rfl, hp'⟩ := hrel
          have hs4 := hp'.out.1
          by_cases hs : sp.size < 4
          · have HN := Lib.hid (hp'.out.next hs)
            have hs2 : (sp.size : Int) < 4 := by omega
            have hsz2 : (⟨#[48]⟩ ++ sp : ByteArray).size = sp.size + 1 := by rw [str_size (str_cat _ _), List.length_append, ← str_size (s := sp) rfl]; simp; omega
            have HS := Lib.hid hsz2
            clear hsz2
            go_wp2
            exact ⟨⟨_, rfl, HN⟩, by show 4 - (_ : ByteArray).size < 4 - sp.size; rw [HS.out]; omega⟩
          · have hs2 : ¬ (sp.size : Int) < 4 := by omega
            have HN := Lib.hid (hd'.out.next (by omega) hws (hp'.out.done hr' hs))
            go_wp2
            go_roundw
            case rel => exact ⟨i, _, by omega, by go_num, rfl, HN, hb2⟩
            case measure => simp [intOf] <;> omega
end Go.Proofs.YthafhbogpfggjaaGreatDoor
