/-
  Contracts of package wide: short, shifted, take.
-/
import Derived.Test.YthafhbogpfggjaaGreatDoorW6
namespace Go.Proofs.YthafhbogpfggjaaGreatDoor
open Go.RowKit Mag

theorem or_word (r x : Nat) (hr : r < 4294967296) (hx : x < 4294967296) : bits BinOp.or IntKind.u64 ((r : Int) * 4294967296) (x : Int) = (r : Int) * 4294967296 + (x : Int) := by
  have h := u64_or_nat (r * 4294967296) x (by omega) (by omega)
  rw [nat_join 32 _ _ (by omega) (by omega)] at h
  rw [Int.natCast_mul, Int.natCast_add, Int.natCast_mul] at h
  exact h
theorem short_dig {r x q : Nat} (hr : r < q) (hx : x < 4294967296) : (r * 4294967296 + x) / q < 4294967296 := by
  rw [Nat.div_lt_iff_lt_mul (by omega)]
  have : (r + 1) * 4294967296 ≤ q * 4294967296 := Nat.mul_le_mul_right _ hr
  omega
structure ShortSt (w : World) (B go n : Nat) (a : List Nat) (q k : Nat) (S : List Nat) (r : Nat) (wr : World) : Prop where
  st : MulSt w B go n n S wr
  eq : val (a.drop k) = val (S.drop k) * q + r
  lt : r < q
theorem ShortSt.step {w : World} {B go n q k : Nat} {a S : List Nat} {r : Nat} {wr : World} (h : ShortSt w B go n a q (k + 1) S r wr) (hn : n = a.length) (hB : B ≤ go) (hk : k < n) (hq : q < 4294967296)
    {s : Int} {d r' : Nat} (hd : d = (r * 4294967296 + a.getD k 0) / q) (hr : r' = (r * 4294967296 + a.getD k 0) % q) (hs : s = (d : Int)) : d < 4294967296 → ShortSt w B go n a q k (S.set k d) r' (wr.setCell ⟨go, k, none⟩ (.int .u32 s)) := by
  intro hd32
  have hlt := h.lt
  refine ⟨h.st.set_ hB hd32 (Nat.le_refl _) hk hs, ?_, by rw [hr]; exact Nat.mod_lt _ (by omega)⟩
  have hl := h.st.len
  have e1 := val_drop_cons (l := a) (j := k) (by omega)
  have e2 := val_drop_cons (l := S.set k d) (j := k) (by rw [List.length_set]; omega)
  have e3 : (S.set k d).getD k 0 = d := by rw [List.getD_eq_getElem?_getD, List.getElem?_set_self (by omega)]; rfl
  have e4 : (S.set k d).drop (k + 1) = S.drop (k + 1) := List.drop_set_of_lt (by omega)
  rw [e3, e4] at e2
  rw [e1, e2, short_step (x := a.getD k 0) h.eq, hr, hd]
def ShortPost (w : World) (a : List Nat) (q : Nat) (e : Ending) (w' : World) : Prop :=
  ∃ g ds r, e = .returned (.tuple #[.slice (some ⟨g, 0, none⟩) ds.length ds.length, .int .u32 (r : Nat)]) ∧ Own w' g 153 (ds.map w32) ∧ Ws ds ∧ Hid (val a = val ds * q + r) ∧ r < q ∧ ds.length ≤ a.length ∧ Below w.heap.size w w' ∧ w.heap.size ≤ g

set_option maxHeartbeats 1000000 in
theorem short_any {A : Option Addr} {c q : Nat} {a : List Nat} {w : World} (hA : Sl w w.heap.size A (a.map w32)) (hwa : Ws a) (ha : a.length ≤ 1048576) (hq0 : 0 < q) (hq1 : q < 4294967296) :
    Calls Tryz.prog 121 #[.slice A a.length c, .int .u32 (q : Nat)] w (ShortPost w a q) := by
  have hmk := make_u32 a.length (by omega) (a.length : Int) (by omega)
  go_enter Tryz.func121, Tryz.ntmps121
  go_wp2
  go_loopw [8, 7] (fun i re wr => ∃ (k : Nat) (S : List Nat) (r : Nat), k ≤ a.length ∧ i = .int .i64 ((k : Int) - 1) ∧ re = .int .u64 (r : Nat) ∧ ShortSt w w.heap.size w.heap.size a.length a q k S r wr)
    (fun i _ _ => (intOf i + 1).toNat)
  case atStart => exact ⟨a.length, List.replicate a.length 0, 0, by omega, rfl, rfl, ⟨by simp, Ws.replicate _, fun j _ => by simp [List.getD_eq_getElem?_getD, List.getElem?_replicate]; split <;> rfl, by simpa using Own.rep w 153 a.length (w32 0), by go_grown⟩, by simp [val], hq0⟩
  case round =>
    obtain ⟨k, S, r, hk, rfl, rfl, hst⟩ := hrel
    rcases Nat.eq_zero_or_pos k with h0 | h0
    · subst h0
      have h1 := hst.st.out
      have hP : ShortPost w a q (.returned (.tuple #[.slice (some ⟨w.heap.size, 0, none⟩) S.length S.length, .int .u32 (r : Nat)])) wr := ⟨_, S, r, rfl, hst.st.out, hst.st.ws, Lib.hid (by simpa using hst.eq), hst.lt, by rw [hst.st.len]; omega, hst.st.bel, Nat.le_refl _⟩
      rw [hst.st.len] at hP
      have hr : r < 4294967296 := by have := hst.lt; omega
      have HP := Lib.hid hP
      clear hP hst
      go_wp2
      go_ret2
      exact HP.out
    · obtain ⟨m, rfl⟩ : ∃ m, k = m + 1 := ⟨k - 1, by omega⟩
      rw [show (((m + 1 : Nat) : Int) - 1) = (m : Int) by omega]
      obtain ⟨g1, o1, rfl, hg1, hc1⟩ := (hA.below hst.st.bel).w32at (i := m) (by omega)
      have ba := hwa.get (i := m) (by omega)
      have hsc := hst.st.cell (j := m) (by omega)
      have hsf := hst.st.out.frozen m
      have hr : r < 4294967296 := by have := hst.lt; omega
      have hor := or_word r a[m] hr ba
      have hdg := short_dig hst.lt ba
      have hrl := hst.lt
      obtain ⟨d, hd⟩ : ∃ d, d = (r * 4294967296 + a[m]) / q := ⟨_, rfl⟩
      obtain ⟨e, he⟩ : ∃ e, e = (r * 4294967296 + a[m]) % q := ⟨_, rfl⟩
      have hst2 := fun (s : Int) (hs : s = (d : Int)) => hst.step rfl (Nat.le_refl _) (by omega) hq1 (d := d) (r' := e) (by rw [getD_lt (by omega)]; exact hd) (by rw [getD_lt (by omega)]; exact he) hs (by rw [hd]; exact hdg)
      have HS := Lib.hid hst2
      rw [← hd] at hdg
      have hd1 : ((r : Int) * 4294967296 + (a[m] : Int)) / (q : Int) = (d : Int) := by rw [hd, Int.natCast_ediv, Int.natCast_add, Int.natCast_mul]; rfl
      have he1 : ((r : Int) * 4294967296 + (a[m] : Int)) % (q : Int) = (e : Int) := by rw [he, Int.natCast_emod, Int.natCast_add, Int.natCast_mul]; rfl
      have hel : e < q := by rw [he]; exact Nat.mod_lt _ hq0
      clear hst hst2 hd he
      go_wp2
      go_roundw
      case rel => exact ⟨m, _, e, by omega, by go_num, u64_of he1, HS.out _ (by omega)⟩
      case measure => simp [intOf] <;> omega

theorem shift_top {S a : List Nat} {k D : Nat} (hv : val S = val (a.take k) * D) (hwa : Ws a) (hk : k < S.length) (hD : 0 < D) : S.getD k 0 < D := by
  have h1 := val_split S k (by omega)
  have h2 := val_drop_cons (l := S) (j := k) hk
  have h3 := lt_pow_of_length (hwa.take k) (k := k) (by rw [List.length_take]; omega)
  have h4 : val (a.take k) * D < 4294967296 ^ k * D := Nat.mul_lt_mul_of_pos_right h3 hD
  have h5 : 4294967296 ^ k * S.getD k 0 ≤ 4294967296 ^ k * val (S.drop k) := Nat.mul_le_mul_left _ (by omega)
  have h6 : 4294967296 ^ k * S.getD k 0 < 4294967296 ^ k * D := by omega
  exact Nat.lt_of_mul_lt_mul_left h6
theorem or_shift {g x y s : Nat} (hs : s < 32) (hg : g < 2 ^ s) (hx : x = y * 2 ^ s) : bits BinOp.or IntKind.u32 (g : Int) ((x : Int) % 4294967296) = ((g + x % 4294967296 : Nat) : Int) ∧ g + x % 4294967296 < 4294967296 := by
  have h32 : 2 ^ s ≤ 2 ^ 32 := Nat.pow_le_pow_right (by decide) (by omega)
  have hd : 2 ^ s ∣ 2 ^ 32 := Nat.pow_dvd_pow 2 (by omega)
  have h1 : x % 4294967296 % 2 ^ s = 0 := by
    rw [show (4294967296 : Nat) = 2 ^ 32 from rfl, Nat.mod_mod_of_dvd _ hd, hx, Nat.mul_mod_left]
  have hlt : g < 2 ^ 32 := by omega
  have h2 := nat_join s (x % 4294967296) g h1 hg
  have h3 : x % 4294967296 ||| g < 2 ^ 32 := Nat.or_lt_two_pow (by omega) hlt
  have h := u32_or_nat g (x % 4294967296) (by omega) (by omega)
  rw [Nat.or_comm, h2, Int.natCast_emod] at h
  rw [h2] at h3
  refine ⟨?_, by omega⟩
  rw [Nat.add_comm g]
  exact h
theorem shl_lim {x s : Nat} (hx : x < 4294967296) (hs : s < 32) : x * 2 ^ s < 9223372036854775808 := by
  have h1 : 2 ^ s ≤ 2 ^ 31 := Nat.pow_le_pow_right (by decide) (by omega)
  have h2 : x * 2 ^ s ≤ 4294967295 * 2 ^ 31 := Nat.mul_le_mul (by omega) h1
  omega
def ShiftPost (w : World) (a : List Nat) (D : Nat) (e : Ending) (w' : World) : Prop :=
  ∃ g ds, e = .returned (.slice (some ⟨g, 0, none⟩) ds.length ds.length) ∧ Own w' g 153 (ds.map w32) ∧ Ws ds ∧ Hid (val ds = val a * D) ∧ Hid (ds.length = a.length + 1) ∧ Below w.heap.size w w' ∧ w.heap.size ≤ g

set_option maxHeartbeats 1000000 in
theorem shifted_any {A : Option Addr} {c s : Nat} {a : List Nat} {w : World} (hA : Sl w w.heap.size A (a.map w32)) (hwa : Ws a) (ha : a.length ≤ 1048576) (hs : s < 32) :
    Calls Tryz.prog 171 #[.slice A a.length c, .int .i64 (s : Nat)] w (ShiftPost w a (2 ^ s)) := by
  have hmk := make_u32 (a.length + 1) (by omega) ((a.length : Int) + 1) (by omega)
  go_enter Tryz.func171, Tryz.ntmps171
  go_wp2
  go_loopw [15] (fun i wr => ∃ (k : Nat) (S : List Nat), k ≤ a.length ∧ i = .int .i64 (k : Nat) ∧ Hid (val S = val (a.take k) * 2 ^ s) ∧ MulSt w w.heap.size w.heap.size (a.length + 1) (k + 1) S wr)
    (fun i _ => a.length - (intOf i).toNat)
  case atStart => exact ⟨0, List.replicate (a.length + 1) 0, by omega, rfl, Lib.hid (by rw [val_replicate]; simp [val]), by simp, Ws.replicate _, fun j _ => by simp [List.getD_eq_getElem?_getD, List.getElem?_replicate]; split <;> rfl, by simpa using Own.rep w 153 (a.length + 1) (w32 0), by go_grown⟩
  case round =>
    obtain ⟨k, S, hk, rfl, hv, hst⟩ := hrel
    by_cases hlt : k < a.length
    · obtain ⟨g1, o1, rfl, hg1, hc1⟩ := (hA.below hst.bel).w32at (i := k) hlt
      have ba := hwa.get hlt
      have hsc := hst.cell (j := k) (by omega)
      have hsf := hst.out.frozen k
      have hsc1 := hst.cell (j := k + 1) (by omega)
      have hsf1 := hst.out.frozen (k + 1)
      have hz0 := hst.zero (k + 1) (Nat.le_refl _)
      rw [hz0] at hsc1
      obtain ⟨x, hx⟩ : ∃ x, x = a[k] * 2 ^ s := ⟨_, rfl⟩
      obtain ⟨g, hg⟩ : ∃ g, g = S.getD k 0 := ⟨_, rfl⟩
      have hgl := shift_top hv.out hwa (by rw [hst.len]; omega) (Nat.pow_pos (by decide))
      rw [← hg] at hsc hgl
      obtain ⟨hor, hol⟩ := or_shift hs hgl hx
      have hxl := shl_lim ba hs
      rw [← hx] at hxl
      have hx1 : (a[k] : Int) * 2 ^ s = (x : Int) := by rw [hx, Int.natCast_mul, Int.natCast_pow]; rfl
      have hq : x / 4294967296 < 4294967296 := by omega
      have hn := fun (s1 s2 : Int) (h1 : s1 = ((g + x % 4294967296 : Nat) : Int)) (h2 : s2 = ((x / 4294967296 : Nat) : Int)) => (hst.set_ (z' := k + 2) (Nat.le_refl _) (j := k) (x := g + x % 4294967296) hol (by omega) (by omega) h1).set_ (z' := k + 1 + 1) (Nat.le_refl _) (j := k + 1) (x := x / 4294967296) hq (by omega) (by omega) h2
      have hm := shift_step (a := a) (by rw [hst.len]; omega) hz0 hv.out (x := x) (by rw [getD_lt hlt]; exact hx) (lo := g + x % 4294967296) (by rw [hg])
      have HN := Lib.hid hn
      have HM := Lib.hid hm
      clear hn hm hx hg hz0
      go_wp2
      go_roundw
      case rel => exact ⟨k + 1, _, by omega, by go_num, HM, HN.out _ _ (by omega) (by omega)⟩
      case measure => simp [intOf] <;> omega
    · obtain rfl : k = a.length := by omega
      have HP : ShiftPost w a (2 ^ s) (.returned (.slice (some ⟨w.heap.size, 0, none⟩) S.length S.length)) wr := ⟨_, S, rfl, hst.out, hst.ws, Lib.hid (by rw [hv.out, List.take_of_length_le (Nat.le_refl _)]), Lib.hid hst.len, hst.bel, Nat.le_refl _⟩
      rw [hst.len] at HP
      have HQ := Lib.hid HP
      clear HP hst hv
      go_wp2
      go_ret
      exact HQ.out
end Go.Proofs.YthafhbogpfggjaaGreatDoor
