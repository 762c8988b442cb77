/-
  Contract of package wide: take.
-/
import Derived.Test.YthafhbogpfggjaaGreatDoorW7
namespace Go.Proofs.YthafhbogpfggjaaGreatDoor
open Go.RowKit Mag

theorem win_cell {U ds : List Nat} {j k : Nat} (hk : ds.length = k) (hj : j + k < U.length) : ((U.take j ++ ds ++ U.drop (j + k)).map w32)[j + k]? = some (.int .u32 (U.getD (j + k) 0 : Nat)) := by
  rw [List.getElem?_map, List.getElem?_append_right (by simp; omega)]
  rw [show j + k - (U.take j ++ ds).length = 0 by simp; omega, List.getElem?_drop, Nat.add_zero, getD_lt hj, List.getElem?_eq_getElem hj]; rfl
theorem win_set {U ds : List Nat} {j k : Nat} (hk : ds.length = k) (hj : j + k < U.length) (x : Nat) : ((U.take j ++ ds ++ U.drop (j + k)).map w32).set (j + k) (w32 x) = (U.take j ++ (ds ++ [x]) ++ U.drop (j + (k + 1))).map w32 := by
  rw [← List.map_set, List.set_append_right _ _ (by simp; omega), show j + k - (U.take j ++ ds).length = 0 by simp; omega, List.drop_eq_getElem_cons hj, List.set_cons_zero]
  simp [Nat.add_assoc]
structure TakeSt (w : World) (g : Nat) (U v : List Nat) (j q k : Nat) (ds : List Nat) (c bw : Nat) (wr : World) : Prop where
  len : ds.length = k
  ws : Ws ds
  c1 : c < 4294967296
  b1 : bw ≤ 1
  c0 : v.length < k → c = 0
  eq : val ds + q * val (v.take k) = val ((U.drop j).take k) + (c + bw) * 4294967296 ^ k
  out : Own wr g 153 ((U.take j ++ ds ++ U.drop (j + k)).map w32)
  grw : w.grownBy wr (some g)
theorem TakeSt.step {w : World} {g : Nat} {U v : List Nat} {j q k : Nat} {ds : List Nat} {c bw : Nat} {wr : World} (h : TakeSt w g U v j q k ds c bw wr) (hj : j + k < U.length)
    {p t2 b2 : Nat} {s : Int} (hp : p = c + q * v.getD k 0) (hp2 : p / 4294967296 < 4294967296) (hb : b2 ≤ 1) (he : t2 % 4294967296 + p % 4294967296 + bw = U.getD (j + k) 0 + b2 * 4294967296) (hs : s = ((t2 % 4294967296 : Nat) : Int)) :
    TakeSt w g U v j q (k + 1) (ds ++ [t2 % 4294967296]) (p / 4294967296) b2 (wr.setCell ⟨g, j + k, none⟩ (.int .u32 s)) := by
  subst hs
  refine ⟨by simp [h.len], h.ws.append (Ws.cons (by omega) Ws.nil), hp2, hb, fun hv => ?_, take_step h.len h.eq ?_, ?_, grown_trans' h.grw (grown_set _ _ _ _)⟩
  · rw [getD_ge (by omega), Nat.mul_zero, Nat.add_zero] at hp
    have := h.c1
    omega
  · rw [getD_drop']
    have : p = 4294967296 * (p / 4294967296) + p % 4294967296 := by omega
    generalize q * v.getD k 0 = z at *
    omega
  · have := h.out.set_ (j + k) (w32 (t2 % 4294967296))
    rw [win_set h.len hj] at this
    exact this
theorem take_arith {u pl bw : Nat} (hu : u < 4294967296) (hpl : pl < 4294967296) (hbw : bw ≤ 1) : ∃ t1 t2 : Nat, IntKind.u64.wrap ((u : Int) - (pl : Int)) = (t1 : Int) ∧ IntKind.u64.wrap ((t1 : Int) - (bw : Int)) = (t2 : Int) ∧
    t2 / 9223372036854775808 ≤ 1 ∧ t2 % 4294967296 + pl + bw = u + t2 / 9223372036854775808 * 4294967296 := by
  refine ⟨((IntKind.u64.wrap ((u : Int) - (pl : Int)))).toNat, (IntKind.u64.wrap (((IntKind.u64.wrap ((u : Int) - (pl : Int)))).toNat - (bw : Int))).toNat, ?_, ?_, ?_, ?_⟩
  · rw [IntKind.wrap_u64]; omega
  · rw [IntKind.wrap_u64, IntKind.wrap_u64]; omega
  · rw [IntKind.wrap_u64, IntKind.wrap_u64]; omega
  · rw [IntKind.wrap_u64, IntKind.wrap_u64]; omega
def TakePost (w : World) (g : Nat) (U v : List Nat) (j m q : Nat) (e : Ending) (w' : World) : Prop :=
  ∃ ds bw, e = .returned (.bool (decide (0 < bw))) ∧ bw ≤ 1 ∧ Ws ds ∧ Hid (ds.length = m) ∧ Hid (val ds + q * val v = val ((U.drop j).take m) + bw * 4294967296 ^ m) ∧ Own w' g 153 ((U.take j ++ ds ++ U.drop (j + m)).map w32) ∧ w.grownBy w' (some g)

set_option maxHeartbeats 1000000 in
theorem take_any {g gv j m n q c d : Nat} {U v : List Nat} {w : World} (hU : Own w g 153 (U.map w32)) (hV : ∀ i (h : i < v.length), w.cell? ⟨gv, i, none⟩ = some (.int .u32 (v[i] : Nat))) (hne : gv ≠ g) (hgv : gv < w.heap.size)
    (hwu : Ws U) (hwv : Ws v) (hn : v.length = n) (hm : m = n + 1) (hj : j + m ≤ U.length) (hU2 : U.length ≤ 1048576) (hq : q < 4294967296) :
    Calls Tryz.prog 172 #[.slice (some ⟨g, j, none⟩) m c, .slice (some ⟨gv, 0, none⟩) n d, .int .u64 (q : Nat)] w (TakePost w g U v j m q) := by
  have HN := Lib.hid hn
  have HM := Lib.hid hm
  have hm1 : n < m := by omega
  have hm2 : m ≤ n + 1 := by omega
  clear hn hm
  go_enter Tryz.func172, Tryz.ntmps172
  go_wp2
  go_loopw [14, 7, 8] (fun i ca bo wr => ∃ (k : Nat) (ds : List Nat) (cc bw : Nat), k ≤ m ∧ i = .int .i64 (k : Nat) ∧ ca = .int .u64 (cc : Nat) ∧ bo = .int .u64 (bw : Nat) ∧ TakeSt w g U v j q k ds cc bw wr)
    (fun i _ _ _ => m - (intOf i).toNat)
  case atStart => exact ⟨0, [], 0, 0, by omega, rfl, rfl, rfl, rfl, Ws.nil, by omega, by omega, by omega, by simp [val], by simpa using hU, World.grownBy.refl _ _⟩
  case round =>
    obtain ⟨k, ds, cc, bw, hk, rfl, rfl, rfl, hst⟩ := hrel
    have hc1 := hst.c1
    have hb1 := hst.b1
    by_cases hlt : k < m
    · have hjk : j + k < U.length := by omega
      have hsc : wr.cell? ⟨g, j + k, none⟩ = some (.int .u32 (U.getD (j + k) 0 : Nat)) := by rw [hst.out.cell, win_cell hst.len hjk]
      have hsf := hst.out.frozen (j + k)
      have hu := hwu.getD (j + k)
      obtain ⟨u, hu0⟩ : ∃ u, u = U.getD (j + k) 0 := ⟨_, rfl⟩
      rw [← hu0] at hsc hu
      rcases Nat.lt_or_ge k n with hkn | hkn
      · have hkv : k < v.length := by rw [HN.out]; exact hkn
        have hvc : wr.cell? ⟨gv, k, none⟩ = some (.int .u32 (v[k] : Nat)) := by
          rw [World.cell?_of_block (hst.grw.block gv hgv (by intro e; injection e with e; exact hne e))]
          exact hV k hkv
        have hvb := hwv.get hkv
        have hml := mul_lim hq hvb
        obtain ⟨p, hp⟩ : ∃ p, p = cc + q * v[k] := ⟨_, rfl⟩
        have hpi : (cc : Int) + (q : Int) * (v[k] : Int) = (p : Int) := by rw [hp, Int.natCast_add, Int.natCast_mul]
        have hqv0 : (0 : Int) ≤ (q : Int) * (v[k] : Int) := Int.mul_nonneg (by omega) (by omega)
        have hqv1 : (q : Int) * (v[k] : Int) ≤ 18446744065119617025 := by
          have e : ((q * v[k] : Nat) : Int) = (q : Int) * (v[k] : Int) := Int.natCast_mul _ _
          omega
        have hp64 : p < 18446744073709551616 := by omega
        have hpl : p % 4294967296 < 4294967296 := by omega
        obtain ⟨pl, hpl0⟩ : ∃ pl, pl = p % 4294967296 := ⟨_, rfl⟩
        rw [← hpl0] at hpl
        have hpl1 : (p : Int) % 4294967296 = (pl : Int) := by omega
        obtain ⟨t1, t2, ht1, ht2, hb2, hta⟩ := take_arith hu hpl hb1
        have hn := fun (s : Int) (hs : s = ((t2 % 4294967296 : Nat) : Int)) => hst.step hjk (p := p) (t2 := t2) (by rw [getD_lt hkv]; exact hp) (by omega) hb2 (by rw [← hpl0, ← hu0]; exact hta) hs
        have HS := Lib.hid hn
        have HB := Lib.hid hb2
        clear hn hta hp hpl0 hu0 hst hb2
        go_wp2
        go_roundw
        case rel => exact ⟨k + 1, _, p / 4294967296, t2 / 9223372036854775808, by omega, by go_num, u64_of (by omega), u64_of (by omega), HS.out _ (by omega)⟩
        case measure => simp [intOf] <;> omega
      · have hkv : v.length ≤ k := by rw [HN.out]; exact hkn
        obtain ⟨p, hp0⟩ : ∃ p, p = cc := ⟨_, rfl⟩
        have hp : p = cc + q * 0 := by omega
        have hp64 : p < 18446744073709551616 := by omega
        subst hp0
        obtain ⟨t1, t2, ht1, ht2, hb2, hta⟩ := take_arith hu hc1 hb1
        have hn := fun (s : Int) (hs : s = ((t2 % 4294967296 : Nat) : Int)) => hst.step hjk (p := p) (t2 := t2) (by rw [getD_ge hkv]; exact hp) (by omega) hb2 (by rw [Nat.mod_eq_of_lt hc1, ← hu0]; exact hta) hs
        have HS := Lib.hid hn
        have HB := Lib.hid hb2
        clear hn hta hp hu0 hst hb2
        go_wp2
        go_roundw
        case rel => exact ⟨k + 1, _, p / 4294967296, t2 / 9223372036854775808, by omega, by go_num, u64_of (by omega), u64_of (by omega), HS.out _ (by omega)⟩
        case measure => simp [intOf] <;> omega
    · obtain rfl : k = m := by omega
      have hcc : cc = 0 := hst.c0 (by rw [HN.out]; exact hm1)
      have he := hst.eq
      rw [hcc, Nat.zero_add, List.take_of_length_le (by rw [HN.out]; omega : v.length ≤ k)] at he
      have HP : TakePost w g U v j k q (.returned (.bool (decide (0 < bw)))) wr := ⟨ds, bw, rfl, hb1, hst.ws, Lib.hid hst.len, Lib.hid he, hst.out, hst.grw⟩
      have HQ := Lib.hid HP
      clear HP hst he hcc
      go_wp2
      go_ret
      simpa using HQ.out
end Go.Proofs.YthafhbogpfggjaaGreatDoor
