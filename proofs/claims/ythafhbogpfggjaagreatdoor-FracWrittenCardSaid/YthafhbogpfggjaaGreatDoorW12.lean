/-
  Contracts of package wide: From, Small.
-/
import Derived.Test.YthafhbogpfggjaaGreatDoorW8
import Derived.Test.YthafhbogpfggjaaGreatDoorTwo
namespace Go.Proofs.YthafhbogpfggjaaGreatDoor
open Go.RowKit Mag

/-- A store of a struct into a block of two cells. -/
theorem WI.put2 {w : World} {neg : Bool} {A : Option Addr} {n c : Nat} {z : Int} (h : WI w neg A n c z) {g : Nat} {t : TypeId} {x y : Value} (hO : Own w g t [x, y]) (hx : ∀ n, x ≠ .int .u32 n) (hy : ∀ n, y ≠ .int .u32 n) (u v : Value) :
    WI ((w.setCell ⟨g, 0, none⟩ u).setCell ⟨g, 1, none⟩ v) neg A n c z := by
  refine (h.put hO.c0 hx u).put (v := y) ?_ hy v
  rw [cell_put _ _ (by intro e; injection e with _ e; omega)]
  exact hO.c1
theorem two_words {w : World} {m g : Nat} {a b : Int} (hg : w.heap.size = g) (ha : (m % 4294967296 : Nat) = a) (hb : (m / 4294967296 : Nat) = b) : Sl (w.alloc (.cells #[.int .u32 a, .int .u32 b] 153)) (w.alloc (.cells #[.int .u32 a, .int .u32 b] 153)).heap.size (some ⟨g, 0, none⟩) ([m % 4294967296, m / 4294967296].map w32) := by
  subst ha hb hg
  have := Own.new w 153 ([m % 4294967296, m / 4294967296].map w32)
  exact this.sl this.lt
theorem signed_n (neg : Bool) (A : Option Addr) (c n : Nat) (l : List Nat) (w : World) (hS : Sl w w.heap.size A (l.map w32)) (hn : l.length = n) (hc : n ≤ c) (hm : c ≤ maxLen) (hw : Ws l) (hv : val l < top) :
    Calls Tryz.prog 119 #[.bool neg, .slice A n c] w (IntErr w (sgn neg (val l)) 0) := by
  subst hn
  exact signed_any neg A c l w hS hc hm hw hv
theorem two_val {m : Nat} : val [m % 4294967296, m / 4294967296] = m := by
  simp only [val]
  omega
theorem two_ws {m : Nat} (h : m ≤ 18446744073709551615) : Ws [m % 4294967296, m / 4294967296] :=
  Ws.cons (by omega) (Ws.cons (by omega) Ws.nil)
theorem two_top {m : Nat} (h : m ≤ 18446744073709551615) : val [m % 4294967296, m / 4294967296] < top := lt_top (two_ws h) (by simp)
set_option maxRecDepth 100000 in
set_option maxHeartbeats 800000 in
theorem From_neg (m : Nat) (w : World) (h0 : 0 < m) (h1 : m ≤ 9223372036854775808) : Calls Tryz.prog 37 #[.int .i64 (-(m : Int))] w (IntPost w (-(m : Int))) := by
  have hn : -(m : Int) < 0 := by omega
  have hw : IntKind.u64.wrap (-IntKind.u64.wrap (-(m : Int))) = (m : Int) := by
    show (-((-(m : Int)) % 18446744073709551616)) % 18446744073709551616 = (m : Int)
    omega
  have hd : (m : Int) / 4294967296 % 4294967296 = (m : Int) / 4294967296 := by omega
  go_enter Tryz.func37, Tryz.ntmps37
  go_wp2_with fail
  ((with_reducible refine (signed_n _ (some ⟨w.heap.size + 1, 0, none⟩) 2 2 [m % 4294967296, m / 4294967296] _ (?_) rfl (Nat.le_refl _) (by unfold maxLen; omega) (two_ws (by omega)) (two_top (by omega))).mono ?_))
  · exact two_words (by simp) (by omega) (by omega)
  rintro e w1 ⟨ng, B, k, c, rfl, hb, hwi⟩
  rw [two_val] at hwi
  have hO := (((Own.new2 w 29 (.bool false) (.slice none 0 0)).alloc (.cells #[.int .u32 ((m : Int) % 4294967296), .int .u32 ((m : Int) / 4294967296)] 153)).on hb)
  have z0 := hO.c0
  have z1 := hO.c1
  have f0 := hO.frozen 0
  have f1 := hO.frozen 1
  have hz : w.heap.size < w1.heap.size := hO.lt
  have hO3 := (hO.put2 (.bool ng) (.slice B k c)).alloc (.cells #[.bool ng, .slice B k c] 29)
  have q0 := hO3.c0
  have q1 := hO3.c1
  have hW : Below w.heap.size w w1 := Below.call (by go_grown) hb
  have HP : IntPost w (sgn true m) (.returned (.agg #[.bool ng, .slice B k c])) _ := ⟨_, _, _, _, rfl, (Below.put2 hW (Nat.le_refl _) (.bool ng) (.slice B k c)).alloc (by simpa [World.setCell] using hW.size) (.cells #[.bool ng, .slice B k c] 29), (hwi.put2 hO (by simp) (by simp) (.bool ng) (.slice B k c)).on ((Below.refl _ _).alloc (Nat.le_refl _) _)⟩
  have HQ := Lib.hid HP
  clear HP hO3 hwi hw hd
  go_wp2
  exact bodyPost_ret (v := .agg #[.bool ng, .slice B k c]) (by simp [results, Tryz.results37, go_sem, q0, q1]) rfl HQ.out
set_option maxRecDepth 100000 in
set_option maxHeartbeats 800000 in
theorem From_pos (m : Nat) (w : World) (h1 : m ≤ 9223372036854775807) : Calls Tryz.prog 37 #[.int .i64 (m : Int)] w (IntPost w (m : Int)) := by
  have hn : ¬ (m : Int) < 0 := by omega
  go_enter Tryz.func37, Tryz.ntmps37
  go_wp2_with fail
  ((with_reducible refine (signed_n _ (some ⟨w.heap.size + 1, 0, none⟩) 2 2 [m % 4294967296, m / 4294967296] _ (?_) rfl (Nat.le_refl _) (by unfold maxLen; omega) (two_ws (by omega)) (two_top (by omega))).mono ?_))
  · exact two_words (by simp) (by omega) (by omega)
  rintro e w1 ⟨ng, B, k, c, rfl, hb, hwi⟩
  rw [two_val] at hwi
  have hO := (((Own.new2 w 29 (.bool false) (.slice none 0 0)).alloc (.cells #[.int .u32 ((m : Int) % 4294967296), .int .u32 ((m : Int) / 4294967296)] 153)).on hb)
  have z0 := hO.c0
  have z1 := hO.c1
  have f0 := hO.frozen 0
  have f1 := hO.frozen 1
  have hz : w.heap.size < w1.heap.size := hO.lt
  have hO3 := (hO.put2 (.bool ng) (.slice B k c)).alloc (.cells #[.bool ng, .slice B k c] 29)
  have q0 := hO3.c0
  have q1 := hO3.c1
  have hW : Below w.heap.size w w1 := Below.call (by go_grown) hb
  have HP : IntPost w (sgn false m) (.returned (.agg #[.bool ng, .slice B k c])) _ := ⟨_, _, _, _, rfl, (Below.put2 hW (Nat.le_refl _) (.bool ng) (.slice B k c)).alloc (by simpa [World.setCell] using hW.size) (.cells #[.bool ng, .slice B k c] 29), (hwi.put2 hO (by simp) (by simp) (.bool ng) (.slice B k c)).on ((Below.refl _ _).alloc (Nat.le_refl _) _)⟩
  have HQ := Lib.hid HP
  clear HP hO3 hwi
  go_wp2
  exact bodyPost_ret (v := .agg #[.bool ng, .slice B k c]) (by simp [results, Tryz.results37, go_sem, q0, q1]) rfl HQ.out
theorem word_or (r x : Nat) (hr : r < 4294967296) (hx : x < 4294967296) : bits BinOp.or IntKind.u64 (r : Int) ((x : Int) * 4294967296) = (r : Int) + 4294967296 * (x : Int) := by
  have h := u64_or_nat r (x * 4294967296) (by omega) (by omega)
  rw [Nat.or_comm, nat_join 32 _ _ (by omega) (by omega)] at h
  rw [Int.natCast_mul, Int.natCast_add, Int.natCast_mul] at h
  refine Eq.trans h ?_
  rw [Int.add_comm, Int.mul_comm]; rfl
theorem From_any (n : Int) (w : World) (h0 : -9223372036854775808 ≤ n) (h1 : n ≤ 9223372036854775807) : Calls Tryz.prog 37 #[.int .i64 n] w (IntPost w n) := by
  rcases Int.lt_or_le n 0 with h | h
  · obtain ⟨m, rfl⟩ : ∃ m : Nat, n = -(m : Int) := ⟨n.natAbs, by omega⟩
    exact From_neg m w (by omega) (by omega)
  · obtain ⟨m, rfl⟩ : ∃ m : Nat, n = (m : Int) := ⟨n.natAbs, by omega⟩
    exact From_pos m w (by omega)

def SmallPost (w : World) (z : Int) (e : Ending) (w' : World) : Prop :=
  Below w.heap.size w w' ∧ ((-9223372036854775808 ≤ z ∧ z ≤ 9223372036854775807 ∧ e = .returned (.tuple #[.int .i64 z, .bool true])) ∨ ((z < -9223372036854775808 ∨ 9223372036854775807 < z) ∧ e = .returned (.tuple #[.int .i64 0, .bool false])))
set_option maxRecDepth 100000 in
set_option maxHeartbeats 800000 in
theorem Small_any {neg : Bool} {A : Option Addr} {n c : Nat} {z : Int} {w : World} (h : WI w neg A n c z) : Calls Tryz.prog 38 #[.agg #[.bool neg, .slice A n c]] w (SmallPost w z) := by
  obtain ⟨l, rfl, h5, hm, hneg, rfl⟩ := h.open_
  clear h
  have hcap := hm.cap
  have hmx := hm.mx
  unfold maxLen at hmx
  go_enter Tryz.func38, Tryz.ntmps38
  go_wp2_with fail
  have hO := Own.new2 w 29 (.bool neg) (.slice A l.length c)
  have hB : Below w.heap.size w (w.alloc (.cells #[.bool neg, .slice A l.length c] 29)) := by go_grown
  generalize w.alloc (.cells #[.bool neg, .slice A l.length c] 29) = W at hO hB ⊢
  have hm' := hm.on hB
  have x0 := hO.c0
  go_loop [11, 4] (fun i u => ∃ k v : Nat, k ≤ l.length ∧ k ≤ 2 ∧ i = .int .i64 k ∧ u = .int .u64 (v : Nat) ∧ Hid (v = val (l.take k))) (fun i _ => l.length - (intOf i).toNat)
  case atStart => exact ⟨0, 0, by omega, by omega, rfl, rfl, Lib.hid rfl⟩
  case round =>
    obtain ⟨k, v, hk, hk2, rfl, rfl, hv⟩ := hrel
    by_cases hlt : k < l.length
    · obtain ⟨g, off, rfl, hg, hcell⟩ := hm'.sl.w32at hlt
      have hw := hm.ws.get hlt
      rcases (by omega : k = 0 ∨ k = 1 ∨ k = 2) with rfl | rfl | rfl
      · rw [Nat.add_zero] at hcell
        obtain rfl : v = 0 := hv.out
        have hv1 : val (l.take 1) = l[0] := by rw [List.take_succ_eq_append_getElem hlt, val_snoc]; simp [val]
        have HV1 := Lib.hid hv1
        clear hv1
        go_wp2
        go_round
        case rel => exact ⟨1, l[0], by omega, by omega, rfl, u64_of (by have := or_word 0 l[0] (by omega) hw; simpa using this), HV1.out.symm⟩
        case measure => simp [intOf]; omega
      · have hv1 : v = l[0] := by rw [hv.out, List.take_succ_eq_append_getElem (by omega), val_snoc]; simp [val]
        have hv2 : val (l.take 2) = v + 4294967296 * l[1] := by rw [List.take_succ_eq_append_getElem hlt, val_snoc, hv.out, List.length_take, Nat.min_eq_left (by omega), Nat.pow_one]
        have hw0 := hm.ws.get (show 0 < l.length by omega)
        rw [← hv1] at hw0
        have hor := word_or v l[1] hw0 hw
        have HV2 := Lib.hid hv2
        clear hv2 hv1
        go_wp2
        go_round
        case rel => exact ⟨2, v + 4294967296 * l[1], by omega, by omega, rfl, u64_of (by omega), HV2.out.symm⟩
        case measure => simp [intOf]; omega
      · have hbig : 18446744073709551616 ≤ val l := by
          have h1 := hm.nz.ge (by intro e; subst e; simp at hlt)
          have h2 := pow_mono (a := 2) (b := l.length - 1) (by omega)
          omega
        have hend : SmallPost w (sgn neg (val l)) (.returned (.tuple #[.int .i64 0, .bool false])) W := by
          refine ⟨hB, .inr ⟨?_, rfl⟩⟩
          unfold sgn
          cases neg <;> simp <;> omega
        have HE := Lib.hid hend
        clear hbig hend
        go_wp2
        go_ret2
        exact HE.out
    · obtain rfl : k = l.length := by omega
      rw [List.take_of_length_le (Nat.le_refl _)] at hv
      have hmag : v < 18446744073709551616 := by
        have := lt_pow_of_length hm.ws hk2
        rw [hv.out]
        exact this
      have hpos : neg = true → 0 < v := fun h => by
        rw [hv.out]
        exact hm.nz.pos (by intro e; subst e; simp at hneg; exact absurd h (by simpa using hneg))
      have hend : ∀ (u : Int) (b : Bool), (b = true ∧ u = sgn neg v ∧ -9223372036854775808 ≤ u ∧ u ≤ 9223372036854775807 ∨ b = false ∧ u = 0 ∧ (sgn neg v < -9223372036854775808 ∨ 9223372036854775807 < sgn neg v)) → SmallPost w (sgn neg (val l)) (.returned (.tuple #[.int .i64 u, .bool b])) W := by
        rw [← hv.out]
        rintro u b (⟨rfl, rfl, h1, h2⟩ | ⟨rfl, rfl, h1⟩)
        · exact ⟨hB, .inl ⟨h1, h2, rfl⟩⟩
        · exact ⟨hB, .inr ⟨h1, rfl⟩⟩
      have HE := Lib.hid hend
      clear hend
      obtain ⟨p, hp⟩ : ∃ p : Nat, v + p = 18446744073709551616 := ⟨18446744073709551616 - v, by omega⟩
      have hw64 : 9223372036854775808 ≤ v → wrap64 (v : Int) = -(p : Int) := fun h => by unfold wrap64; omega
      have hpp : 9223372036854775808 < v → 0 < p ∧ p < 9223372036854775808 := fun h => by omega
      have hpq : 9223372036854775808 ≤ v → 0 < p ∧ p ≤ 9223372036854775808 := fun h => by omega
      clear hp hmag hv hneg
      cases neg
      · rcases Nat.lt_or_ge v 9223372036854775808 with h | h
        · clear hw64 hpp hpq
          have hd : decide ((v : Int) < 0) = false := by simp
          go_wp2
          all_goals
            go_ret2
            first
              | exact HE.out _ _ (.inl ⟨rfl, rfl, by omega, by omega⟩)
              | exact HE.out 0 true (.inl ⟨rfl, (show (0 : Int) = (v : Int) by omega), by omega, by omega⟩)
        · have h1 := hw64 h
          obtain ⟨h2, h3⟩ := hpq h
          have h4 : ((v : Int) != 0) = true := by simp; omega
          have hfin := HE.out 0 false (.inr ⟨rfl, rfl, .inr (by simp [sgn]; omega)⟩)
          have HF := Lib.hid hfin
          clear hw64 hpp hpq h hfin
          go_wp2
          go_ret2
          exact HF.out
      · have hv0 : ((v : Int) != 0) = true := by have := hpos rfl; simp; omega
        rcases Nat.lt_trichotomy v 9223372036854775808 with h | h | h
        · have h1 := hpos rfl
          have hfin := HE.out (-(v : Int)) true (.inl ⟨rfl, rfl, by omega, by omega⟩)
          have HF := Lib.hid hfin
          clear hw64 hpp hpq hfin
          go_wp2
          go_ret2
          exact HF.out
        · subst h
          have hfin := HE.out (-9223372036854775808) true (.inl ⟨rfl, rfl, by omega, by omega⟩)
          have HF := Lib.hid hfin
          have hw1 : wrap64 ((9223372036854775808 : Nat) : Int) = -9223372036854775808 := by unfold wrap64; omega
          have hw2 : wrap64 9223372036854775808 = -9223372036854775808 := by unfold wrap64; omega
          have hw3 : wrap64 (- -9223372036854775808) = -9223372036854775808 := by unfold wrap64; omega
          clear hw64 hpp hpq hfin hv0
          go_wp2
          go_ret2
          exact HF.out
        · have h1 := hw64 (by omega)
          obtain ⟨h2, h3⟩ := hpp h
          have hfin := HE.out 0 false (.inr ⟨rfl, rfl, .inl (by simp [sgn]; omega)⟩)
          have HF := Lib.hid hfin
          clear hw64 hpp hpq h hfin
          go_wp2
          go_ret2
          exact HF.out
end Go.Proofs.YthafhbogpfggjaaGreatDoor
