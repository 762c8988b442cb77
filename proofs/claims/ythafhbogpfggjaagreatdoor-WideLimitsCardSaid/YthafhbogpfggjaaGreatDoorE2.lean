/-
  Chapter 03's reference: compared, Of, plus, minus.
-/
import Derived.Test.YthafhbogpfggjaaGreatDoorE1
namespace Go.Proofs.YthafhbogpfggjaaGreatDoor
open Go.RowKit
open Dig (val Ws Nz)

theorem Below.drewN_ {B : Nat} {a w : World} (h : Below B a w) (n : Nat) : Below B a (w.drewN n) := ⟨h.os, h.tape, h.output, h.size, h.block⟩
theorem rcmp_val {a b : List Nat} {m : Nat} (ha : Ws a) (hb : Ws b) (hl : a.length = b.length) (hm : m < a.length) (hm' : m < b.length) (hne : a[m] ≠ b[m]) (hd : a.drop (m + 1) = b.drop (m + 1)) :
    cmpI (a[m] : Nat) (b[m] : Nat) = cmpI (val a) (val b) := by
  rcases cmpI_nat_ne hne with ⟨h1, h2⟩ | ⟨h1, h2⟩
  · have := Dig.cmp_top' (k := m + 1) ha hl (by omega) (by omega) (by simpa using h2) hd
    rw [h1, cmpI_lt (by omega)]
  · have := Dig.cmp_top' (k := m + 1) hb hl.symm (by omega) (by omega) (by simpa using h2) hd.symm
    rw [h1, cmpI_gt (by omega)]
set_option maxHeartbeats 800000 in
theorem rcompared_any {A B : Option Addr} {c d : Nat} {a b : List Nat} {w : World} (ha : DigIs w A a c) (hb : DigIs w B b d) (na : Nz a) (nb : Nz b) :
    Calls Tryz.prog 128 #[.slice A a.length c, .slice B b.length d] w (RetInt w (cmpI (val a) (val b))) := by
  have h1 := ha.cap
  have h2 := hb.cap
  have h3 := ha.mx
  have h4 := hb.mx
  unfold maxLen at h3 h4
  have hwa := ha.ws
  have hwb := hb.ws
  have H1 := ha.sl
  have H2 := hb.sl
  clear ha hb
  rcases Nat.lt_trichotomy a.length b.length with h | h | h
  · have hz : cmpI (val a) (val b) = -1 := cmpI_lt (by exact_mod_cast Dig.lt_of_length hwa nb h)
    have HZ := Lib.hid hz
    clear hz
    go_enter Tryz.func128, Tryz.ntmps128
    go_wp2
    go_returns
    exact ⟨by rw [HZ.out]; rfl, by go_grown⟩
  · have HL := Lib.hid h
    have hle : a.length ≤ b.length := by omega
    have hge : b.length ≤ a.length := by omega
    clear h
    go_enter Tryz.func128, Tryz.ntmps128
    go_wp2_with fail
    simp only [Nat.not_lt.2 hle, Nat.not_lt.2 hge, decide_false]
    go_loopw [5] (fun i wr => ∃ k : Nat, k ≤ a.length ∧ i = .int .i64 ((k : Int) - 1) ∧ a.drop k = b.drop k ∧ Below w.heap.size w wr) (fun i _ => (intOf i + 1).toNat)
    case atStart => exact ⟨a.length, Nat.le_refl _, rfl, by rw [List.drop_of_length_le (by omega), List.drop_of_length_le (by omega)], by go_grown⟩
    case round =>
      obtain ⟨k, hk, rfl, hd, hbw⟩ := hrel
      have HD := Lib.hid hd
      clear hd
      rcases Nat.eq_zero_or_pos k with h0 | h0
      · subst h0
        have hv : a = b := by simpa using HD.out
        have HV := Lib.hid hv
        clear hv
        go_wp2
        go_returns
        exact ⟨by rw [HV.out, cmpI_eq rfl]; rfl, hbw⟩
      · obtain ⟨m, rfl⟩ : ∃ m, k = m + 1 := ⟨k - 1, by omega⟩
        rw [show (((m + 1 : Nat) : Int) - 1) = (m : Int) by omega]
        obtain ⟨g1, o1, rfl, hg1, hc1⟩ := (H1.below hbw).d64at (i := m) (by omega)
        obtain ⟨g2, o2, rfl, hg2, hc2⟩ := (H2.below hbw).d64at (i := m) (by omega)
        have hi1 : (m : Int) < (a.length : Int) := by omega
        have hi2 : (m : Int) < (b.length : Int) := by omega
        have hi3 : (0 : Int) ≤ (m : Int) := by omega
        by_cases e : a[m] = b[m]
        · have hd1 : ¬ ((a[m] : Nat) : Int) < ((b[m]'(by omega) : Nat) : Int) := by omega
          have hd2 : ¬ ((b[m]'(by omega) : Nat) : Int) < ((a[m] : Nat) : Int) := by omega
          have HE := Lib.hid e
          clear e
          go_wp2_with fail
          go_quiet (fail)
          go_wp2_with fail
          go_quiet (fail)
          go_wp2
          go_roundw
          case rel => exact ⟨m, by omega, by go_num, Dig.drop_pred_eq (k := m + 1) (by omega) (by omega) (by omega) (by simpa using HE.out) HD.out, Below.drewN_ hbw _⟩
          case measure => simp [intOf] <;> omega
        · have HV := Lib.hid (rcmp_val hwa hwb HL.out (by omega) (by omega) e HD.out)
          rcases cmpI_nat_ne e with ⟨e1, e2⟩ | ⟨e1, e2⟩
          · have hd1 : ((a[m] : Nat) : Int) < ((b[m]'(by omega) : Nat) : Int) := by omega
            have HE := Lib.hid e1
            clear e e1
            go_wp2_with fail
            go_quiet (fail)
            go_wp2
            go_returns
            exact ⟨by rw [← HV.out, HE.out]; rfl, by first | exact Below.drewN_ hbw _ | exact Below.drewN_ (Below.drewN_ hbw _) _⟩
          · have hd1 : ¬ ((a[m] : Nat) : Int) < ((b[m]'(by omega) : Nat) : Int) := by omega
            have hd2 : ((b[m]'(by omega) : Nat) : Int) < ((a[m] : Nat) : Int) := by omega
            have HE := Lib.hid e1
            clear e e1
            go_wp2_with fail
            go_quiet (fail)
            go_wp2_with fail
            go_quiet (fail)
            go_wp2
            go_returns
            exact ⟨by rw [← HV.out, HE.out]; rfl, by first | exact Below.drewN_ hbw _ | exact Below.drewN_ (Below.drewN_ hbw _) _⟩
  · have hz : cmpI (val a) (val b) = 1 := cmpI_gt (by exact_mod_cast Dig.lt_of_length hwb na h)
    have HZ := Lib.hid hz
    have hn : ¬ a.length < b.length := by omega
    clear hz
    go_enter Tryz.func128, Tryz.ntmps128
    go_wp2
    go_returns
    exact ⟨by rw [HZ.out]; rfl, by go_grown⟩

/-! ### Lists that grow by append -/
theorem int_info : (Tryz.prog.info? 3).map (fun i => (i.zero, i.size, i.bytes)) = some (some (.int .i64 0), 1, 8) := by kernel_rfl
theorem owns_dig {w : World} {base : Nat} {t : TypeId} {v : Value} {n : Nat} {l : List Nat} (h : w.ownsRow base t 1 v n (l.map d64)) (hw : Ws l) : ∃ A c, v = .slice A l.length c ∧ DigIs w A l c ∧ Fr base A := by
  have hn : l.length = n := by have := h.1; simpa using this
  rcases h.2 with ⟨rfl, h0⟩ | ⟨g, cap, cur, rfl, hb, hg, h1, h2, h3, h4⟩
  · have : l = [] := List.eq_nil_of_length_eq_zero (by omega)
    subst this
    exact ⟨none, 0, rfl, DigIs.nil w, fun _ h => by cases h⟩
  · subst hn
    refine ⟨some ⟨g, 0, none⟩, cap, rfl, ⟨fun _ => ⟨g, 0, rfl, (Array.getElem?_eq_some_iff.1 hg).1, fun i x hx => ?_⟩, hw, h1, h2⟩, fun ad had => by injection had with had; subst had; exact hb⟩
    have hlt : i < l.length := by
      rcases Nat.lt_or_ge i l.length with h | h
      · exact h
      · rw [List.getElem?_eq_none (by simpa using h)] at hx; cases hx
    rw [Nat.zero_add, h.cellAt i (by omega), hx]
theorem owns_keep {w w' : World} {base : Nat} {e : TypeId} {size : Nat} {v : Value} {n : Nat} {xs : List Value} (h : w.ownsRow base e size v n xs) (hb : Below w.heap.size w w') : w'.ownsRow base e size v n xs :=
  h.kept (row := none) ⟨hb.os, hb.tape, hb.output, hb.size, fun k hk _ => hb.block k hk⟩ (by cases h' : v.ownBlock <;> simp)
theorem below_owns {B : Nat} {a w w' : World} {v : Value} {e : TypeId} {size n : Nat} {xs : List Value} (h : Below B a w) (ho : w.ownsRow B e size v n xs) (hg : w.grownBy w' v.ownBlock) (hs : B ≤ w.heap.size) : Below B a w' :=
  Below.grown h hg hs fun k hk => (ho.lt k hk).1
theorem map_snoc (l : List Nat) (x : Nat) : l.map d64 ++ [.int .i64 (x : Int)] = (l ++ [x]).map d64 := by simp [d64]
/-- append(out, y), out a slice of the call's own, y an int. -/
theorem push_int {ops : Array Oper} {rest : List Oper} {o : Oper} {a : Act} {w : World} {Q : Exit → Act → World → Prop} (hgd : o.guard = none) (s x : Operand) (ho : o.op = .call { callee := .builtin .append, args := #[s, x], argTypes := #[41, 41] })
    (B : Nat) (v : Value) (n : Nat) (xs : List Value) (y : Int) (hs : a.eval s = v) (hown : w.ownsRow B 3 1 v n xs) (hx : a.eval x = .slice (some ⟨w.heap.size, 0, none⟩) 1 1) (hn : n ≤ 1099511627776) (hB : B ≤ w.heap.size)
    (h : ∀ v' w', w'.ownsRow B 3 1 v' (n + 1) (xs ++ [.int .i64 y]) → Below B w w' → wpList Tryz.prog ops Q rest (a.put o.dst v') w') : wpList Tryz.prog ops Q (o :: rest) a (w.alloc (.cells #[.int .i64 y] 3)) := by
  obtain ⟨i0, hi, hz0, hz1, hz2⟩ := info_parts int_info
  refine wpList_append_own _ hgd s x 41 ho B 3 i0 (.int .i64 0) 1 8 Tryz.underlying41 hi hz0 hz1 hz2 rfl (by decide) v n xs hs (hown.alloc _) ⟨w.heap.size, 0, none⟩ 1 1 [.int .i64 y] hx rfl ?_ ?_ ?_ ?_ ?_ ?_
  · intro j u hj
    match j, hj with
    | 0, hj => simp at hj; subst hj; simp [Addr.add]
  · intro u hu; simp at hu; subst hu; rfl
  · unfold maxLen; omega
  · omega
  · simp; omega
  intro v' w' hown' hgrow _
  refine h v' w' hown' ?_
  exact ((Below.refl B w).alloc hB _).grown hgrow (by simp; omega) (fun k hk => (hown.lt k hk).1)

theorem pow5 {k m : Nat} (hm : 0 < m) (h : 10000 ^ k * m ≤ 9223372036854775808) : k < 5 := by
  rcases Nat.lt_or_ge k 5 with h5 | h5
  · exact h5
  · have h1 := Dig.pow_mono h5
    have h2 : 10000 ^ k * 1 ≤ 10000 ^ k * m := Nat.mul_le_mul_left _ hm
    have h3 : (10000 : Nat) ^ 5 = 100000000000000000000 := by decide
    omega
theorem of_step {ds : List Nat} {k m N : Nat} (hl : ds.length = k) (h : val ds + 10000 ^ k * m = N) : val (ds ++ [m % 10000]) + 10000 ^ (k + 1) * (m / 10000) = N := by
  rw [Dig.val_snoc, hl, Nat.pow_succ, Nat.add_assoc, Nat.mul_assoc, ← Nat.mul_add, Nat.mod_add_div, h]
theorem retN_end {w w2 : World} {g : Nat} {t : TypeId} {a b : Value} (hW : Below w.heap.size w w2) (hg : w.heap.size ≤ g) (hO : Own w2 g t [a, b]) (ha : ∀ n, a ≠ .int .i64 n) (hb : ∀ n, b ≠ .int .i64 n) {x : IV} {z : Int} (hx : NI x w2 z) :
    RetN w z (.returned (.agg #[.bool x.neg, .slice x.A x.n x.c])) ((w2.setCell ⟨g, 0, none⟩ (.bool x.neg)).setCell ⟨g, 1, none⟩ (.slice x.A x.n x.c)) := ⟨x, rfl, Below.put2 hW hg _ _, hx.put2 hO ha hb _ _⟩
set_option maxRecDepth 100000 in
set_option maxHeartbeats 3200000 in
theorem rOf_any (n : Int) (w : World) (n0 : -9223372036854775808 ≤ n) (n1 : n ≤ 9223372036854775807) : Calls Tryz.prog 39 #[.int .i64 n] w (RetN w n) := by
  by_cases hneg : n < 0
  · go_enter Tryz.func39, Tryz.ntmps39
    go_upto_region 1 with fail
    refine wp_new1 fun W hO hB => ?_
    go_wp2_with fail
    go_loopw [0, 3] (fun s0 s3 wr => ∃ (m k : Nat) (ds : List Nat) (v : Value), s0 = .int .i64 (-(m : Int)) ∧ s3 = v ∧ wr.ownsRow W.heap.size 3 1 v k (ds.map d64) ∧ Ws ds ∧ Hid (val ds + 10000 ^ k * m = n.natAbs) ∧ k ≤ 5 ∧ m ≤ 9223372036854775808 ∧ Below W.heap.size W wr) (fun s0 _ _ => (intOf s0).natAbs)
    case atStart => exact ⟨n.natAbs, 0, [], _, by go_num, rfl, World.ownsRow_nil _ _ _ _, Ws.nil, Lib.hid (by simp [val]), by omega, by omega, Below.refl _ _⟩
    case round =>
      obtain ⟨m, k, ds, v, rfl, hv, hown, hws, heq, hk5, hm, hb⟩ := hrel
      have hv' := hv.symm
      subst hv'
      have hl : ds.length = k := by have := hown.1; simpa using this
      rcases Nat.eq_zero_or_pos m with h0 | h0
      · subst h0
        have hval : sgn true (val ds) = n := by
          have := heq.out
          rw [Nat.mul_zero, Nat.add_zero] at this
          rw [this]
          simp [sgn]; omega
        obtain ⟨A, c, hv, hd, _⟩ := owns_dig hown hws
        rw [hv]
        have hlm : ds.length ≤ many := by unfold many; omega
        have HV := Lib.hid hval
        clear hv hval heq hown hl
        go_wp2_with fail
        refine ((rnormal_any true A c ds _ hd hlm).mono fun _ _ h => RetNA.ret h).mono ?_
        rintro e w2 ⟨x, rfl, k2, hx⟩
        rw [HV.out] at hx
        have hO2 := (hO.on hb).on k2
        obtain ⟨z0, z1, f0, f1⟩ := hO2.all2
        have HF := Lib.hid (retN_end (Below.call (Below.call hB hb) k2) (Nat.le_refl _) hO2 (by simp) (by simp) hx)
        have hO3 := hO2.put2 (.bool x.neg) (.slice x.A x.n x.c)
        obtain ⟨q0, q1, _⟩ := hO3.all2
        clear hO3 hx hd
        go_wp2
        exact bodyPost_ret (v := .agg #[.bool x.neg, .slice x.A x.n x.c]) (by simp [results, Tryz.results39, go_sem, q0, q1]) rfl HF.out
      · have hk4 := pow5 h0 (show 10000 ^ k * m ≤ 9223372036854775808 by have := heq.out; omega)
        have hst := of_step hl heq.out
        have HS := Lib.hid hst
        have hwx : Ws (ds ++ [m % 10000]) := hws.append (Ws.cons (by omega) Ws.nil)
        clear hst hl
        have e1 : (-(m : Int)).tmod 10000 = -((m % 10000 : Nat) : Int) := by rw [Int.neg_tmod, Int.tmod_eq_emod_of_nonneg (by omega)]; omega
        have e2 : (-(m : Int)).tdiv 10000 = -((m / 10000 : Nat) : Int) := by rw [Int.neg_tdiv, Int.tdiv_eq_ediv_of_nonneg (by omega)]; omega
        obtain ⟨r, hr⟩ : ∃ r, r = m % 10000 := ⟨_, rfl⟩
        obtain ⟨q, hq⟩ : ∃ q, q = m / 10000 := ⟨_, rfl⟩
        rw [← hr] at e1 HS hwx
        rw [← hq] at e2 HS
        have hr1 : r < 10000 := by omega
        have hq1 : q < m := by omega
        have mne : ¬ -(m : Int) = 0 := by omega
        have mne2 : (-(m : Int) != 0) = true := by simp; omega
        clear hr hq
        rcases Nat.eq_zero_or_pos r with hr0 | hr0
        · subst hr0
          go_wp2_with (at_builtin; refine push_int rfl _ _ rfl W.heap.size v k (ds.map d64) 0 rfl hown rfl ?c1 ?c2 ?_)
          case c1 => omega
          case c2 => exact hb.size
          intro v' w5 hown5 hb5
          rw [show (Value.int .i64 0) = .int .i64 ((0 : Nat) : Int) from rfl, map_snoc] at hown5
          have hbb := Below.trans hb hb5
          have HO := Lib.hid hown5
          clear hown5
          go_wp2_with fail
          go_roundw
          case rel => exact ⟨q, k + 1, ds ++ [0], v', by go_num, by go_num, HO.out, hwx, HS, by omega, by omega, hbb⟩
          case measure => simp only [intOf]; omega
        · have hlt : -(r : Int) < 0 := by omega
          go_wp2_with (at_builtin; refine push_int rfl _ _ rfl W.heap.size v k (ds.map d64) (r : Int) rfl hown rfl ?c1 ?c2 ?_)
          case c1 => omega
          case c2 => exact hb.size
          intro v' w5 hown5 hb5
          rw [map_snoc] at hown5
          have hbb := Below.trans hb hb5
          have HO := Lib.hid hown5
          clear hown5
          go_wp2_with fail
          go_roundw
          case rel => exact ⟨q, k + 1, ds ++ [r], v', by go_num, by go_num, HO.out, hwx, HS, by omega, by omega, hbb⟩
          case measure => simp only [intOf]; omega
  · go_enter Tryz.func39, Tryz.ntmps39
    go_upto_region 1 with fail
    refine wp_new1 fun W hO hB => ?_
    go_wp2_with fail
    go_loopw [0, 3] (fun s0 s3 wr => ∃ (m k : Nat) (ds : List Nat) (v : Value), s0 = .int .i64 ((m : Int)) ∧ s3 = v ∧ wr.ownsRow W.heap.size 3 1 v k (ds.map d64) ∧ Ws ds ∧ Hid (val ds + 10000 ^ k * m = n.natAbs) ∧ k ≤ 5 ∧ m ≤ 9223372036854775808 ∧ Below W.heap.size W wr) (fun s0 _ _ => (intOf s0).natAbs)
    case atStart => exact ⟨n.natAbs, 0, [], _, by go_num, rfl, World.ownsRow_nil _ _ _ _, Ws.nil, Lib.hid (by simp [val]), by omega, by omega, Below.refl _ _⟩
    case round =>
      obtain ⟨m, k, ds, v, rfl, hv, hown, hws, heq, hk5, hm, hb⟩ := hrel
      have hv' := hv.symm
      subst hv'
      have hl : ds.length = k := by have := hown.1; simpa using this
      rcases Nat.eq_zero_or_pos m with h0 | h0
      · subst h0
        have hval : sgn false (val ds) = n := by
          have := heq.out
          rw [Nat.mul_zero, Nat.add_zero] at this
          rw [this]
          simp [sgn]; omega
        obtain ⟨A, c, hv, hd, _⟩ := owns_dig hown hws
        rw [hv]
        have hlm : ds.length ≤ many := by unfold many; omega
        have HV := Lib.hid hval
        clear hv hval heq hown hl
        go_wp2_with fail
        refine ((rnormal_any false A c ds _ hd hlm).mono fun _ _ h => RetNA.ret h).mono ?_
        rintro e w2 ⟨x, rfl, k2, hx⟩
        rw [HV.out] at hx
        have hO2 := (hO.on hb).on k2
        obtain ⟨z0, z1, f0, f1⟩ := hO2.all2
        have HF := Lib.hid (retN_end (Below.call (Below.call hB hb) k2) (Nat.le_refl _) hO2 (by simp) (by simp) hx)
        have hO3 := hO2.put2 (.bool x.neg) (.slice x.A x.n x.c)
        obtain ⟨q0, q1, _⟩ := hO3.all2
        clear hO3 hx hd
        go_wp2
        exact bodyPost_ret (v := .agg #[.bool x.neg, .slice x.A x.n x.c]) (by simp [results, Tryz.results39, go_sem, q0, q1]) rfl HF.out
      · have hk4 := pow5 h0 (show 10000 ^ k * m ≤ 9223372036854775808 by have := heq.out; omega)
        have hst := of_step hl heq.out
        have HS := Lib.hid hst
        have hwx : Ws (ds ++ [m % 10000]) := hws.append (Ws.cons (by omega) Ws.nil)
        clear hst hl
        have mne : ¬ (m : Int) = 0 := by omega
        have mne2 : ((m : Int) != 0) = true := by simp; omega
        have m0 : (0 : Int) ≤ (m : Int) := by omega
        have hr1 : ¬ (m : Int) % 10000 < 0 := by omega
        go_wp2_with (at_builtin; refine push_int rfl _ _ rfl W.heap.size v k (ds.map d64) ((m : Int) % 10000) rfl hown rfl ?c1 ?c2 ?_)
        case c1 => omega
        case c2 => exact hb.size
        intro v' w5 hown5 hb5
        rw [show ((m : Int) % 10000) = ((m % 10000 : Nat) : Int) by omega, map_snoc] at hown5
        have hbb := Below.trans hb hb5
        have HO := Lib.hid hown5
        clear hown5
        go_wp2_with fail
        go_roundw
        case rel => exact ⟨m / 10000, k + 1, ds ++ [m % 10000], v', by go_num, by go_num, HO.out, hwx, HS, by omega, by omega, hbb⟩
        case measure => simp only [intOf]; omega
end Go.Proofs.YthafhbogpfggjaaGreatDoor
