/-
  The law PointBytes: the walk.
-/
import Derived.Test.YtfbbnphpapmpcaaGreatDoorN6
namespace Go.Proofs.YtfbbnphpapmpcaaGreatDoor
open Go.RowKit Mag

def sBI (l : List Nat) : Spec Bel := ⟨fun v w => ∃ p : Option Addr × Nat, v = .slice p.1 l.length p.2 ∧ BIs w w.heap.size p.1 p.2 l, fun ⟨p, e, h⟩ k => ⟨p, e, (h.on k).mono k.size⟩⟩
theorem BIs.take {w : World} {B : Nat} {A : Option Addr} {c : Nat} {l : List Nat} (h : BIs w B A c l) (k : Nat) : BIs w B A c (l.take k) := by
  rcases h with ⟨h1, rfl, h2⟩ | ⟨g, off, h1, h2, h3, h4⟩
  · exact .inl ⟨h1, by simp, h2⟩
  · refine .inr ⟨g, off, h1, h2, Nat.le_trans (by rw [List.length_take]; omega) h3, fun j x hj => h4 j x ?_⟩
    have hj2 := (List.getElem?_eq_some_iff.1 hj).1
    rw [u8s_len, List.length_take] at hj2
    rw [u8s, List.getElem?_map] at hj ⊢
    rwa [List.getElem?_take_of_lt (by omega)] at hj
theorem owns_base {w : World} {B B' : Nat} {e : TypeId} {size n : Nat} {v : Value} {xs : List Value} (h : w.ownsRow B e size v n xs) (hB : B' ≤ B) : w.ownsRow B' e size v n xs := by
  obtain ⟨h1, h2⟩ := h
  rcases h2 with h | ⟨g, cap, cur, h3, h4, h5⟩
  · exact ⟨h1, .inl h⟩
  · exact ⟨h1, .inr ⟨g, cap, cur, h3, Nat.le_trans hB h4, h5⟩⟩
theorem owns_store {w : World} {B : Nat} {e : TypeId} {n : Nat} {v : Value} {xs : List Value} (h : w.ownsRow B e 1 v n xs) {i : Nat} (hi : i < n) (u : Value) : ∃ g cap x, v = .slice (some ⟨g, 0, none⟩) n cap ∧ B ≤ g ∧ n ≤ cap ∧ xs[i]? = some x ∧ w.cell? ⟨g, i, none⟩ = some x ∧ w.frozen? ⟨g, i, none⟩ = false ∧ (w.setCell ⟨g, i, none⟩ u).ownsRow B e 1 v n (xs.set i u) := by
  obtain ⟨h1, h2⟩ := h
  rcases h2 with ⟨_, h⟩ | ⟨g, cap, cur, h3, h4, h5, h6, h7, h8, h9⟩
  · omega
  · have hxi : i < xs.length := by omega
    have hci : i < cur.size := by omega
    have hx : cur.toList[i]? = some xs[i] := by
      rw [← List.getElem?_take_of_lt (show i < n * 1 by omega), h9]
      simp [hxi]
    refine ⟨g, cap, xs[i], h3, h4, h6, by simp [hxi], ?_, ?_, ?_⟩
    · simp only [World.cell?, h5]
      rw [← Array.getElem?_toList, hx]
      rfl
    · simp [World.frozen?, h5]
    · refine ⟨by simp [h1], .inr ⟨g, cap, cur.set! i u, h3, h4, ?_, h6, h7, by simpa using h8, ?_⟩⟩
      · simp [World.setCell, Array.getElem?_modify, h5]
      · rw [Array.set!_eq_setIfInBounds, Array.toList_setIfInBounds, List.take_set, h9]
theorem u8s_set (l : List Nat) (i c : Nat) : (u8s l).set i (.int .u8 (c : Int)) = u8s (l.set i c) := by simp [u8s, List.map_set]
set_option maxRecDepth 100000 in
set_option maxHeartbeats 1600000 in
theorem Few_any (A : Option Addr) (c : Nat) (l : List Nat) (most : Nat) (w : World) (h : BIv w w.heap.size A c l) (hlb : ∀ x ∈ l, x < 256) (hm : most ≤ 1000000) (hl : l.length ≤ 9223372036854775807) :
    Calls Tryz.prog 16 #[.slice A l.length c, .int .i64 (most : Int)] w fun e w' => ∃ v, e = .returned v ∧ RowB w' w.heap.size v (l.take most).length (u8s (l.take most)) ∧ Below w.heap.size w w' := by
  obtain ⟨k, hk⟩ : ∃ k, (l.take most).length = k := ⟨_, rfl⟩
  have hk1 : k ≤ l.length := by rw [← hk, List.length_take]; omega
  have hmin : min (l.length : Int) (most : Int) = (k : Int) := by rw [← hk, List.length_take]; omega
  have hk0 : (0 : Int) ≤ (k : Int) := by omega
  have hk2 : (k : Int) ≤ (l.length : Int) := by omega
  have hkm : k ≤ 1000000 := by rw [← hk, List.length_take]; omega
  rw [hk]
  obtain ⟨i0, hi, hz0, hz1, hz2⟩ := info_parts u8_info
  by_cases hk9 : k = 0
  · subst hk9
    have hnl : l.take most = [] := List.eq_nil_of_length_eq_zero hk
    rw [hnl]
    rcases h with (⟨rfl, rfl, rfl⟩ | ⟨g, off, rfl, h2, h3, h4⟩) | ⟨rfl, rfl, ⟨ab, ao, as_⟩, rfl⟩
    · go_enter Tryz.func16, Tryz.ntmps16
      go_wp2
      go_returns
      exact ⟨_, rfl, RowB.nil _ _, Below.refl _ _⟩
    · clear hk hk1 h4 hnl
      go_enter Tryz.func16, Tryz.ntmps16
      go_wp2_with (at_builtin; refine wpList_append_own _ rfl _ _ 36 rfl w.heap.size 5 i0 (.int .u8 0) 1 1 Tryz.underlying36 hi hz0 hz1 hz2 rfl (by decide) _ _ _ rfl (World.ownsRow_nil w w.heap.size 5 1) _ 0 _ [] rfl rfl (by intro j u hj; cases hj) (by intro u hu; cases hu) (by unfold maxLen; omega) (by omega) (Nat.le_refl _) ?_)
      intro v' w1 hown hgrow hnil
      subst hnil
      have HB := Lib.hid (Below.grown (Below.refl w.heap.size w) hgrow (Nat.le_refl _) fun k hk => by simp [Value.ownBlock] at hk)
      clear hown hgrow
      go_wp2
      go_returns
      exact ⟨_, rfl, RowB.nil _ _, HB.out⟩
    · simp only [List.length_nil] at *
      go_enter Tryz.func16, Tryz.ntmps16
      go_wp2_with (at_builtin; refine wpList_append_own _ rfl _ _ 36 rfl w.heap.size 5 i0 (.int .u8 0) 1 1 Tryz.underlying36 hi hz0 hz1 hz2 rfl (by decide) _ _ _ rfl (World.ownsRow_nil w w.heap.size 5 1) _ 0 _ [] rfl rfl (by intro j u hj; cases hj) (by intro u hu; cases hu) (by unfold maxLen; omega) (by omega) (Nat.le_refl _) ?_)
      intro v' w1 hown hgrow hnil
      subst hnil
      have HB := Lib.hid (Below.grown (Below.refl w.heap.size w) hgrow (Nat.le_refl _) fun k hk => by simp [Value.ownBlock] at hk)
      clear hown hgrow
      go_wp2
      go_returns
      exact ⟨_, rfl, RowB.nil _ _, HB.out⟩
  · obtain ⟨g, off, rfl, h2, h3, h4⟩ : ∃ g off, A = some ⟨g, off, none⟩ ∧ g < w.heap.size ∧ l.length ≤ c ∧ ∀ (j : Nat) (x : Value), (u8s l)[j]? = some x → w.cell? ⟨g, off + j, none⟩ = some x := by
      rcases h with (⟨_, rfl, _⟩ | ⟨g, off, h1, h2, h3, h4⟩) | ⟨rfl, _⟩
      · exact absurd hk1 (by simpa using hk9)
      · exact ⟨g, off, h1, h2, h3, h4⟩
      · exact absurd hk1 (by simpa using hk9)
    have H4 : Aside (∀ (j : Nat) (x : Value), (u8s l)[j]? = some x → w.cell? ⟨g, off + j, none⟩ = some x) := h4
    have hkc : (k : Int) ≤ (c : Int) := by omega
    have hkl : (u8s (l.take most)).length = k := by rw [u8s_len, hk]
    have HUB := Lib.hid (u8s_isB fun x hx => hlb x (List.mem_of_mem_take hx : x ∈ l) : ∀ u ∈ u8s (l.take most), ByteV u)
    have hk8 : 0 < k := by omega
    clear h4 hk h
    go_enter Tryz.func16, Tryz.ntmps16
    go_wp2_with (at_builtin; refine wpList_appB _ rfl _ _ 36 rfl i0 Tryz.underlying36 hi hz0 hz1 hz2 w.heap.size _ _ _ rfl (RowB.nil w w.heap.size) ⟨g, off, none⟩ k c (u8s (l.take most)) rfl hkl hk8 ?qc2 HUB.out (by omega) (Nat.le_refl _) ?_)
    case qc2 =>
      intro j u hj
      rw [Addr.add_lit]
      refine H4.out j u ?_
      have hj2 : j < (u8s (l.take most)).length := (List.getElem?_eq_some_iff.1 hj).1
      rw [u8s, List.getElem?_map] at hj ⊢
      rw [u8s_len, List.length_take] at hj2
      rwa [List.getElem?_take_of_lt (by omega)] at hj
    intro v' w1 hown hgrow _
    try simp only [Nat.zero_add, List.nil_append] at hown
    have HB := Lib.hid (And.intro hown (Below.grown (Below.refl w.heap.size w) hgrow (Nat.le_refl _) fun k hk => by simp [Value.ownBlock] at hk))
    obtain ⟨A', cap', rfl⟩ := owns_slice hown.owns
    clear hown hgrow
    go_wp2
    go_returns
    exact ⟨_, rfl, HB.out.1, HB.out.2⟩
theorem wp_named {P : Program} {o : Oper} {a : Act} {w : World} {K : Act → World → Prop} {Q : Exit → Act → World → Prop} (h : ∀ az, az = a → o.wp P az w K Q) : o.wp P a w K Q := h a rfl
theorem few_slice {P : Program} {f : FuncId} {args : Array Value} {u : World} {B n : Nat} {xs : List Value} (h : Calls P f args u fun e w' => ∃ v, e = .returned v ∧ RowB w' B v n xs ∧ Below u.heap.size u w') :
    Calls P f args u fun e w' => ∃ A' c', e = .returned (.slice A' n c') ∧ RowB w' B (.slice A' n c') n xs ∧ Below u.heap.size u w' := h.mono fun e w' ⟨v, h1, h2, h3⟩ => by
  obtain ⟨A', c', rfl⟩ := owns_slice h2.owns
  exact ⟨A', c', h1, h2, h3⟩
theorem encP_pos (a b : List UInt8) : 0 < (encP a b).length := by
  have h : 0 < (uv (nb a).length).length := by
    unfold uv
    split <;> simp
  unfold encP
  simp only [List.length_append]
  omega
theorem encP_byte (a b : List UInt8) : ∀ c ∈ encP a b, c < 256 := fun c hc => by
  unfold encP at hc
  simp only [List.mem_append] at hc
  rcases hc with (h | h) | h | h
  · exact uv_byte _ _ (Nat.le_refl _) c h
  · exact nb_byte _ c h
  · exact uv_byte _ _ (Nat.le_refl _) c h
  · exact nb_byte _ c h
/-- Four slices of bytes. -/
def T4 (w : World) (g : Nat) : Prop := ∀ i, i < 4 → ∃ A l c, w.cell? ⟨g, i, none⟩ = some (.slice A (List.length l) c) ∧ BIs w w.heap.size A c l ∧ (∀ x ∈ l, x < 256) ∧ l.length ≤ 100000 ∧ g < w.heap.size
theorem T4.on {w w' : World} {g : Nat} (h : T4 w g) (hb : Below w.heap.size w w') : T4 w' g := fun i hi => by
  obtain ⟨A, l, c, h1, h2, h3, h4, h5⟩ := h i hi
  exact ⟨A, l, c, (hb.cell (p := ⟨g, i, none⟩) h5).trans h1, (h2.on hb).mono hb.size, h3, h4, Nat.lt_of_lt_of_le h5 hb.size⟩
set_option maxRecDepth 100000 in
set_option maxHeartbeats 12800000 in
theorem PointBytes_any (a at_ : Int) (ci : Int) (A : Option Addr) (l : List Nat) (c0 : Nat) (w : World) (h : BIv w w.heap.size A c0 l) (hlb : ∀ x ∈ l, x < 256) (hll : l.length ≤ 9223372036854775807) (ha : in64 a) (hat : in64 at_) (hc0 : 0 ≤ ci) (hc1 : ci ≤ 255) (ht : Tab w) :
    Calls Tryz.prog 4 #[.int .i64 a, .int .i64 at_, .int .u8 ci, .slice A l.length c0] w (RetB w true) := by
  obtain ⟨c, rfl⟩ : ∃ c : Nat, ci = (c : Int) := ⟨ci.toNat, by omega⟩
  have hc : c < 256 := by omega
  obtain ⟨X, Y, D, hX, hY, hD0, hD1, HS⟩ : ∃ X Y D : Int, X.natAbs ≤ 384 ∧ Y.natAbs ≤ 384 ∧ 0 < D ∧ D ≤ 12 ∧ Hid (∀ u, Calls Tryz.prog 5 #[.int .i64 a] u (RetR u X Y D)) := by
    obtain ⟨h1, h2, h3, h4⟩ := sX_bd a
    exact ⟨_, _, _, h1, h2, h3, h4, Lib.hid fun u => Some_any a u ha⟩
  obtain ⟨x, hx⟩ : ∃ x : Rat, Rat.divInt X D = x := ⟨_, rfl⟩
  obtain ⟨y, hy⟩ : ∃ x : Rat, Rat.divInt Y D = x := ⟨_, rfl⟩
  have fx := divInt_fits (abs_top (z := X) (by omega)) (abs_top (z := D) (by omega)) (by omega)
  have fy := divInt_fits (abs_top (z := Y) (by omega)) (abs_top (z := D) (by omega)) (by omega)
  rw [hx] at fx
  rw [hy] at fy
  have HR : Hid (∀ u, Calls Tryz.prog 7 #[.agg #[.int .i64 X, .int .i64 Y, .int .i64 D]] u (RetP u x.num x.den y.num y.den)) := Lib.hid fun u => by
    have := real_any X Y D u ⟨by omega, by omega⟩ ⟨by omega, by omega⟩ ⟨by omega, by omega⟩ (by omega)
    rwa [(mk_rat (p := X) (q := D) (by omega)).1, (mk_rat (p := X) (q := D) (by omega)).2, (mk_rat (p := Y) (q := D) (by omega)).1, (mk_rat (p := Y) (q := D) (by omega)).2, hx, hy] at this
  clear hx hy hX hY hD0 hD1
  have f1 : (rtext x).length ≤ 10001 := ftext_len fx.1 fx.2
  have f2 : (rtext y).length ≤ 10001 := ftext_len fy.1 fy.2
  have hen : (encP (rtext x) (rtext y)).length ≤ 20100 := encP_len fx.1 fx.2 fy.1 fy.2
  have hep := encP_pos (rtext x) (rtext y)
  have heb := encP_byte (rtext x) (rtext y)
  have hdec := decR_enc fx fy
  obtain ⟨t1, ht1⟩ : ∃ t : ByteArray, t = ⟨(rtext x).toArray⟩ := ⟨_, rfl⟩
  obtain ⟨t2, ht2⟩ : ∃ t : ByteArray, t = ⟨(rtext y).toArray⟩ := ⟨_, rfl⟩
  obtain ⟨m1, hm1⟩ : ∃ m, nb (rtext x) = m := ⟨_, rfl⟩
  obtain ⟨m2, hm2⟩ : ∃ m, nb (rtext y) = m := ⟨_, rfl⟩
  have HT1 := Lib.hid (show sbs t1 = m1 by rw [ht1, ← hm1]; rfl)
  have HT2 := Lib.hid (show sbs t2 = m2 by rw [ht2, ← hm2]; rfl)
  have HB1 := Lib.hid (show ∀ c ∈ m1, c < 256 by rw [← hm1]; exact nb_byte _)
  have HB2 := Lib.hid (show ∀ c ∈ m2, c < 256 by rw [← hm2]; exact nb_byte _)
  have hl1 : m1.length ≤ 10001 := by rw [← hm1, nb_len]; exact f1
  have hl2 : m2.length ≤ 10001 := by rw [← hm2, nb_len]; exact f2
  have HS1 : Hid (∀ (a : PV) u, a.is u x.num x.den y.num y.den → Tab u → Calls Tryz.prog 13 #[.agg #[.bool a.x.p.neg, .slice a.x.p.A a.x.p.n a.x.p.c, .bool a.x.l.neg, .slice a.x.l.A a.x.l.n a.x.l.c]] u (fun e w9 => e = .returned (.string t1) ∧ Below u.heap.size u w9)) := Lib.hid fun a u h1 h2 => by rw [ht1]; exact FString_any h1.x h2
  have HS2 : Hid (∀ (a : PV) u, a.is u x.num x.den y.num y.den → Tab u → Calls Tryz.prog 13 #[.agg #[.bool a.y.p.neg, .slice a.y.p.A a.y.p.n a.y.p.c, .bool a.y.l.neg, .slice a.y.l.A a.y.l.n a.y.l.c]] u (fun e w9 => e = .returned (.string t2) ∧ Below u.heap.size u w9)) := Lib.hid fun a u h1 h2 => by rw [ht2]; exact FString_any h1.y h2
  obtain ⟨en, hE⟩ : ∃ en, encP (rtext x) (rtext y) = en := ⟨_, rfl⟩
  have HE := Lib.hid (show [] ++ uv m1.length ++ m1 ++ uv m2.length ++ m2 = en by rw [← hE, ← hm1, ← hm2]; simp [encP])
  have HEn : Hid (∀ (a : PV) u, a.is u x.num x.den y.num y.den → Tab u → Calls Tryz.prog 9 #[.agg #[.bool a.x.p.neg, .slice a.x.p.A a.x.p.n a.x.p.c, .bool a.x.l.neg, .slice a.x.l.A a.x.l.n a.x.l.c, .bool a.y.p.neg, .slice a.y.p.A a.y.p.n a.y.p.c, .bool a.y.l.neg, .slice a.y.l.A a.y.l.n a.y.l.c]] u (fun e w' => ∃ A c, e = .returned (.slice A en.length c) ∧ BIs w' w'.heap.size A c en ∧ Below u.heap.size u w')) := Lib.hid fun a u h1 h2 => by
    rw [← hE]
    exact Encode_any h1 h2
  rw [hE] at hen hep heb hdec
  have HD : Hid (∀ (q : Option Addr × Nat) u, BIs u u.heap.size q.1 q.2 en → Tab u → Calls Tryz.prog 14 #[.slice q.1 en.length q.2] u (RetPE u x y 0)) := Lib.hid fun q u h1 h2 => by
    have := Decode_any q.1 q.2 en u h1 heb (by omega) h2
    rwa [hdec] at this
  have HSame : Hid (∀ (p q : Option Addr × Nat) u, BIs u u.heap.size p.1 p.2 en → BIs u u.heap.size q.1 q.2 en → Calls Tryz.prog 8 #[.slice p.1 en.length p.2, .slice q.1 en.length q.2] u (RetB u true)) := Lib.hid fun p q u h1 h2 => by
    have := SameBytes_any p.1 q.1 p.2 q.2 en en u h1 h2 (by omega) (by omega)
    rwa [decide_eq_true rfl] at this
  have HCmp : Hid (∀ (p q : PV) u, p.is u x.num x.den y.num y.den → q.is u x.num x.den y.num y.den → Calls Tryz.prog 6 #[.agg #[.bool p.x.p.neg, .slice p.x.p.A p.x.p.n p.x.p.c, .bool p.x.l.neg, .slice p.x.l.A p.x.l.n p.x.l.c, .bool p.y.p.neg, .slice p.y.p.A p.y.p.n p.y.p.c, .bool p.y.l.neg, .slice p.y.l.A p.y.l.n p.y.l.c], .agg #[.bool q.x.p.neg, .slice q.x.p.A q.x.p.n q.x.p.c, .bool q.x.l.neg, .slice q.x.l.A q.x.l.n q.x.l.c, .bool q.y.p.neg, .slice q.y.p.A q.y.p.n q.y.p.c, .bool q.y.l.neg, .slice q.y.l.A q.y.l.n q.y.l.c]] u (RetInt u 0)) := Lib.hid fun p q u h1 h2 => by
    have := PCompare_any h1 h2
    rwa [show cmpPt x.num x.den y.num y.den x.num x.den y.num y.den = 0 by rw [cmpPt, cmpI_eq rfl, cmpI_eq rfl]; rfl] at this
  have HLB := Lib.hid (And.intro hlb (And.intro heb hll))
  have HAr : Hid (∀ u, Calls Tryz.prog 17 #[.int .i64 at_, .int .i64 (en.length : Int)] u (RetInt u (around at_ en.length))) := Lib.hid fun u => Around_any at_ en.length u hat.1 hat.2 (by omega) (by omega)
  have har := around_bd at_ (m := en.length) (by omega)
  obtain ⟨ix, hix⟩ : ∃ ix : Nat, around at_ en.length = (ix : Int) := ⟨(around at_ en.length).toNat, by omega⟩
  rw [hix] at har HAr
  have hn0 : ¬ (en.length = 0) := by omega
  have hn1 : (en.length : Int) ≤ 9223372036854775807 := by omega
  obtain ⟨n, hn⟩ : ∃ n, en.length = n := ⟨_, rfl⟩
  rw [hn] at hen hep HEn HD HSame HAr har hn0 hn1
  have HN := Lib.hid hn
  clear hE hm1 hm2 ht1 ht2 f1 f2 fx fy hdec hlb hll heb ha hat hc0 hc1 hix hep hn
  go_enter Tryz.func4, Tryz.ntmps4
  go_wp2_with fail
  refine (HS.out _).mono ?_
  rintro e w1 ⟨rfl, k1⟩
  go_wp2_with fail
  refine (HR.out _).mono ?_
  rintro e w2 ⟨p, rfl, k2, hp⟩
  go_upto_region 2 with fail
  refine wp_new1 fun w3 hP k3 => ?_
  have hB := Below.call (Below.call k1 k2) k3
  obtain ⟨gp, egp⟩ : ∃ g, g = w2.heap.size := ⟨_, rfl⟩
  rw [← egp] at hP ⊢
  replace hp := hp.on k3
  replace h := (h.on hB).mono hB.size
  replace ht := ht.on hB
  clear k1 k2 k3 HS HR egp
  obtain ⟨l0, l1, l2, l3, l4, l5, l6, l7, _⟩ := hP.all8
  go_wp2_with fail
  refine (HEn.out p _ hp ht).mono ?_
  rintro e w4 ⟨Ab, cb, rfl, hb, k4⟩
  go_upto_region 4 with fail
  refine wp_new1 fun V0 hW hb9 => ?_
  clear l0 l1 l2 l3 l4 l5 l6 l7
  obtain ⟨b0, e_⟩ : ∃ b0, b0 = w4.heap.size := ⟨_, rfl⟩
  have hbx : Below b0 V0 V0 := Below.refl _ _
  rw [← e_] at hW ⊢
  have hVb : b0 ≤ V0.heap.size := by rw [e_]; exact hb9.size
  replace hW : WAt b0 [] V0 := ⟨_, hW, World.ownsRow_nil _ _ _ _⟩
  have hp4 := hp.on k4
  have hP4 := hP.on k4
  have ht4 := ht.on k4
  have hB4 := Below.call hB k4
  have h4 := (h.on k4).mono k4.size
  have HF3 : Hid (∀ u, Below b0 V0 u → p.is u x.num x.den y.num y.den ∧ Tab u ∧ Own u gp _ _ ∧ BIs u b0 Ab cb en ∧ BIv u b0 A c0 l ∧ Below w.heap.size w u) := Lib.hid fun u hu => by
    rw [e_] at hu
    have hu2 := (hb9.trans hu)
    rw [e_]
    exact ⟨hp4.on hu2, ht4.on hu2, hP4.on hu2, hb.on hu2, h4.on hu2, Below.call hB4 hu2⟩
  clear hb9 e_ hP hp ht hB k4 hp4 hP4 ht4 hB4 h4 hb h
  obtain ⟨hX1, hT1, hO1, _⟩ := HF3.out _ hbx
  obtain ⟨c_0, c_1, c_2, c_3, c_4, c_5, c_6, c_7, _⟩ := hO1.all8
  go_wp2_with fail
  refine (HS1.out p _ hX1 hT1).mono ?_
  rintro e u1 ⟨rfl, k1⟩
  clear c_0 c_1 c_2 c_3 c_4 c_5 c_6 c_7 hX1 hT1 hO1
  have hlt := hW.lt
  obtain ⟨v1, A1, c1, hcv, k2, hbi⟩ := conv_bis_to u1 t1
  rw [HT1.out] at hcv hbi
  have kk := Below.call k1 k2
  replace hW := hW.on kk
  replace hbx := hbx.trans (kk.mono (Nat.le_of_lt hlt))
  clear k1 k2 kk hlt
  go_wp2_with fail
  refine (wRaw b0 [] m1 A1 c1 _ hW hbi HB1.out (by simp only [List.length_nil]; have := uv_len10 (n := m1.length) (by omega); omega)).mono ?_
  rintro e V1 ⟨rfl, hW2, k2⟩
  replace hbx := hbx.trans k2
  replace hW := hW2
  clear hW2 hbi hcv k2
  obtain ⟨hX2, hT2, hO2, _⟩ := HF3.out _ hbx
  obtain ⟨c_0, c_1, c_2, c_3, c_4, c_5, c_6, c_7, _⟩ := hO2.all8
  go_wp2_with fail
  refine (HS2.out p _ hX2 hT2).mono ?_
  rintro e u2 ⟨rfl, k1⟩
  clear c_0 c_1 c_2 c_3 c_4 c_5 c_6 c_7 hX2 hT2 hO2
  have hlt := hW.lt
  obtain ⟨v2, A2, c2, hcv, k2, hbi⟩ := conv_bis_to u2 t2
  rw [HT2.out] at hcv hbi
  have kk := Below.call k1 k2
  replace hW := hW.on kk
  replace hbx := hbx.trans (kk.mono (Nat.le_of_lt hlt))
  clear k1 k2 kk hlt
  go_wp2_with fail
  refine (wRaw b0 ([] ++ uv m1.length ++ m1) m2 A2 c2 _ hW hbi HB2.out (by simp only [List.length_append, List.length_nil]; have := uv_len10 (n := m1.length) (by omega); omega)).mono ?_
  rintro e V2 ⟨rfl, hW2, k2⟩
  replace hbx := hbx.trans k2
  replace hW := hW2
  clear hW2 hbi hcv k2
  rw [HE.out] at hW
  have hlt := hW.lt
  clear HE HB1 HB2 HT1 HT2 HS1 HS2 hl1 hl2
  obtain ⟨hp, ht, hP, hb, h, hB⟩ := HF3.out _ hbx
  replace hb := hb.mono (Nat.le_of_lt hlt)
  replace h := h.mono (Nat.le_of_lt hlt)
  clear HF3 hbx hVb hlt
  go_wp2_with fail
  refine (HD.out ⟨Ab, cb⟩ _ hb ht).mono ?_
  rintro e w5 ⟨q, rfl, k5, hq⟩
  go_upto_region 7 with fail
  refine wp_new1 fun w6 hQ k6 => ?_
  have kk := Below.call k5 k6
  replace hp := hp.on kk
  replace hq := hq.on k6
  replace ht := ht.on kk
  replace hP := hP.on kk
  replace hb := (hb.on kk).mono kk.size
  replace h := (h.on kk).mono kk.size
  replace hB := Below.call hB kk
  replace hW := hW.on kk
  clear k5 k6 kk HD
  obtain ⟨l0, l1, l2, l3, l4, l5, l6, l7, _⟩ := hP.all8
  obtain ⟨r0, r1, r2, r3, r4, r5, r6, r7, _⟩ := hQ.all8
  go_wp2_with fail
  refine (HCmp.out p q _ hp hq).mono ?_
  rintro e w7 ⟨rfl, k7⟩
  clear l0 l1 l2 l3 l4 l5 l6 l7 r0 r1 r2 r3 r4 r5 r6 r7 hP hQ hp hq HCmp
  replace ht := ht.on k7
  replace hb := (hb.on k7).mono k7.size
  replace h := (h.on k7).mono k7.size
  replace hB := Below.call hB k7
  replace hW := hW.on k7
  clear k7
  go_wp2_with fail
  refine (wDone b0 en _ hW (by have := HN.out; omega)).mono ?_
  rw [HN.out]
  rintro e w8 ⟨Ad, cd, rfl, hd, k8⟩
  replace ht := ht.on k8
  replace hb := (hb.on k8).mono k8.size
  replace h := (h.on k8).mono k8.size
  replace hB := Below.call hB k8
  clear k8 hW
  go_wp2_with fail
  refine (HSame.out ⟨Ab, cb⟩ ⟨Ad, cd⟩ _ hb hd).mono ?_
  rintro e w9 ⟨rfl, k9⟩
  replace ht := ht.on k9
  replace hb := (hb.on k9).mono k9.size
  replace h := (h.on k9).mono k9.size
  replace hB := Below.call hB k9
  clear k9 hd HSame
  have htk : en.take n = en := List.take_of_length_le (by rw [HN.out]; exact Nat.le_refl _)
  have hn := HN.out
  have HFb : Hid (∀ u, BIs u u.heap.size Ab cb en → Calls Tryz.prog 16 #[.slice Ab n cb, .int .i64 (n : Int)] u fun e w' => ∃ A' c', e = .returned (.slice A' n c') ∧ RowB w' u.heap.size (.slice A' n c') n (u8s en) ∧ Below u.heap.size u w') := Lib.hid fun u h1 => by
    have := Few_any Ab cb en n u (.inl h1) HLB.out.2.1 (by omega) (by omega)
    rw [htk, hn] at this
    exact few_slice this
  have HFr : Hid (∀ u, BIv u u.heap.size A c0 l → Calls Tryz.prog 16 #[.slice A l.length c0, .int .i64 20] u fun e w' => ∃ A' c', e = .returned (.slice A' (l.take 20).length c') ∧ RowB w' u.heap.size (.slice A' (l.take 20).length c') (l.take 20).length (u8s (l.take 20)) ∧ Below u.heap.size u w') := Lib.hid fun u h1 => few_slice (Few_any A c0 l 20 u h1 HLB.out.1 (by omega) HLB.out.2.2)
  clear htk hn
  obtain ⟨k20, hk20⟩ : ∃ k, (l.take 20).length = k := ⟨_, rfl⟩
  rw [hk20] at HFr
  have hk21 : k20 ≤ 20 := by rw [← hk20, List.length_take]; omega
  clear hk20
  obtain ⟨gb, ob, rfl, _, hcb, _⟩ := hb.get (by have := HN.out; omega)
  rw [HN.out] at hcb
  go_wp2_with fail
  refine (HFb.out _ hb).mono ?_
  rintro e wa ⟨Ax, cx, rfl, hx, ka⟩
  obtain ⟨gx, cx0, _, exv, hgx, hcx, _⟩ := owns_store hx.owns (i := ix) (by omega) (.int .u8 0)
  injection exv with e1 _ e3
  subst e1
  subst e3
  have HXL : Hid ((en.set ix c).length = n) := Lib.hid ((List.length_set ..).trans HN.out)
  have HKA := Lib.hid (And.intro ka hgx)
  clear ka hgx
  go_upto_region 10 with fail
  go_cut [10, 14] (fun s10 s14 wx => s10 = .slice (some ⟨gb, ob, none⟩) n cb ∧ s14 = .slice (some ⟨gx, 0, none⟩) n cx ∧ Below w9.heap.size w9 wx ∧ BIs wx wx.heap.size (some ⟨gx, 0, none⟩) cx (en.set ix c))
  case first =>
    go_wp2_with fail
    refine (HAr.out _).mono ?_
    rintro e wb ⟨rfl, kb⟩
    replace hx := hx.on kb
    obtain ⟨gx', cx', x0, exx, _, _, _, x1, x2, hx3⟩ := owns_store hx.owns (i := ix) (by omega) (.int .u8 (c : Int))
    injection exx with exx _ exc
    injection exx with exx
    injection exx with exx _ _
    subst exx
    subst exc
    have hix0 : (0 : Int) ≤ (ix : Int) := by omega
    have hix1 : (ix : Int) < (n : Int) := har.2
    rw [u8s_set] at hx3
    have kk := Lib.hid ((Below.call HKA.out.1 kb).setCell (p := ⟨gx, ix, none⟩) HKA.out.2 (.int .u8 (c : Int)))
    have HXB : Hid (BIs (wb.setCell ⟨gx, ix, none⟩ (.int .u8 (c : Int))) (wb.setCell ⟨gx, ix, none⟩ (.int .u8 (c : Int))).heap.size (some ⟨gx, 0, none⟩) cx (en.set ix c)) := Lib.hid (by
      obtain ⟨A9, c9, e9, _, h9⟩ := owns_bis hx3
      injection e9 with e1 _ e3
      rw [e1, e3]
      exact h9)
    clear hx hx3 kb
    go_wp2_with fail
    go_meet
    exact ⟨rfl, rfl, kk.out, HXB.out⟩
  case rest =>
  obtain ⟨rfl, rfl, kk, hxb⟩ := hcut
  obtain ⟨w10, ew⟩ : ∃ W, W = wc := ⟨_, rfl⟩
  subst ew
  replace ht := ht.on kk
  replace hb := (hb.on kk).mono kk.size
  replace h := (h.on kk).mono kk.size
  replace hB := Below.call hB kk
  clear kk HAr hx HKA
  have y0 : (0 : Int) ≤ (n : Int) - 1 := by omega
  have y1 : (n : Int) - 1 ≤ (cb : Int) := by omega
  have y2 : ((n : Int) - 1).toNat = n - 1 := by omega
  have y3 : -9223372036854775808 ≤ (n : Int) - 1 := by omega
  have y5 : (1 : Int) ≤ (n : Int) := by omega
  have y4 : (n : Int) - 1 ≤ 9223372036854775807 := by omega
  go_wp2_with fail
  refine wp_region_suffixR (R := KB) w10 15 [Spec.eq (.slice A l.length c0), sOB w10.heap.size k20, Spec.eq (.slice (some ⟨gx, 0, none⟩) n cx), Spec.eq (.slice (some ⟨gb, ob, none⟩) n cb), Spec.eq (.slice (some ⟨gb, ob, none⟩) n cb), Spec.eq (.int .i64 (n : Int)), Spec.eq (.int .i64 ((n : Int) - 1)), Spec.eq (.slice (some ⟨gb, ob, none⟩) (n - 1) cb), Spec.eq (.slice (some ⟨gb, ob, none⟩) n cb), Spec.eq (.slice (some ⟨gb, ob, none⟩) n cb), Spec.eq (.int .i64 (n : Int)), sOB w10.heap.size n, Spec.eq (.int .u8 (c : Int)), sOB w10.heap.size 1, sOB w10.heap.size (n + 1)]
      (by kernel_rfl) (by kernel_rfl) rfl (by kernel_rfl) (by kernel_rfl) (Below.drew (Below.refl _ _)) ?_ ?_
  ·
    refine RegStepsR.cons ?_ ?_
    · intro az wz hC hF hD K hK
      have q3 : az.tmps[3]? = some (.slice A l.length c0) := hF 3 rfl
      clear hF hD
      refine want_none rfl ?_
      go_simp
      exact hK _ _ hC (KB.of (Below.refl _ _)) rfl
    refine RegStepsR.cons ?_ ?_
    · intro az wz hC hF hD K hK
      obtain ⟨_, q74, rfl⟩ := dep hD 0 rfl rfl rfl rfl
      clear hF hD
      refine want_none rfl ?_
      go_simp
      refine (HFr.out _ ((h.on hC).mono hC.size)).mono ?_
      rintro e wy ⟨A_, c_, rfl, hx, k⟩
      exact hK _ _ (Below.call hC k) (KB.of k) ⟨⟨A_, c_⟩, rfl, _, hx.base hC.size⟩
    refine RegStepsR.cons ?_ ?_
    · intro az wz hC hF hD K hK
      have q14 : az.tmps[14]? = some (.slice (some ⟨gx, 0, none⟩) n cx) := hF 14 rfl
      clear hF hD
      refine want_none rfl ?_
      go_simp
      exact hK _ _ hC (KB.of (Below.refl _ _)) rfl
    refine RegStepsR.cons ?_ ?_
    · intro az wz hC hF hD K hK
      have q10 : az.tmps[10]? = some (.slice (some ⟨gb, ob, none⟩) n cb) := hF 10 rfl
      clear hF hD
      refine want_none rfl ?_
      go_simp
      exact hK _ _ hC (KB.of (Below.refl _ _)) rfl
    refine RegStepsR.cons ?_ ?_
    · intro az wz hC hF hD K hK
      have q10 : az.tmps[10]? = some (.slice (some ⟨gb, ob, none⟩) n cb) := hF 10 rfl
      clear hF hD
      refine want_none rfl ?_
      go_simp
      exact hK _ _ hC (KB.of (Below.refl _ _)) rfl
    refine RegStepsR.cons ?_ ?_
    · intro az wz hC hF hD K hK
      obtain ⟨_, q78, rfl⟩ := dep hD 4 rfl rfl rfl rfl
      clear hF hD
      refine want_none rfl ?_
      go_simp
      exact hK _ _ hC (KB.of (Below.refl _ _)) rfl
    refine RegStepsR.cons ?_ ?_
    · intro az wz hC hF hD K hK
      obtain ⟨_, q79, rfl⟩ := dep hD 5 rfl rfl rfl rfl
      clear hF hD
      refine want_none rfl ?_
      go_simp
      try go_ints
      exact hK _ _ hC (KB.of (Below.refl _ _)) rfl
    refine RegStepsR.cons ?_ ?_
    · intro az wz hC hF hD K hK
      obtain ⟨_, q77, rfl⟩ := dep hD 3 rfl rfl rfl rfl
      obtain ⟨_, q80, rfl⟩ := dep hD 6 rfl rfl rfl rfl
      clear hF hD
      refine want_none rfl ?_
      go_simp
      exact hK _ _ hC (KB.of (Below.refl _ _)) rfl
    refine RegStepsR.cons ?_ ?_
    · intro az wz hC hF hD K hK
      have q10 : az.tmps[10]? = some (.slice (some ⟨gb, ob, none⟩) n cb) := hF 10 rfl
      clear hF hD
      refine want_none rfl ?_
      go_simp
      exact hK _ _ hC (KB.of (Below.refl _ _)) rfl
    refine RegStepsR.cons ?_ ?_
    · intro az wz hC hF hD K hK
      have q10 : az.tmps[10]? = some (.slice (some ⟨gb, ob, none⟩) n cb) := hF 10 rfl
      clear hF hD
      refine want_none rfl ?_
      go_simp
      exact hK _ _ hC (KB.of (Below.refl _ _)) rfl
    refine RegStepsR.cons ?_ ?_
    · intro az wz hC hF hD K hK
      obtain ⟨_, q83, rfl⟩ := dep hD 9 rfl rfl rfl rfl
      clear hF hD
      refine want_none rfl ?_
      go_simp
      exact hK _ _ hC (KB.of (Below.refl _ _)) rfl
    refine RegStepsR.cons ?_ ?_
    · intro az wz hC hF hD K hK
      obtain ⟨_, q82, rfl⟩ := dep hD 8 rfl rfl rfl rfl
      obtain ⟨_, q84, rfl⟩ := dep hD 10 rfl rfl rfl rfl
      clear hF hD
      refine want_none rfl ?_
      go_simp
      refine (HFb.out _ ((hb.on hC).mono hC.size)).mono ?_
      rintro e wy ⟨A_, c_, rfl, hx, k⟩
      exact hK _ _ (Below.call hC k) (KB.of k) ⟨⟨A_, c_⟩, rfl, _, hx.base hC.size⟩
    refine RegStepsR.cons ?_ ?_
    · intro az wz hC hF hD K hK
      have q2 : az.tmps[2]? = some (.int .u8 (c : Int)) := hF 2 rfl
      clear hF hD
      refine want_none rfl ?_
      go_simp
      exact hK _ _ hC (KB.of (Below.refl _ _)) rfl
    refine RegStepsR.cons ?_ ?_
    · intro az wz hC hF hD K hK
      obtain ⟨_, q86, rfl⟩ := dep hD 12 rfl rfl rfl rfl
      clear hF hD
      refine want_none rfl ?_
      go_simp
      exact hK _ _ (Below.alloc hC hC.size _) (KB.of (below_new _ _)) ⟨⟨_, _⟩, rfl, _, RowB.one hC.size hc⟩
    refine RegStepsR.cons ?_ ?_
    · intro az wz hC hF hD K hK
      obtain ⟨_, q85, x85, rfl, hx85⟩ := dep hD 11 rfl rfl rfl rfl
      obtain ⟨_, q87, x87, rfl, hx87⟩ := dep hD 13 rfl rfl rfl rfl
      clear hF hD
      obtain ⟨ys, hr⟩ := hx85
      obtain ⟨zs, hs⟩ := hx87
      obtain ⟨g87, e87, _, hcell⟩ := hs.at1 (by decide)
      refine want_none rfl ?_
      obtain ⟨i0, hi, hz0, hz1, hz2⟩ := info_parts u8_info
      refine wp_appB (P := Tryz.prog) wz (Operand.tmp 85) (Operand.tmp 87) 36 rfl i0 Tryz.underlying36 hi hz0 hz1 hz2 w10.heap.size (.slice x85.1 n x85.2) n ys (by simp [Act.eval, q85]) hr ⟨g87, 0, none⟩ 1 x87.2 zs (by simp [Act.eval, q87, e87]) hs.1 (by decide) hcell hs.bytes (by omega) hC.size ?_
      intro v1 w1 hv hgr hkp
      obtain ⟨A1_, c1_, rfl⟩ := owns_slice hv.owns
      exact hK _ _ (Below.grown hC hgr hC.size fun k hk => (hr.owns.lt k hk).1) ⟨hgr.size, hkp⟩ ⟨⟨A1_, c1_⟩, rfl, _, hv⟩
    exact RegStepsR.nil
  intro w11 hC1
  rintro _ rfl _ ⟨y75, rfl, hy75⟩ _ rfl _ rfl _ rfl _ rfl _ rfl _ rfl _ rfl _ rfl _ rfl _ ⟨y85, rfl, _⟩ _ rfl _ ⟨y87, rfl, _⟩ _ ⟨y88, rfl, hy88⟩
  simp only [List.take, FinOK, Act.put, List.setIfInBounds_toArray, List.set_cons_zero, List.set_cons_succ]
  simp only [List.drop, TailOK]
  clear y0 y1 y2 y3 y4 y5 HFr HFb
  obtain ⟨ys, hy75'⟩ := hy75
  obtain ⟨A75, c75, l75, e75, n75, b75, by75⟩ := hy75'.bis
  obtain ⟨zs, hy88'⟩ := hy88
  obtain ⟨Av, cv, lv, ev, nv, bv, byv⟩ := hy88'.bis
  obtain ⟨p75, q75⟩ := y75
  simp only [Value.slice.injEq] at e75
  obtain ⟨e1, e2, e3⟩ := e75
  subst e1
  subst e3
  obtain ⟨p88, q88⟩ := y88
  simp only [Value.slice.injEq] at ev
  obtain ⟨e1, ev2, e3⟩ := ev
  subst e1
  subst e3
  have h75 : l75.length ≤ 20 := by omega
  have E2 := Lib.hid e2
  have NV := Lib.hid nv
  have EV := Lib.hid ev2
  clear e2 n75 nv ev2
  have hx12 := (hxb.on hC1).mono hC1.size
  have hbt := ((hb.take (n - 1)).on hC1).mono hC1.size
  have HBL : Hid ((en.take (n - 1)).length = n - 1) := Lib.hid (by rw [List.length_take, HN.out]; omega)
  replace ht := ht.on hC1
  replace hB := Below.call hB hC1
  have hxy : ∀ x ∈ en.set ix c, x < 256 := fun x hx => by
    rcases List.mem_or_eq_of_mem_set hx with h | h
    · exact HLB.out.2.1 x h
    · rw [h]; exact hc
  have hby : ∀ x ∈ en.take (n - 1), x < 256 := fun x hx => HLB.out.2.1 x (List.mem_of_mem_take hx)
  clear hy75' hy88' hC1 hxb hb h
  intro K hK
  refine want_none rfl ?_
  refine wp_named fun az hz => ?_
  have q75_ : az.tmps[75]? = some (.slice p75 k20 q75) := by rw [hz]; rfl
  have q76_ : az.tmps[76]? = some (.slice (some ⟨gx, 0, none⟩) n cx) := by rw [hz]; rfl
  have q81_ : az.tmps[81]? = some (.slice (some ⟨gb, ob, none⟩) (n - 1) cb) := by rw [hz]; rfl
  have q88_ : az.tmps[88]? = some (.slice p88 (n + 1) q88) := by rw [hz]; rfl
  replace hz := Lib.hid hz
  go_simp
  refine hK _ _ ?_
  clear hK K q75_ q76_ q81_ q88_
  intro K hK
  refine want_none rfl ?_
  refine wp_named fun ay hy => ?_
  have q89_ : ay.tmps[89]? = some (.slice (some ⟨w11.heap.size, 0, none⟩) 4 4) := by rw [hy, hz.out]; rfl
  replace hy := Lib.hid hy
  go_simp
  refine hK _ _ ?_
  clear hK K q89_
  rw [hy.out, hz.out]
  clear hy hz
  dsimp only [Act.put]
  simp (config := { maxSteps := 50000000 }) only [List.setIfInBounds_toArray]
  simp (config := { maxSteps := 50000000 }) only [List.set_cons_zero, List.set_cons_succ]
  have hT := Own.new w11 36 [Value.slice p75 k20 q75, Value.slice (some ⟨gx, 0, none⟩) n cx, Value.slice (some ⟨gb, ob, none⟩) (n - 1) cb, Value.slice p88 (n + 1) q88]
  have k13 := below_new w11 (.cells #[Value.slice p75 k20 q75, Value.slice (some ⟨gx, 0, none⟩) n cx, Value.slice (some ⟨gb, ob, none⟩) (n - 1) cb, Value.slice p88 (n + 1) q88] 36)
  obtain ⟨w13, ew13⟩ : ∃ W, W = w11.alloc (.cells #[Value.slice p75 k20 q75, Value.slice (some ⟨gx, 0, none⟩) n cx, Value.slice (some ⟨gb, ob, none⟩) (n - 1) cb, Value.slice p88 (n + 1) q88] 36) := ⟨_, rfl⟩
  rw [← ew13] at hT k13 ⊢
  clear ew13
  obtain ⟨gt, egt⟩ : ∃ g, g = w11.heap.size := ⟨_, rfl⟩
  rw [← egt] at hT ⊢
  have hT4 : T4 w13 gt := fun i hi => by
    match i, hi with
    | 0, _ => exact ⟨p75, l75, q75, by rw [← E2.out]; exact hT.cell 0, (b75.on k13).mono k13.size, by75, by omega, hT.lt⟩
    | 1, _ => exact ⟨_, en.set ix c, cx, by rw [HXL.out]; exact hT.cell 1, (hx12.on k13).mono k13.size, hxy, by have := HXL.out; omega, hT.lt⟩
    | 2, _ => exact ⟨_, en.take (n - 1), cb, by rw [HBL.out]; exact hT.cell 2, (hbt.on k13).mono k13.size, hby, by have := HBL.out; omega, hT.lt⟩
    | 3, _ => exact ⟨p88, lv, q88, by rw [← EV.out]; exact hT.cell 3, (bv.on k13).mono k13.size, byv, by have := NV.out; omega, hT.lt⟩
  replace ht := ht.on k13
  replace hB := Below.call hB k13
  clear hT egt k13 b75 by75 h75 E2 NV EV bv byv hx12 hbt HBL hxy hby HXL har hn0 hn1 hcb
  go_wp2_with fail
  go_loopw [16] (fun s wr => ∃ i : Nat, i ≤ 4 ∧ s = .int .i64 (i : Int) ∧ Below w13.heap.size w13 wr) (fun s _ => 4 - (intOf s).toNat)
  case atStart => exact ⟨0, by omega, rfl, Below.refl _ _⟩
  case round =>
    obtain ⟨i, hi, rfl, hbi⟩ := hrel
    rcases Nat.lt_or_eq_of_le hi with hlt | heq
    · have i0 : (0 : Int) ≤ (i : Int) := by omega
      have i4 : (i : Int) < 4 := by omega
      have hi1 : i + 1 ≤ 4 := hlt
      have hmz : Hid (4 - ((i : Int) + 1).toNat < 4 - ((i : Int)).toNat) := Lib.hid (by omega)
      obtain ⟨A1, l1, c1, x0, hb1, hy1, hl1, hgt⟩ := (hT4.on hbi) i hlt
      have hTb := ht.on hbi
      obtain ⟨⟨rx, ry, er⟩, hd⟩ : ∃ d, decR l1 = d := ⟨_, rfl⟩
      have HD := Lib.hid (Decode_any A1 c1 l1 wr hb1 hy1 hl1 hTb)
      have hde := decR_err l1
      rw [hd] at HD hde
      have HBi := Lib.hid hbi
      clear hd hbi
      go_wp2_with fail
      refine HD.out.mono ?_
      rintro e w1 ⟨a, rfl, k1, ha⟩
      go_upto_region 16 with fail
      refine wp_new1 fun w2 hA k2 => ?_
      obtain ⟨ga, ega⟩ : ∃ g, g = w1.heap.size := ⟨_, rfl⟩
      rw [← ega] at hA ⊢
      have kk := Below.call k1 k2
      have hT2 := hTb.on kk
      have hb2 := (hb1.on kk).mono kk.size
      have hgt2 : gt < w2.heap.size := Nat.lt_of_lt_of_le hgt kk.size
      replace x0 := (kk.cell (p := ⟨gt, i, none⟩) hgt).trans x0
      replace ha := ha.on k2
      have HB2 := Lib.hid (Below.call HBi.out kk)
      clear ega kk k1 k2 hTb hb1 HD hgt
      rcases hde with h | ⟨h, hE⟩
      · have h0 : er = 2 := congrArg (fun d : Rat × Rat × Int => d.2.2) h
        subst h0
        clear h
        go_wp2_with fail
        refine wp_region_specs w2 [Spec.eq (.int .i64 2), Spec.eq (.bool true), Spec.eq (.bool true), Spec.eq (.int .i64 2), Spec.eq (.bool false), Spec.eq (.bool false), Spec.eq (.bool false), Spec.eq (.int .i64 2), Spec.eq (.bool false), Spec.eq (.bool false), Spec.eq undef, Spec.eq undef, Spec.eq undef, Spec.eq undef, Spec.eq undef, Spec.eq undef, Spec.eq undef, Spec.eq undef, Spec.eq (.bool false), Spec.eq (.bool false)]
            (by kernel_rfl) (by kernel_rfl) rfl (by kernel_rfl) (Below.drew (Below.refl _ _)) ?_ ?_
        ·
          refine RegSteps.cons ?_ ?_
          · intro _ az wz hC hF hD _ K hK
            have q18 : az.tmps[18]? = some (.int .i64 2) := hF 18 rfl
            clear hF hD
            refine want_none rfl ?_
            go_simp
            exact hK _ _ hC (Below.refl _ _) rfl
          refine RegSteps.cons ?_ ?_
          · intro _ az wz hC hF hD _ K hK
            obtain ⟨_, q104, rfl⟩ := dep hD 0 rfl rfl rfl rfl
            clear hF hD
            refine want_none rfl ?_
            go_simp
            exact hK _ _ hC (Below.refl _ _) rfl
          refine RegSteps.cons ?_ ?_
          · intro _ az wz hC hF hD _ K hK
            obtain ⟨_, q105, rfl⟩ := dep hD 1 rfl rfl rfl rfl
            clear hF hD
            refine want_none rfl ?_
            go_simp
            exact hK _ _ hC (Below.refl _ _) rfl
          refine RegSteps.cons ?_ ?_
          · intro _ az wz hC hF hD _ K hK
            have q18 : az.tmps[18]? = some (.int .i64 2) := hF 18 rfl
            obtain ⟨_, qg, rfl⟩ := dep hD 2 rfl rfl rfl rfl
            clear hF hD
            refine want_yes rfl rfl rfl qg ?_
            go_simp
            exact hK _ _ hC (Below.refl _ _) rfl
          refine RegSteps.cons ?_ ?_
          · intro _ az wz hC hF hD _ K hK
            obtain ⟨_, q107, rfl⟩ := dep hD 3 rfl rfl rfl rfl
            obtain ⟨_, qg, rfl⟩ := dep hD 2 rfl rfl rfl rfl
            clear hF hD
            refine want_yes rfl rfl rfl qg ?_
            go_simp
            exact hK _ _ hC (Below.refl _ _) rfl
          refine RegSteps.cons ?_ ?_
          · intro _ az wz hC hF hD _ K hK
            obtain ⟨_, q106, rfl⟩ := dep hD 2 rfl rfl rfl rfl
            obtain ⟨_, q108, rfl⟩ := dep hD 4 rfl rfl rfl rfl
            clear hF hD
            refine want_none rfl ?_
            go_simp
            exact hK _ _ hC (Below.refl _ _) rfl
          refine RegSteps.cons ?_ ?_
          · intro _ az wz hC hF hD _ K hK
            obtain ⟨_, q109, rfl⟩ := dep hD 5 rfl rfl rfl rfl
            clear hF hD
            refine want_none rfl ?_
            go_simp
            exact hK _ _ hC (Below.refl _ _) rfl
          refine RegSteps.cons ?_ ?_
          · intro _ az wz hC hF hD _ K hK
            have q18 : az.tmps[18]? = some (.int .i64 2) := hF 18 rfl
            obtain ⟨_, qg, rfl⟩ := dep hD 6 rfl rfl rfl rfl
            clear hF hD
            refine want_yes rfl rfl rfl qg ?_
            go_simp
            exact hK _ _ hC (Below.refl _ _) rfl
          refine RegSteps.cons ?_ ?_
          · intro _ az wz hC hF hD _ K hK
            obtain ⟨_, q111, rfl⟩ := dep hD 7 rfl rfl rfl rfl
            obtain ⟨_, qg, rfl⟩ := dep hD 6 rfl rfl rfl rfl
            clear hF hD
            refine want_yes rfl rfl rfl qg ?_
            go_simp
            exact hK _ _ hC (Below.refl _ _) rfl
          refine RegSteps.cons ?_ ?_
          · intro _ az wz hC hF hD _ K hK
            obtain ⟨_, q112, rfl⟩ := dep hD 8 rfl rfl rfl rfl
            obtain ⟨_, qg, rfl⟩ := dep hD 6 rfl rfl rfl rfl
            clear hF hD
            refine want_yes rfl rfl rfl qg ?_
            go_simp
            exact hK _ _ hC (Below.refl _ _) rfl
          refine RegSteps.cons ?_ ?_
          · exact fun _ => step_no (c := false) rfl rfl rfl rfl rfl (fun _ _ h => h) rfl (fun _ => rfl)
          refine RegSteps.cons ?_ ?_
          · exact fun _ => step_no (c := false) rfl rfl rfl rfl rfl (fun _ _ h => h) rfl (fun _ => rfl)
          refine RegSteps.cons ?_ ?_
          · exact fun _ => step_no (c := false) rfl rfl rfl rfl rfl (fun _ _ h => h) rfl (fun _ => rfl)
          refine RegSteps.cons ?_ ?_
          · exact fun _ => step_no (c := false) rfl rfl rfl rfl rfl (fun _ _ h => h) rfl (fun _ => rfl)
          refine RegSteps.cons ?_ ?_
          · exact fun _ => step_no (c := false) rfl rfl rfl rfl rfl (fun _ _ h => h) rfl (fun _ => rfl)
          refine RegSteps.cons ?_ ?_
          · exact fun _ => step_no (c := false) rfl rfl rfl rfl rfl (fun _ _ h => h) rfl (fun _ => rfl)
          refine RegSteps.cons ?_ ?_
          · exact fun _ => step_no (c := false) rfl rfl rfl rfl rfl (fun _ _ h => h) rfl (fun _ => rfl)
          refine RegSteps.cons ?_ ?_
          · exact fun _ => step_no (c := false) rfl rfl rfl rfl rfl (fun _ _ h => h) rfl (fun _ => rfl)
          refine RegSteps.cons ?_ ?_
          · intro _ az wz hC hF hD _ K hK
            obtain ⟨_, q113, rfl⟩ := dep hD 9 rfl rfl rfl rfl
            obtain ⟨_, q121, rfl⟩ := dep hD 17 rfl rfl rfl rfl
            obtain ⟨_, qg, rfl⟩ := dep hD 6 rfl rfl rfl rfl
            clear hF hD
            refine want_yes rfl rfl rfl qg ?_
            go_simp
            exact hK _ _ hC (Below.refl _ _) rfl
          refine RegSteps.cons ?_ ?_
          · intro _ az wz hC hF hD _ K hK
            obtain ⟨_, q110, rfl⟩ := dep hD 6 rfl rfl rfl rfl
            obtain ⟨_, q122, rfl⟩ := dep hD 18 rfl rfl rfl rfl
            clear hF hD
            refine want_none rfl ?_
            go_simp
            exact hK _ _ hC (Below.refl _ _) rfl
          exact RegSteps.nil
        intro w3 hC3
        rintro _ rfl _ rfl _ rfl _ rfl _ rfl _ rfl _ rfl _ rfl _ rfl _ rfl _ rfl _ rfl _ rfl _ rfl _ rfl _ rfl _ rfl _ rfl _ rfl _ rfl
        simp only [FinOK, Act.put, List.setIfInBounds_toArray, List.set_cons_zero, List.set_cons_succ]
        have HB3 := Lib.hid (Below.call HB2.out hC3)
        clear hC3
        go_wp2_with fail
        go_roundw
        case rel => exact ⟨i + 1, hi1, rfl, HB3.out⟩
        case measure => exact hmz.out
      · have h0 : er = 0 := h
        subst h0
        have HEc : Hid (∀ (p : PV) u, p.is u rx.num rx.den ry.num ry.den → Tab u → Calls Tryz.prog 9 #[.agg #[.bool p.x.p.neg, .slice p.x.p.A p.x.p.n p.x.p.c, .bool p.x.l.neg, .slice p.x.l.A p.x.l.n p.x.l.c, .bool p.y.p.neg, .slice p.y.p.A p.y.p.n p.y.p.c, .bool p.y.l.neg, .slice p.y.l.A p.y.l.n p.y.l.c]] u (RetBI u l1)) := Lib.hid fun p u h1 h2 => by
          have := Encode_any h1 h2
          have hE2 : encP (ftext rx.num rx.den) (ftext ry.num ry.den) = l1 := hE
          rwa [hE2] at this
        have HSm : Hid (∀ (p q : Option Addr × Nat) u, BIs u u.heap.size p.1 p.2 l1 → BIs u u.heap.size q.1 q.2 l1 → Calls Tryz.prog 8 #[.slice p.1 l1.length p.2, .slice q.1 l1.length q.2] u (RetB u true)) := Lib.hid fun p q u h1 h2 => by
          have := SameBytes_any p.1 q.1 p.2 q.2 l1 l1 u h1 h2 (by omega) (by omega)
          rwa [decide_eq_true rfl] at this
        clear h hE
        go_wp2_with fail
        refine wp_region_specs w2 [Spec.eq (.int .i64 0), Spec.eq (.bool false), Spec.eq (.bool false), Spec.eq undef, Spec.eq undef, Spec.eq (.bool false), Spec.eq (.bool false), Spec.eq (.int .i64 0), Spec.eq (.bool true), Spec.eq (.bool true), Spec.eq (.agg #[.bool a.x.p.neg, .slice a.x.p.A a.x.p.n a.x.p.c, .bool a.x.l.neg, .slice a.x.l.A a.x.l.n a.x.l.c, .bool a.y.p.neg, .slice a.y.p.A a.y.p.n a.y.p.c, .bool a.y.l.neg, .slice a.y.l.A a.y.l.n a.y.l.c]), sBI l1, Spec.eq (.slice (some ⟨gt, 0, none⟩) 4 4), Spec.eq (.int .i64 (i : Int)), Spec.eq (.pointer (some ⟨gt, i, none⟩)), Spec.eq (.slice A1 l1.length c1), Spec.eq (.bool true), Spec.eq (.bool false), Spec.eq (.bool false), Spec.eq (.bool false)]
            (by kernel_rfl) (by kernel_rfl) rfl (by kernel_rfl) (Below.drew (Below.refl _ _)) ?_ ?_
        ·
          refine RegSteps.cons ?_ ?_
          · intro _ az wz hC hF hD _ K hK
            have q18 : az.tmps[18]? = some (.int .i64 0) := hF 18 rfl
            clear hF hD
            refine want_none rfl ?_
            go_simp
            exact hK _ _ hC (Below.refl _ _) rfl
          refine RegSteps.cons ?_ ?_
          · intro _ az wz hC hF hD _ K hK
            obtain ⟨_, q104, rfl⟩ := dep hD 0 rfl rfl rfl rfl
            clear hF hD
            refine want_none rfl ?_
            go_simp
            exact hK _ _ hC (Below.refl _ _) rfl
          refine RegSteps.cons ?_ ?_
          · intro _ az wz hC hF hD _ K hK
            obtain ⟨_, q105, rfl⟩ := dep hD 1 rfl rfl rfl rfl
            clear hF hD
            refine want_none rfl ?_
            go_simp
            exact hK _ _ hC (Below.refl _ _) rfl
          refine RegSteps.cons ?_ ?_
          · exact fun _ => step_no (c := false) rfl rfl rfl rfl rfl (fun _ _ h => h) rfl (fun _ => rfl)
          refine RegSteps.cons ?_ ?_
          · exact fun _ => step_no (c := false) rfl rfl rfl rfl rfl (fun _ _ h => h) rfl (fun _ => rfl)
          refine RegSteps.cons ?_ ?_
          · intro _ az wz hC hF hD _ K hK
            obtain ⟨_, q106, rfl⟩ := dep hD 2 rfl rfl rfl rfl
            obtain ⟨_, q108, rfl⟩ := dep hD 4 rfl rfl rfl rfl
            clear hF hD
            refine want_none rfl ?_
            go_simp
            exact hK _ _ hC (Below.refl _ _) rfl
          refine RegSteps.cons ?_ ?_
          · intro _ az wz hC hF hD _ K hK
            obtain ⟨_, q109, rfl⟩ := dep hD 5 rfl rfl rfl rfl
            clear hF hD
            refine want_none rfl ?_
            go_simp
            exact hK _ _ hC (Below.refl _ _) rfl
          refine RegSteps.cons ?_ ?_
          · intro _ az wz hC hF hD _ K hK
            have q18 : az.tmps[18]? = some (.int .i64 0) := hF 18 rfl
            obtain ⟨_, qg, rfl⟩ := dep hD 6 rfl rfl rfl rfl
            clear hF hD
            refine want_yes rfl rfl rfl qg ?_
            go_simp
            exact hK _ _ hC (Below.refl _ _) rfl
          refine RegSteps.cons ?_ ?_
          · intro _ az wz hC hF hD _ K hK
            obtain ⟨_, q111, rfl⟩ := dep hD 7 rfl rfl rfl rfl
            obtain ⟨_, qg, rfl⟩ := dep hD 6 rfl rfl rfl rfl
            clear hF hD
            refine want_yes rfl rfl rfl qg ?_
            go_simp
            exact hK _ _ hC (Below.refl _ _) rfl
          refine RegSteps.cons ?_ ?_
          · intro _ az wz hC hF hD _ K hK
            obtain ⟨_, q112, rfl⟩ := dep hD 8 rfl rfl rfl rfl
            obtain ⟨_, qg, rfl⟩ := dep hD 6 rfl rfl rfl rfl
            clear hF hD
            refine want_yes rfl rfl rfl qg ?_
            go_simp
            exact hK _ _ hC (Below.refl _ _) rfl
          refine RegSteps.cons ?_ ?_
          · intro _ az wz hC hF hD _ K hK
            have q17 : az.tmps[17]? = some (.pointer (some ⟨ga, 0, none⟩)) := hF 17 rfl
            obtain ⟨_, qg, rfl⟩ := dep hD 9 rfl rfl rfl rfl
            obtain ⟨l0, l1_, l2, l3, l4, l5, l6, l7, _⟩ := (hA.on hC).all8
            clear hF hD
            refine want_yes rfl rfl rfl qg ?_
            go_simp
            exact hK _ _ hC (Below.refl _ _) rfl
          refine RegSteps.cons ?_ ?_
          · intro _ az wz hC hF hD _ K hK
            obtain ⟨_, q114, rfl⟩ := dep hD 10 rfl rfl rfl rfl
            obtain ⟨_, qg, rfl⟩ := dep hD 9 rfl rfl rfl rfl
            clear hF hD
            refine want_yes rfl rfl rfl qg ?_
            go_simp
            refine (HEc.out _ _ (ha.on hC) (hT2.on hC)).mono ?_
            rintro e wy ⟨A_, c_, rfl, hx, k⟩
            exact hK _ _ (Below.call hC k) k ⟨⟨A_, c_⟩, rfl, hx⟩
          refine RegSteps.cons ?_ ?_
          · intro _ az wz hC hF hD _ K hK
            have q15 : az.tmps[15]? = some (.slice (some ⟨gt, 0, none⟩) 4 4) := hF 15 rfl
            obtain ⟨_, qg, rfl⟩ := dep hD 9 rfl rfl rfl rfl
            clear hF hD
            refine want_yes rfl rfl rfl qg ?_
            go_simp
            exact hK _ _ hC (Below.refl _ _) rfl
          refine RegSteps.cons ?_ ?_
          · intro _ az wz hC hF hD _ K hK
            have q16 : az.tmps[16]? = some (.int .i64 (i : Int)) := hF 16 rfl
            obtain ⟨_, qg, rfl⟩ := dep hD 9 rfl rfl rfl rfl
            clear hF hD
            refine want_yes rfl rfl rfl qg ?_
            go_simp
            exact hK _ _ hC (Below.refl _ _) rfl
          refine RegSteps.cons ?_ ?_
          · intro _ az wz hC hF hD _ K hK
            obtain ⟨_, q116, rfl⟩ := dep hD 12 rfl rfl rfl rfl
            obtain ⟨_, q117, rfl⟩ := dep hD 13 rfl rfl rfl rfl
            obtain ⟨_, qg, rfl⟩ := dep hD 9 rfl rfl rfl rfl
            clear hF hD
            refine want_yes rfl rfl rfl qg ?_
            go_simp
            exact hK _ _ hC (Below.refl _ _) rfl
          refine RegSteps.cons ?_ ?_
          · intro _ az wz hC hF hD _ K hK
            obtain ⟨_, q118, rfl⟩ := dep hD 14 rfl rfl rfl rfl
            obtain ⟨_, qg, rfl⟩ := dep hD 9 rfl rfl rfl rfl
            have l0 := (hC.cell (p := ⟨gt, i, none⟩) hgt2).trans x0
            clear hF hD
            refine want_yes rfl rfl rfl qg ?_
            go_simp
            exact hK _ _ hC (Below.refl _ _) rfl
          refine RegSteps.cons ?_ ?_
          · intro _ az wz hC hF hD _ K hK
            obtain ⟨_, q115, x115, rfl, hx115⟩ := dep hD 11 rfl rfl rfl rfl
            obtain ⟨_, q119, rfl⟩ := dep hD 15 rfl rfl rfl rfl
            obtain ⟨_, qg, rfl⟩ := dep hD 9 rfl rfl rfl rfl
            clear hF hD
            refine want_yes rfl rfl rfl qg ?_
            go_simp
            refine (HSm.out _ ⟨A1, c1⟩ _ hx115 ((hb2.on hC).mono hC.size)).mono ?_
            rintro e wy ⟨rfl, k⟩
            exact hK _ _ (Below.call hC k) k rfl
          refine RegSteps.cons ?_ ?_
          · intro _ az wz hC hF hD _ K hK
            obtain ⟨_, q120, rfl⟩ := dep hD 16 rfl rfl rfl rfl
            obtain ⟨_, qg, rfl⟩ := dep hD 9 rfl rfl rfl rfl
            clear hF hD
            refine want_yes rfl rfl rfl qg ?_
            go_simp
            exact hK _ _ hC (Below.refl _ _) rfl
          refine RegSteps.cons ?_ ?_
          · intro _ az wz hC hF hD _ K hK
            obtain ⟨_, q113, rfl⟩ := dep hD 9 rfl rfl rfl rfl
            obtain ⟨_, q121, rfl⟩ := dep hD 17 rfl rfl rfl rfl
            obtain ⟨_, qg, rfl⟩ := dep hD 6 rfl rfl rfl rfl
            clear hF hD
            refine want_yes rfl rfl rfl qg ?_
            go_simp
            exact hK _ _ hC (Below.refl _ _) rfl
          refine RegSteps.cons ?_ ?_
          · intro _ az wz hC hF hD _ K hK
            obtain ⟨_, q110, rfl⟩ := dep hD 6 rfl rfl rfl rfl
            obtain ⟨_, q122, rfl⟩ := dep hD 18 rfl rfl rfl rfl
            clear hF hD
            refine want_none rfl ?_
            go_simp
            exact hK _ _ hC (Below.refl _ _) rfl
          exact RegSteps.nil
        intro w3 hC3
        rintro _ rfl _ rfl _ rfl _ rfl _ rfl _ rfl _ rfl _ rfl _ rfl _ rfl _ rfl _ ⟨y115, rfl, _⟩ _ rfl _ rfl _ rfl _ rfl _ rfl _ rfl _ rfl _ rfl
        simp only [FinOK, Act.put, List.setIfInBounds_toArray, List.set_cons_zero, List.set_cons_succ]
        have HB3 := Lib.hid (Below.call HB2.out hC3)
        clear hC3 HEc HSm
        go_wp2_with fail
        go_roundw
        case rel => exact ⟨i + 1, hi1, rfl, HB3.out⟩
        case measure => exact hmz.out
    · subst heq
      go_wp2_with fail
      refine (lives_any _ (ht.on hbi)).mono ?_
      rintro e w9 ⟨rfl, k9⟩
      have hB9 := Below.call (Below.call hB hbi) k9
      go_wp2
      go_returns
      exact ⟨by simp, hB9⟩
end Go.Proofs.YtfbbnphpapmpcaaGreatDoor
