/-
  Contracts of package wide: Sub, times, Mul.
-/
import Derived.Test.YtfbbnphpapmpcaaGreatDoorW5
import Derived.Test.YtfbbnphpapmpcaaGreatDoorShelf
namespace Go.Proofs.YtfbbnphpapmpcaaGreatDoor
open Go.RowKit Mag

theorem WI.of_drew {w : World} {neg : Bool} {A : Option Addr} {n c : Nat} {z : Int} (h : WI w neg A n c z) : WI w.drew neg A n c z := by
  obtain ⟨l, h1, h2, h3, h4⟩ := h
  exact ⟨l, h1, h2, ⟨h3.sl, h3.ws, h3.nz, h3.cap, h3.mx⟩, h4⟩

set_option maxRecDepth 100000 in
set_option maxHeartbeats 400000 in
theorem Sub_any {n1 n2 : Bool} {A B : Option Addr} {k m c d : Nat} {x y : Int} {w : World} (hx : WI w n1 A k c x) (hy : WI w n2 B m d y) :
    Calls Tryz.prog 96 #[.agg #[.bool n1, .slice A k c], .agg #[.bool n2, .slice B m d]] w (IntErr w (clip (x - y)) (lim (x - y))) := by
  go_enter Tryz.func96, Tryz.ntmps96
  go_wp2_with fail
  have hB := Box3.mk_ w (.bool n1) (.slice A k c) (.bool n2) (.slice B m d) (.bool false) (.slice none 0 0) 29 29 29
  generalize (((w.alloc (.cells #[.bool n1, .slice A k c] 29)).alloc (.cells #[.bool n2, .slice B m d] 29)).alloc (.cells #[.bool false, .slice none 0 0] 29)) = W at hB ⊢
  have hx' := hx.on hB.bel
  have hy' := hy.on hB.bel
  go_region_held3 (fun w' => w'.cell? ⟨w.heap.size, 0, none⟩ = some (.bool n1) ∧ w'.cell? ⟨w.heap.size, 1, none⟩ = some (.slice A k c) ∧ w'.cell? ⟨w.heap.size + 1, 0, none⟩ = some (.bool n2) ∧ w'.cell? ⟨w.heap.size + 1, 1, none⟩ = some (.slice B m d)) (first | exact ⟨hB.x0, hB.x1, hB.y0, hB.y1⟩ | exact ⟨hB1.x0, hB1.x1, hB1.y0, hB1.y1⟩ | exact ⟨hB2.x0, hB2.x1, hB2.y0, hB2.y1⟩ | exact ⟨(hB2.put _ _).x0, (hB2.put _ _).x1, (hB2.put _ _).y0, (hB2.put _ _).y1⟩)
    (first
      | (go_at_call 68; refine (neg_any (by exact WI.of_drew hy')).mono ?_; rintro e w1 ⟨ng, B2, m2, d2, rfl, hb1, hng⟩; have hB1 := hB.on (W' := w1) (Below.of_drew hb1); have hx1 := hx'.on (Below.of_drew hb1))
      | (go_at_call 58; refine (Add_any hx1 hng).mono ?_; rintro e w2 ⟨neg, A2, k2, c2, rfl, hb2, hwi⟩; have hB2 := hB1.on (W' := w2) hb2; have z0 := hB2.z0; have z1 := hB2.z1; have f0 := hB2.fz 0; have f1 := hB2.fz 1))
  have hwi2 := (hwi.put z0 (fun n => by simp) (.bool neg)).put (p := ⟨w.heap.size + 1 + 1, 1, none⟩) (v := .slice none 0 0) (by simp [go_sem, z1]) (fun n => by simp) (.slice A2 k2 c2)
  have HP : IntErr w (clip (x + -y)) (lim (x + -y)) (.returned (.tuple #[.agg #[.bool neg, .slice A2 k2 c2], .int .i64 (lim (x + -y))])) _ := ⟨_, _, _, _, rfl, (hB2.put (.bool neg) (.slice A2 k2 c2)).bel, hwi2⟩
  have HQ := Lib.hid HP
  have q0 := (hB2.put (.bool neg) (.slice A2 k2 c2)).z0
  have q1 := (hB2.put (.bool neg) (.slice A2 k2 c2)).z1
  clear HP hwi hwi2
  generalize (w2.setCell ⟨w.heap.size + 1 + 1, 0, none⟩ (.bool neg)).setCell ⟨w.heap.size + 1 + 1, 1, none⟩ (.slice A2 k2 c2) = W3 at HQ q0 q1 ⊢
  go_wp2
  rw [Int.sub_eq_add_neg]
  exact bodyPost_ret (v := .tuple #[.agg #[.bool neg, .slice A2 k2 c2], .int .i64 (lim (x + -y))]) (by simp [results, Tryz.results96, go_sem, q0, q1]) rfl HQ.out

/-- The state of a product: S is what the result holds. -/
structure MulSt (w : World) (B go : Nat) (n : Nat) (z : Nat) (S : List Nat) (wr : World) : Prop where
  len : S.length = n
  ws : Ws S
  zero : ∀ j, z ≤ j → S.getD j 0 = 0
  out : Own wr go 91 (S.map w32)
  bel : Below B w wr
theorem MulSt.cell {w : World} {B go n z : Nat} {S : List Nat} {wr : World} (h : MulSt w B go n z S wr) {j : Nat} (hj : j < n) : wr.cell? ⟨go, j, none⟩ = some (.int .u32 (S.getD j 0 : Nat)) := by
  have hl := h.len
  rw [h.out.cell, List.getElem?_map, List.getElem?_eq_getElem (by omega), getD_lt (by omega)]; rfl
theorem MulSt.set_ {w : World} {B go n z : Nat} {S : List Nat} {wr : World} (h : MulSt w B go n z S wr) (hB : B ≤ go) {j x z' : Nat} (hx : x < 4294967296) (hz : z ≤ z') (hj : j < z') {s : Int} (hs : s = (x : Int)) :
    MulSt w B go n z' (S.set j x) (wr.setCell ⟨go, j, none⟩ (.int .u32 s)) := by
  subst hs
  refine ⟨by simp [h.len], h.ws.set j hx, fun i hi => ?_, ?_, h.bel.setCell hB _⟩
  · have := h.zero i (by omega)
    rw [List.getD_eq_getElem?_getD, List.getElem?_set_ne (by omega), ← List.getD_eq_getElem?_getD, this]
  · have := h.out.set_ j (w32 x)
    rw [← List.map_set] at this
    exact this
def TimesPost (w : World) (a b : List Nat) (e : Ending) (w' : World) : Prop :=
  ∃ g ds, e = .returned (.slice (some ⟨g, 0, none⟩) ds.length ds.length) ∧ Own w' g 91 (ds.map w32) ∧ Ws ds ∧ Hid (val ds = val a * val b) ∧ ds.length ≤ a.length + b.length ∧ Below w.heap.size w w' ∧ w.heap.size ≤ g
theorem i64_of {x : Nat} {z : Int} (h : z = (x : Int)) : Value.int .i64 z = .int .i64 (x : Int) := by rw [h]
theorem u64_of {x : Nat} {z : Int} (h : z = (x : Int)) : Value.int .u64 z = .int .u64 (x : Int) := by rw [h]
theorem mul_lim {x y : Nat} (hx : x < 4294967296) (hy : y < 4294967296) : x * y ≤ 18446744065119617025 := by
  have : x * y ≤ 4294967295 * 4294967295 := Nat.mul_le_mul (by omega) (by omega)
  omega

set_option maxHeartbeats 1000000 in
theorem times_any {A B : Option Addr} {c d : Nat} {a b : List Nat} {w : World} (hA : Sl w w.heap.size A (a.map w32)) (hB : Sl w w.heap.size B (b.map w32)) (hwa : Ws a) (hwb : Ws b) (ha : a.length ≤ 1048576) (hb : b.length ≤ 1048576) :
    Calls Tryz.prog 87 #[.slice A a.length c, .slice B b.length d] w (TimesPost w a b) := by
  have hmk := make_u32 (a.length + b.length) (by omega) ((a.length : Int) + (b.length : Int)) (by omega)
  go_enter Tryz.func87, Tryz.ntmps87
  go_wp2
  go_loopw [20] (fun i wr => ∃ (k : Nat) (S : List Nat), k ≤ a.length ∧ i = .int .i64 k ∧ Hid (val S = val (a.take k) * val b) ∧ MulSt w w.heap.size w.heap.size (a.length + b.length) (k + b.length) S wr)
    (fun i _ => a.length - (intOf i).toNat)
  case atStart => exact ⟨0, List.replicate (a.length + b.length) 0, by omega, rfl, Lib.hid (by simp [val, val_replicate]), by simp, Ws.replicate _, fun j _ => by simp [List.getD_eq_getElem?_getD, List.getElem?_replicate]; split <;> rfl, by simpa using Own.rep w 91 (a.length + b.length) (w32 0), by go_grown⟩
  case round =>
    obtain ⟨i, S, hi, rfl, hv, hst⟩ := hrel
    by_cases hlt : i < a.length
    · obtain ⟨g1, o1, rfl, hg1, hc1⟩ := (hA.below hst.bel).w32at (i := i) hlt
      have ba := hwa.get hlt
      have HEA := Lib.hid (getD_lt hlt)
      obtain ⟨wo, rfl⟩ : ∃ wo : World, wo = wr := ⟨_, rfl⟩
      go_wp2
      go_loopw [27, 8] (fun ki cy wi => ∃ (k : Nat) (S2 : List Nat) (cc : Nat), k ≤ b.length ∧ ki = .int .i64 k ∧ cy = .int .u64 (cc : Nat) ∧ cc < 4294967296 ∧
          Hid (val S2 + cc * 4294967296 ^ (i + k) = val S + a[i] * val (b.take k) * 4294967296 ^ i) ∧ MulSt w w.heap.size w.heap.size (a.length + b.length) (i + b.length) S2 wi)
        (fun ki _ _ => b.length - (intOf ki).toNat)
      case atStart => exact ⟨0, S, 0, by omega, rfl, rfl, by omega, Lib.hid (by simp [val]), hst⟩
      case round =>
        obtain ⟨k, S2, cc, hk, rfl, rfl, hcc, hv2, hs2⟩ := hrel
        by_cases hkl : k < b.length
        · obtain ⟨g2, o2, rfl, hg2, hc2⟩ := (hB.below hs2.bel).w32at (i := k) hkl
          have bb := hwb.get hkl
          have HEB := Lib.hid (getD_lt hkl)
          have hj : i + k < a.length + b.length := by omega
          have hsc := hs2.cell hj
          have hsf := hs2.out.frozen (i + k)
          have hsw := hs2.ws.getD (i + k)
          have hp0 : (0 : Int) ≤ (a[i] : Int) * (b[k] : Int) := Int.mul_nonneg (by omega) (by omega)
          have hp1 : (a[i] : Int) * (b[k] : Int) ≤ 18446744065119617025 := by
            have := mul_lim ba bb
            have e : ((a[i] * b[k] : Nat) : Int) = (a[i] : Int) * (b[k] : Int) := Int.natCast_mul _ _
            omega
          obtain ⟨s, hs⟩ : ∃ s, s = S2.getD (i + k) 0 := ⟨_, rfl⟩
          rw [← hs] at hsc hsw
          have HS := Lib.hid hs
          clear hs
          have e : ((a[i] * b[k] : Nat) : Int) = (a[i] : Int) * (b[k] : Int) := Int.natCast_mul _ _
          have hn := fun (s' : Int) (h' : s' = ((a[i] * b[k] + s + cc) % 4294967296 : Nat)) => hs2.set_ (Nat.le_refl _) (j := i + k) (x := (a[i] * b[k] + s + cc) % 4294967296) (by omega) (Nat.le_refl _) (by omega) h'
          have hm := mul_step (b := b) (by rw [hs2.len]; exact hj) hv2.out (t := a[i] * b[k] + s + cc) (by rw [HEB.out, HS.out])
          have HN := Lib.hid hn
          have HM := Lib.hid hm
          have HE := Lib.hid e
          clear hn hm e
          go_wp2
          go_roundw
          case rel =>
            have e := HE.out
            have hq := mul_lim ba bb
            exact ⟨k + 1, _, (a[i] * b[k] + s + cc) / 4294967296, by omega, by go_num, u64_of (by omega), by omega, HM, HN.out _ (by omega)⟩
          case measure => simp [intOf] <;> omega
        · obtain rfl : k = b.length := by omega
          have hj : i + b.length < a.length + b.length := by omega
          have hsc := hs2.cell hj
          have hz0 := hs2.zero (i + b.length) (Nat.le_refl _)
          rw [hz0] at hsc
          have hsf := hs2.out.frozen (i + b.length)
          have hn := fun (s' : Int) (h' : s' = (cc : Nat)) => hs2.set_ (z' := i + 1 + b.length) (Nat.le_refl _) (j := i + b.length) (x := cc) hcc (by omega) (by omega) h'
          have hm := mul_row (by rw [hs2.len]; exact hj) hz0 rfl hv2.out
          have hm2 : val (S2.set (i + b.length) cc) = val (a.take (i + 1)) * val b := by
            rw [hm, hv.out, val_take_succ, HEA.out]; grind
          have HN := Lib.hid hn
          have HM := Lib.hid hm2
          clear hn hm hm2 hz0
          go_wp2
          go_roundw
          case rel => exact ⟨i + 1, _, by omega, by go_num, HM, HN.out _ (by omega)⟩
          case measure => simp [intOf] <;> omega
    · obtain rfl : i = a.length := by omega
      have HP : TimesPost w a b (.returned (.slice (some ⟨w.heap.size, 0, none⟩) S.length S.length)) wr := ⟨_, S, rfl, hst.out, hst.ws, Lib.hid (by rw [hv.out, List.take_of_length_le (Nat.le_refl _)]), by rw [hst.len]; omega, hst.bel, Nat.le_refl _⟩
      rw [hst.len] at HP
      have HQ := Lib.hid HP
      clear HP hst hv
      go_wp2
      go_ret
      exact HQ.out

theorem sgn_mul (p q : Bool) (x y : Nat) : sgn p x * sgn q y = sgn (p != q) (x * y) := by
  unfold sgn
  cases p <;> cases q <;> simp [Int.mul_neg, Int.neg_mul]

set_option maxRecDepth 100000 in
set_option maxHeartbeats 400000 in
theorem Mul_any {n1 n2 : Bool} {A B : Option Addr} {k m c d : Nat} {x y : Int} {w : World} (hx : WI w n1 A k c x) (hy : WI w n2 B m d y) :
    Calls Tryz.prog 97 #[.agg #[.bool n1, .slice A k c], .agg #[.bool n2, .slice B m d]] w (IntErr w (clip (x * y)) (lim (x * y))) := by
  obtain ⟨a, rfl, h5, ha, hna, rfl⟩ := hx.open_
  obtain ⟨b, rfl, h6, hb, hnb, rfl⟩ := hy.open_
  clear hx hy
  have hz := sgn_mul n1 n2 (val a) (val b)
  have HZ := Lib.hid hz
  clear hz
  go_enter Tryz.func97, Tryz.ntmps97
  go_wp2_with fail
  have hB := Box3.mk_ w (.bool n1) (.slice A a.length c) (.bool n2) (.slice B b.length d) (.bool false) (.slice none 0 0) 29 29 29
  generalize (((w.alloc (.cells #[.bool n1, .slice A a.length c] 29)).alloc (.cells #[.bool n2, .slice B b.length d] 29)).alloc (.cells #[.bool false, .slice none 0 0] 29)) = W at hB ⊢
  have ha' := ha.on hB.bel
  have hb' := hb.on hB.bel
  go_region_held3 (fun w' => w'.cell? ⟨w.heap.size, 0, none⟩ = some (.bool n1) ∧ w'.cell? ⟨w.heap.size, 1, none⟩ = some (.slice A a.length c) ∧ w'.cell? ⟨w.heap.size + 1, 0, none⟩ = some (.bool n2) ∧ w'.cell? ⟨w.heap.size + 1, 1, none⟩ = some (.slice B b.length d)) (first | exact ⟨hB.x0, hB.x1, hB.y0, hB.y1⟩ | exact ⟨hB1.x0, hB1.x1, hB1.y0, hB1.y1⟩ | exact ⟨hB2.x0, hB2.x1, hB2.y0, hB2.y1⟩ | exact ⟨(hB2.put _ _).x0, (hB2.put _ _).x1, (hB2.put _ _).y0, (hB2.put _ _).y1⟩)
    (first
      | (go_at_call 87; refine (times_any (by exact ha'.sl) (by exact hb'.sl) ha.ws hb.ws (by omega) (by omega)).mono ?_; rintro e w1 ⟨g, ds, rfl, h11, h12, h13, h14, h15, h16⟩; have hB1 := hB.on (W' := w1) (Below.of_drew h15))
      | (go_at_call 66; refine (signed_lim _ _ _ ds _ (sgn n1 (val a) * sgn n2 (val b)) (h11.sl h11.lt) (Nat.le_refl _) (by unfold maxLen; omega) h12 (by rw [HZ.out, h13.out]; cases n1 <;> cases n2 <;> rfl)).mono ?_; rintro e w2 ⟨neg, A2, k2, c2, rfl, hb2, hwi⟩; have hB2 := hB1.on (W' := w2) hb2; have z0 := hB2.z0; have z1 := hB2.z1; have f0 := hB2.fz 0; have f1 := hB2.fz 1))
  have hwi2 := (hwi.put z0 (fun n => by simp) (.bool neg)).put (p := ⟨w.heap.size + 1 + 1, 1, none⟩) (v := .slice none 0 0) (by simp [go_sem, z1]) (fun n => by simp) (.slice A2 k2 c2)
  have HP : IntErr w (clip (sgn n1 (val a) * sgn n2 (val b))) (lim (sgn n1 (val a) * sgn n2 (val b))) (.returned (.tuple #[.agg #[.bool neg, .slice A2 k2 c2], .int .i64 (lim (sgn n1 (val a) * sgn n2 (val b)))])) _ := ⟨_, _, _, _, rfl, (hB2.put (.bool neg) (.slice A2 k2 c2)).bel, hwi2⟩
  have HQ := Lib.hid HP
  have q0 := (hB2.put (.bool neg) (.slice A2 k2 c2)).z0
  have q1 := (hB2.put (.bool neg) (.slice A2 k2 c2)).z1
  clear HP hwi hwi2
  generalize (w2.setCell ⟨w.heap.size + 1 + 1, 0, none⟩ (.bool neg)).setCell ⟨w.heap.size + 1 + 1, 1, none⟩ (.slice A2 k2 c2) = W3 at HQ q0 q1 ⊢
  go_wp2
  exact bodyPost_ret (v := .tuple #[.agg #[.bool neg, .slice A2 k2 c2], .int .i64 (lim (sgn n1 (val a) * sgn n2 (val b)))]) (by simp [results, Tryz.results97, go_sem, q0, q1]) rfl HQ.out
end Go.Proofs.YtfbbnphpapmpcaaGreatDoor

/-
  (second part)
-/
namespace Go.Proofs.YtfbbnphpapmpcaaGreatDoor
open Go.RowKit Mag

theorem or_word (r x : Nat) (hr : r < 4294967296) (hx : x < 4294967296) : bits BinOp.or IntKind.u64 ((r : Int) * 4294967296) (x : Int) = (r : Int) * 4294967296 + (x : Int) := by
  have h := u64_or_nat (r * 4294967296) x (by omega) (by omega)
  rw [nat_join 32 _ _ (by omega) (by omega)] at h
  rw [Int.natCast_mul, Int.natCast_add, Int.natCast_mul] at h
  exact h
theorem short_dig {r x q : Nat} (hr : r < q) (hx : x < 4294967296) : (r * 4294967296 + x) / q < 4294967296 := by
  rw [Nat.div_lt_iff_lt_mul (by omega)]
  have : (r + 1) * 4294967296 ≤ q * 4294967296 := Nat.mul_le_mul_right _ hr
  omega
structure ShortSt (w : World) (B go n : Nat) (a : List Nat) (q k : Nat) (S : List Nat) (r : Nat) (wr : World) : Prop where
  st : MulSt w B go n n S wr
  eq : val (a.drop k) = val (S.drop k) * q + r
  lt : r < q
theorem ShortSt.step {w : World} {B go n q k : Nat} {a S : List Nat} {r : Nat} {wr : World} (h : ShortSt w B go n a q (k + 1) S r wr) (hn : n = a.length) (hB : B ≤ go) (hk : k < n) (hq : q < 4294967296)
    {s : Int} {d r' : Nat} (hd : d = (r * 4294967296 + a.getD k 0) / q) (hr : r' = (r * 4294967296 + a.getD k 0) % q) (hs : s = (d : Int)) : d < 4294967296 → ShortSt w B go n a q k (S.set k d) r' (wr.setCell ⟨go, k, none⟩ (.int .u32 s)) := by
  intro hd32
  have hlt := h.lt
  refine ⟨h.st.set_ hB hd32 (Nat.le_refl _) hk hs, ?_, by rw [hr]; exact Nat.mod_lt _ (by omega)⟩
  have hl := h.st.len
  have e1 := val_drop_cons (l := a) (j := k) (by omega)
  have e2 := val_drop_cons (l := S.set k d) (j := k) (by rw [List.length_set]; omega)
  have e3 : (S.set k d).getD k 0 = d := by rw [List.getD_eq_getElem?_getD, List.getElem?_set_self (by omega)]; rfl
  have e4 : (S.set k d).drop (k + 1) = S.drop (k + 1) := List.drop_set_of_lt (by omega)
  rw [e3, e4] at e2
  rw [e1, e2, short_step (x := a.getD k 0) h.eq, hr, hd]
def ShortPost (w : World) (a : List Nat) (q : Nat) (e : Ending) (w' : World) : Prop :=
  ∃ g ds r, e = .returned (.tuple #[.slice (some ⟨g, 0, none⟩) ds.length ds.length, .int .u32 (r : Nat)]) ∧ Own w' g 91 (ds.map w32) ∧ Ws ds ∧ Hid (val a = val ds * q + r) ∧ r < q ∧ ds.length ≤ a.length ∧ Below w.heap.size w w' ∧ w.heap.size ≤ g

set_option maxHeartbeats 1000000 in
theorem short_any {A : Option Addr} {c q : Nat} {a : List Nat} {w : World} (hA : Sl w w.heap.size A (a.map w32)) (hwa : Ws a) (ha : a.length ≤ 1048576) (hq0 : 0 < q) (hq1 : q < 4294967296) :
    Calls Tryz.prog 50 #[.slice A a.length c, .int .u32 (q : Nat)] w (ShortPost w a q) := by
  have hmk := make_u32 a.length (by omega) (a.length : Int) (by omega)
  go_enter Tryz.func50, Tryz.ntmps50
  go_wp2
  go_loopw [8, 7] (fun i re wr => ∃ (k : Nat) (S : List Nat) (r : Nat), k ≤ a.length ∧ i = .int .i64 ((k : Int) - 1) ∧ re = .int .u64 (r : Nat) ∧ ShortSt w w.heap.size w.heap.size a.length a q k S r wr)
    (fun i _ _ => (intOf i + 1).toNat)
  case atStart => exact ⟨a.length, List.replicate a.length 0, 0, by omega, rfl, rfl, ⟨by simp, Ws.replicate _, fun j _ => by simp [List.getD_eq_getElem?_getD, List.getElem?_replicate]; split <;> rfl, by simpa using Own.rep w 91 a.length (w32 0), by go_grown⟩, by simp [val], hq0⟩
  case round =>
    obtain ⟨k, S, r, hk, rfl, rfl, hst⟩ := hrel
    rcases Nat.eq_zero_or_pos k with h0 | h0
    · subst h0
      have h1 := hst.st.out
      have hP : ShortPost w a q (.returned (.tuple #[.slice (some ⟨w.heap.size, 0, none⟩) S.length S.length, .int .u32 (r : Nat)])) wr := ⟨_, S, r, rfl, hst.st.out, hst.st.ws, Lib.hid (by simpa using hst.eq), hst.lt, by rw [hst.st.len]; omega, hst.st.bel, Nat.le_refl _⟩
      rw [hst.st.len] at hP
      have hr : r < 4294967296 := by have := hst.lt; omega
      have HP := Lib.hid hP
      clear hP hst
      go_wp2
      go_ret2
      exact HP.out
    · obtain ⟨m, rfl⟩ : ∃ m, k = m + 1 := ⟨k - 1, by omega⟩
      rw [show (((m + 1 : Nat) : Int) - 1) = (m : Int) by omega]
      obtain ⟨g1, o1, rfl, hg1, hc1⟩ := (hA.below hst.st.bel).w32at (i := m) (by omega)
      have ba := hwa.get (i := m) (by omega)
      have hsc := hst.st.cell (j := m) (by omega)
      have hsf := hst.st.out.frozen m
      have hr : r < 4294967296 := by have := hst.lt; omega
      have hor := or_word r a[m] hr ba
      have hdg := short_dig hst.lt ba
      have hrl := hst.lt
      obtain ⟨d, hd⟩ : ∃ d, d = (r * 4294967296 + a[m]) / q := ⟨_, rfl⟩
      obtain ⟨e, he⟩ : ∃ e, e = (r * 4294967296 + a[m]) % q := ⟨_, rfl⟩
      have hst2 := fun (s : Int) (hs : s = (d : Int)) => hst.step rfl (Nat.le_refl _) (by omega) hq1 (d := d) (r' := e) (by rw [getD_lt (by omega)]; exact hd) (by rw [getD_lt (by omega)]; exact he) hs (by rw [hd]; exact hdg)
      have HS := Lib.hid hst2
      rw [← hd] at hdg
      have hd1 : ((r : Int) * 4294967296 + (a[m] : Int)) / (q : Int) = (d : Int) := by rw [hd, Int.natCast_ediv, Int.natCast_add, Int.natCast_mul]; rfl
      have he1 : ((r : Int) * 4294967296 + (a[m] : Int)) % (q : Int) = (e : Int) := by rw [he, Int.natCast_emod, Int.natCast_add, Int.natCast_mul]; rfl
      have hel : e < q := by rw [he]; exact Nat.mod_lt _ hq0
      clear hst hst2 hd he
      go_wp2
      go_roundw
      case rel => exact ⟨m, _, e, by omega, by go_num, u64_of he1, HS.out _ (by omega)⟩
      case measure => simp [intOf] <;> omega

theorem shift_top {S a : List Nat} {k D : Nat} (hv : val S = val (a.take k) * D) (hwa : Ws a) (hk : k < S.length) (hD : 0 < D) : S.getD k 0 < D := by
  have h1 := val_split S k (by omega)
  have h2 := val_drop_cons (l := S) (j := k) hk
  have h3 := lt_pow_of_length (hwa.take k) (k := k) (by rw [List.length_take]; omega)
  have h4 : val (a.take k) * D < 4294967296 ^ k * D := Nat.mul_lt_mul_of_pos_right h3 hD
  have h5 : 4294967296 ^ k * S.getD k 0 ≤ 4294967296 ^ k * val (S.drop k) := Nat.mul_le_mul_left _ (by omega)
  have h6 : 4294967296 ^ k * S.getD k 0 < 4294967296 ^ k * D := by omega
  exact Nat.lt_of_mul_lt_mul_left h6
theorem or_shift {g x y s : Nat} (hs : s < 32) (hg : g < 2 ^ s) (hx : x = y * 2 ^ s) : bits BinOp.or IntKind.u32 (g : Int) ((x : Int) % 4294967296) = ((g + x % 4294967296 : Nat) : Int) ∧ g + x % 4294967296 < 4294967296 := by
  have h32 : 2 ^ s ≤ 2 ^ 32 := Nat.pow_le_pow_right (by decide) (by omega)
  have hd : 2 ^ s ∣ 2 ^ 32 := Nat.pow_dvd_pow 2 (by omega)
  have h1 : x % 4294967296 % 2 ^ s = 0 := by
    rw [show (4294967296 : Nat) = 2 ^ 32 from rfl, Nat.mod_mod_of_dvd _ hd, hx, Nat.mul_mod_left]
  have hlt : g < 2 ^ 32 := by omega
  have h2 := nat_join s (x % 4294967296) g h1 hg
  have h3 : x % 4294967296 ||| g < 2 ^ 32 := Nat.or_lt_two_pow (by omega) hlt
  have h := u32_or_nat g (x % 4294967296) (by omega) (by omega)
  rw [Nat.or_comm, h2, Int.natCast_emod] at h
  rw [h2] at h3
  refine ⟨?_, by omega⟩
  rw [Nat.add_comm g]
  exact h
theorem shl_lim {x s : Nat} (hx : x < 4294967296) (hs : s < 32) : x * 2 ^ s < 9223372036854775808 := by
  have h1 : 2 ^ s ≤ 2 ^ 31 := Nat.pow_le_pow_right (by decide) (by omega)
  have h2 : x * 2 ^ s ≤ 4294967295 * 2 ^ 31 := Nat.mul_le_mul (by omega) h1
  omega
def ShiftPost (w : World) (a : List Nat) (D : Nat) (e : Ending) (w' : World) : Prop :=
  ∃ g ds, e = .returned (.slice (some ⟨g, 0, none⟩) ds.length ds.length) ∧ Own w' g 91 (ds.map w32) ∧ Ws ds ∧ Hid (val ds = val a * D) ∧ Hid (ds.length = a.length + 1) ∧ Below w.heap.size w w' ∧ w.heap.size ≤ g

set_option maxHeartbeats 1000000 in
theorem shifted_any {A : Option Addr} {c s : Nat} {a : List Nat} {w : World} (hA : Sl w w.heap.size A (a.map w32)) (hwa : Ws a) (ha : a.length ≤ 1048576) (hs : s < 32) :
    Calls Tryz.prog 91 #[.slice A a.length c, .int .i64 (s : Nat)] w (ShiftPost w a (2 ^ s)) := by
  have hmk := make_u32 (a.length + 1) (by omega) ((a.length : Int) + 1) (by omega)
  go_enter Tryz.func91, Tryz.ntmps91
  go_wp2
  go_loopw [15] (fun i wr => ∃ (k : Nat) (S : List Nat), k ≤ a.length ∧ i = .int .i64 (k : Nat) ∧ Hid (val S = val (a.take k) * 2 ^ s) ∧ MulSt w w.heap.size w.heap.size (a.length + 1) (k + 1) S wr)
    (fun i _ => a.length - (intOf i).toNat)
  case atStart => exact ⟨0, List.replicate (a.length + 1) 0, by omega, rfl, Lib.hid (by rw [val_replicate]; simp [val]), by simp, Ws.replicate _, fun j _ => by simp [List.getD_eq_getElem?_getD, List.getElem?_replicate]; split <;> rfl, by simpa using Own.rep w 91 (a.length + 1) (w32 0), by go_grown⟩
  case round =>
    obtain ⟨k, S, hk, rfl, hv, hst⟩ := hrel
    by_cases hlt : k < a.length
    · obtain ⟨g1, o1, rfl, hg1, hc1⟩ := (hA.below hst.bel).w32at (i := k) hlt
      have ba := hwa.get hlt
      have hsc := hst.cell (j := k) (by omega)
      have hsf := hst.out.frozen k
      have hsc1 := hst.cell (j := k + 1) (by omega)
      have hsf1 := hst.out.frozen (k + 1)
      have hz0 := hst.zero (k + 1) (Nat.le_refl _)
      rw [hz0] at hsc1
      obtain ⟨x, hx⟩ : ∃ x, x = a[k] * 2 ^ s := ⟨_, rfl⟩
      obtain ⟨g, hg⟩ : ∃ g, g = S.getD k 0 := ⟨_, rfl⟩
      have hgl := shift_top hv.out hwa (by rw [hst.len]; omega) (Nat.pow_pos (by decide))
      rw [← hg] at hsc hgl
      obtain ⟨hor, hol⟩ := or_shift hs hgl hx
      have hxl := shl_lim ba hs
      rw [← hx] at hxl
      have hx1 : (a[k] : Int) * 2 ^ s = (x : Int) := by rw [hx, Int.natCast_mul, Int.natCast_pow]; rfl
      have hq : x / 4294967296 < 4294967296 := by omega
      have hn := fun (s1 s2 : Int) (h1 : s1 = ((g + x % 4294967296 : Nat) : Int)) (h2 : s2 = ((x / 4294967296 : Nat) : Int)) => (hst.set_ (z' := k + 2) (Nat.le_refl _) (j := k) (x := g + x % 4294967296) hol (by omega) (by omega) h1).set_ (z' := k + 1 + 1) (Nat.le_refl _) (j := k + 1) (x := x / 4294967296) hq (by omega) (by omega) h2
      have hm := shift_step (a := a) (by rw [hst.len]; omega) hz0 hv.out (x := x) (by rw [getD_lt hlt]; exact hx) (lo := g + x % 4294967296) (by rw [hg])
      have HN := Lib.hid hn
      have HM := Lib.hid hm
      clear hn hm hx hg hz0
      go_wp2
      go_roundw
      case rel => exact ⟨k + 1, _, by omega, by go_num, HM, HN.out _ _ (by omega) (by omega)⟩
      case measure => simp [intOf] <;> omega
    · obtain rfl : k = a.length := by omega
      have HP : ShiftPost w a (2 ^ s) (.returned (.slice (some ⟨w.heap.size, 0, none⟩) S.length S.length)) wr := ⟨_, S, rfl, hst.out, hst.ws, Lib.hid (by rw [hv.out, List.take_of_length_le (Nat.le_refl _)]), Lib.hid hst.len, hst.bel, Nat.le_refl _⟩
      rw [hst.len] at HP
      have HQ := Lib.hid HP
      clear HP hst hv
      go_wp2
      go_ret
      exact HQ.out
end Go.Proofs.YtfbbnphpapmpcaaGreatDoor

/-
  (second part)
-/
namespace Go.Proofs.YtfbbnphpapmpcaaGreatDoor
open Go.RowKit Mag

theorem win_cell {U ds : List Nat} {j k : Nat} (hk : ds.length = k) (hj : j + k < U.length) : ((U.take j ++ ds ++ U.drop (j + k)).map w32)[j + k]? = some (.int .u32 (U.getD (j + k) 0 : Nat)) := by
  rw [List.getElem?_map, List.getElem?_append_right (by simp; omega)]
  rw [show j + k - (U.take j ++ ds).length = 0 by simp; omega, List.getElem?_drop, Nat.add_zero, getD_lt hj, List.getElem?_eq_getElem hj]; rfl
theorem win_set {U ds : List Nat} {j k : Nat} (hk : ds.length = k) (hj : j + k < U.length) (x : Nat) : ((U.take j ++ ds ++ U.drop (j + k)).map w32).set (j + k) (w32 x) = (U.take j ++ (ds ++ [x]) ++ U.drop (j + (k + 1))).map w32 := by
  rw [← List.map_set, List.set_append_right _ _ (by simp; omega), show j + k - (U.take j ++ ds).length = 0 by simp; omega, List.drop_eq_getElem_cons hj, List.set_cons_zero]
  simp [Nat.add_assoc]
structure TakeSt (w : World) (g : Nat) (U v : List Nat) (j q k : Nat) (ds : List Nat) (c bw : Nat) (wr : World) : Prop where
  len : ds.length = k
  ws : Ws ds
  c1 : c < 4294967296
  b1 : bw ≤ 1
  c0 : v.length < k → c = 0
  eq : val ds + q * val (v.take k) = val ((U.drop j).take k) + (c + bw) * 4294967296 ^ k
  out : Own wr g 91 ((U.take j ++ ds ++ U.drop (j + k)).map w32)
  grw : w.grownBy wr (some g)
theorem TakeSt.step {w : World} {g : Nat} {U v : List Nat} {j q k : Nat} {ds : List Nat} {c bw : Nat} {wr : World} (h : TakeSt w g U v j q k ds c bw wr) (hj : j + k < U.length)
    {p t2 b2 : Nat} {s : Int} (hp : p = c + q * v.getD k 0) (hp2 : p / 4294967296 < 4294967296) (hb : b2 ≤ 1) (he : t2 % 4294967296 + p % 4294967296 + bw = U.getD (j + k) 0 + b2 * 4294967296) (hs : s = ((t2 % 4294967296 : Nat) : Int)) :
    TakeSt w g U v j q (k + 1) (ds ++ [t2 % 4294967296]) (p / 4294967296) b2 (wr.setCell ⟨g, j + k, none⟩ (.int .u32 s)) := by
  subst hs
  refine ⟨by simp [h.len], h.ws.append (Ws.cons (by omega) Ws.nil), hp2, hb, fun hv => ?_, take_step h.len h.eq ?_, ?_, grown_trans' h.grw (grown_set _ _ _ _)⟩
  · rw [getD_ge (by omega), Nat.mul_zero, Nat.add_zero] at hp
    have := h.c1
    omega
  · rw [getD_drop']
    have : p = 4294967296 * (p / 4294967296) + p % 4294967296 := by omega
    generalize q * v.getD k 0 = z at *
    omega
  · have := h.out.set_ (j + k) (w32 (t2 % 4294967296))
    rw [win_set h.len hj] at this
    exact this
theorem take_arith {u pl bw : Nat} (hu : u < 4294967296) (hpl : pl < 4294967296) (hbw : bw ≤ 1) : ∃ t1 t2 : Nat, IntKind.u64.wrap ((u : Int) - (pl : Int)) = (t1 : Int) ∧ IntKind.u64.wrap ((t1 : Int) - (bw : Int)) = (t2 : Int) ∧
    t2 / 9223372036854775808 ≤ 1 ∧ t2 % 4294967296 + pl + bw = u + t2 / 9223372036854775808 * 4294967296 := by
  refine ⟨((IntKind.u64.wrap ((u : Int) - (pl : Int)))).toNat, (IntKind.u64.wrap (((IntKind.u64.wrap ((u : Int) - (pl : Int)))).toNat - (bw : Int))).toNat, ?_, ?_, ?_, ?_⟩
  · rw [IntKind.wrap_u64]; omega
  · rw [IntKind.wrap_u64, IntKind.wrap_u64]; omega
  · rw [IntKind.wrap_u64, IntKind.wrap_u64]; omega
  · rw [IntKind.wrap_u64, IntKind.wrap_u64]; omega
def TakePost (w : World) (g : Nat) (U v : List Nat) (j m q : Nat) (e : Ending) (w' : World) : Prop :=
  ∃ ds bw, e = .returned (.bool (decide (0 < bw))) ∧ bw ≤ 1 ∧ Ws ds ∧ Hid (ds.length = m) ∧ Hid (val ds + q * val v = val ((U.drop j).take m) + bw * 4294967296 ^ m) ∧ Own w' g 91 ((U.take j ++ ds ++ U.drop (j + m)).map w32) ∧ w.grownBy w' (some g)

set_option maxHeartbeats 1000000 in
theorem take_any {g gv j m n q c d : Nat} {U v : List Nat} {w : World} (hU : Own w g 91 (U.map w32)) (hV : ∀ i (h : i < v.length), w.cell? ⟨gv, i, none⟩ = some (.int .u32 (v[i] : Nat))) (hne : gv ≠ g) (hgv : gv < w.heap.size)
    (hwu : Ws U) (hwv : Ws v) (hn : v.length = n) (hm : m = n + 1) (hj : j + m ≤ U.length) (hU2 : U.length ≤ 1048576) (hq : q < 4294967296) :
    Calls Tryz.prog 92 #[.slice (some ⟨g, j, none⟩) m c, .slice (some ⟨gv, 0, none⟩) n d, .int .u64 (q : Nat)] w (TakePost w g U v j m q) := by
  have HN := Lib.hid hn
  have HM := Lib.hid hm
  have hm1 : n < m := by omega
  have hm2 : m ≤ n + 1 := by omega
  clear hn hm
  go_enter Tryz.func92, Tryz.ntmps92
  go_wp2
  go_loopw [14, 7, 8] (fun i ca bo wr => ∃ (k : Nat) (ds : List Nat) (cc bw : Nat), k ≤ m ∧ i = .int .i64 (k : Nat) ∧ ca = .int .u64 (cc : Nat) ∧ bo = .int .u64 (bw : Nat) ∧ TakeSt w g U v j q k ds cc bw wr)
    (fun i _ _ _ => m - (intOf i).toNat)
  case atStart => exact ⟨0, [], 0, 0, by omega, rfl, rfl, rfl, rfl, Ws.nil, by omega, by omega, by omega, by simp [val], by simpa using hU, World.grownBy.refl _ _⟩
  case round =>
    obtain ⟨k, ds, cc, bw, hk, rfl, rfl, rfl, hst⟩ := hrel
    have hc1 := hst.c1
    have hb1 := hst.b1
    by_cases hlt : k < m
    · have hjk : j + k < U.length := by omega
      have hsc : wr.cell? ⟨g, j + k, none⟩ = some (.int .u32 (U.getD (j + k) 0 : Nat)) := by rw [hst.out.cell, win_cell hst.len hjk]
      have hsf := hst.out.frozen (j + k)
      have hu := hwu.getD (j + k)
      obtain ⟨u, hu0⟩ : ∃ u, u = U.getD (j + k) 0 := ⟨_, rfl⟩
      rw [← hu0] at hsc hu
      rcases Nat.lt_or_ge k n with hkn | hkn
      · have hkv : k < v.length := by rw [HN.out]; exact hkn
        have hvc : wr.cell? ⟨gv, k, none⟩ = some (.int .u32 (v[k] : Nat)) := by
          rw [World.cell?_of_block (hst.grw.block gv hgv (by intro e; injection e with e; exact hne e))]
          exact hV k hkv
        have hvb := hwv.get hkv
        have hml := mul_lim hq hvb
        obtain ⟨p, hp⟩ : ∃ p, p = cc + q * v[k] := ⟨_, rfl⟩
        have hpi : (cc : Int) + (q : Int) * (v[k] : Int) = (p : Int) := by rw [hp, Int.natCast_add, Int.natCast_mul]
        have hqv0 : (0 : Int) ≤ (q : Int) * (v[k] : Int) := Int.mul_nonneg (by omega) (by omega)
        have hqv1 : (q : Int) * (v[k] : Int) ≤ 18446744065119617025 := by
          have e : ((q * v[k] : Nat) : Int) = (q : Int) * (v[k] : Int) := Int.natCast_mul _ _
          omega
        have hp64 : p < 18446744073709551616 := by omega
        have hpl : p % 4294967296 < 4294967296 := by omega
        obtain ⟨pl, hpl0⟩ : ∃ pl, pl = p % 4294967296 := ⟨_, rfl⟩
        rw [← hpl0] at hpl
        have hpl1 : (p : Int) % 4294967296 = (pl : Int) := by omega
        obtain ⟨t1, t2, ht1, ht2, hb2, hta⟩ := take_arith hu hpl hb1
        have hn := fun (s : Int) (hs : s = ((t2 % 4294967296 : Nat) : Int)) => hst.step hjk (p := p) (t2 := t2) (by rw [getD_lt hkv]; exact hp) (by omega) hb2 (by rw [← hpl0, ← hu0]; exact hta) hs
        have HS := Lib.hid hn
        have HB := Lib.hid hb2
        clear hn hta hp hpl0 hu0 hst hb2
        go_wp2
        go_roundw
        case rel => exact ⟨k + 1, _, p / 4294967296, t2 / 9223372036854775808, by omega, by go_num, u64_of (by omega), u64_of (by omega), HS.out _ (by omega)⟩
        case measure => simp [intOf] <;> omega
      · have hkv : v.length ≤ k := by rw [HN.out]; exact hkn
        obtain ⟨p, hp0⟩ : ∃ p, p = cc := ⟨_, rfl⟩
        have hp : p = cc + q * 0 := by omega
        have hp64 : p < 18446744073709551616 := by omega
        subst hp0
        obtain ⟨t1, t2, ht1, ht2, hb2, hta⟩ := take_arith hu hc1 hb1
        have hn := fun (s : Int) (hs : s = ((t2 % 4294967296 : Nat) : Int)) => hst.step hjk (p := p) (t2 := t2) (by rw [getD_ge hkv]; exact hp) (by omega) hb2 (by rw [Nat.mod_eq_of_lt hc1, ← hu0]; exact hta) hs
        have HS := Lib.hid hn
        have HB := Lib.hid hb2
        clear hn hta hp hu0 hst hb2
        go_wp2
        go_roundw
        case rel => exact ⟨k + 1, _, p / 4294967296, t2 / 9223372036854775808, by omega, by go_num, u64_of (by omega), u64_of (by omega), HS.out _ (by omega)⟩
        case measure => simp [intOf] <;> omega
    · obtain rfl : k = m := by omega
      have hcc : cc = 0 := hst.c0 (by rw [HN.out]; exact hm1)
      have he := hst.eq
      rw [hcc, Nat.zero_add, List.take_of_length_le (by rw [HN.out]; omega : v.length ≤ k)] at he
      have HP : TakePost w g U v j k q (.returned (.bool (decide (0 < bw)))) wr := ⟨ds, bw, rfl, hb1, hst.ws, Lib.hid hst.len, Lib.hid he, hst.out, hst.grw⟩
      have HQ := Lib.hid HP
      clear HP hst he hcc
      go_wp2
      go_ret
      simpa using HQ.out
end Go.Proofs.YtfbbnphpapmpcaaGreatDoor

/-
  (second part)
-/
namespace Go.Proofs.YtfbbnphpapmpcaaGreatDoor
open Go.RowKit Mag

theorem lead_fits {t : Nat} (h0 : 0 < t) (h1 : t < 4294967296) : Lib.bitLen t ≤ 32 ∧ 1 ≤ Lib.bitLen t ∧ 2147483648 ≤ t * 2 ^ (32 - Lib.bitLen t) ∧ t * 2 ^ (32 - Lib.bitLen t) < 4294967296 := by
  obtain ⟨b1, b2, b3⟩ := Lib.bitLenAux_bounds 64 t (by omega) (by omega)
  change 1 ≤ Lib.bitLen t at b1
  change 2 ^ (Lib.bitLen t - 1) ≤ t at b2
  change t < 2 ^ Lib.bitLen t at b3
  have h32 : Lib.bitLen t ≤ 32 := by
    rcases Nat.lt_or_ge 32 (Lib.bitLen t) with h | h
    · have : 2 ^ 32 ≤ 2 ^ (Lib.bitLen t - 1) := Nat.pow_le_pow_right (by decide) (by omega)
      omega
    · exact h
  have hp : 0 < 2 ^ (32 - Lib.bitLen t) := Nat.pow_pos (by decide)
  refine ⟨h32, b1, ?_, ?_⟩
  · have h2 : 2 ^ (Lib.bitLen t - 1) * 2 ^ (32 - Lib.bitLen t) ≤ t * 2 ^ (32 - Lib.bitLen t) := Nat.mul_le_mul_right _ b2
    rw [← Nat.pow_add, show Lib.bitLen t - 1 + (32 - Lib.bitLen t) = 31 by omega] at h2
    omega
  · have h2 : t * 2 ^ (32 - Lib.bitLen t) < 2 ^ Lib.bitLen t * 2 ^ (32 - Lib.bitLen t) := Nat.mul_lt_mul_of_pos_right b3 hp
    rw [← Nat.pow_add, show Lib.bitLen t + (32 - Lib.bitLen t) = 32 by omega] at h2
    omega

def DivPost (w : World) (a b : List Nat) (e : Ending) (w' : World) : Prop :=
  ∃ A1 c1 A2 c2 q r, e = .returned (.tuple #[.slice A1 (List.length q) c1, .slice A2 (List.length r) c2]) ∧ MagIs w' A1 q c1 ∧ MagIs w' A2 r c2 ∧ Hid (val q = val a / val b) ∧ Hid (val r = val a % val b) ∧ Below w.heap.size w w'
theorem MagIs.nil_ (w : World) : MagIs w none [] 0 := ⟨Sl.nil_, Ws.nil, Nz.nil, by simp, by unfold maxLen; omega⟩

set_option maxRecDepth 100000 in
set_option maxHeartbeats 400000 in
theorem divide_lt {A B : Option Addr} {c d : Nat} {a b : List Nat} {w : World} (ha : MagIs w A a c) (hb : MagIs w B b d) (hlt : val a < val b) :
    Calls Tryz.prog 63 #[.slice A a.length c, .slice B b.length d] w (DivPost w a b) := by
  have hcmp : cmpI (val a) (val b) < 0 := by rw [cmpI_lt (by omega)]; omega
  have HP : ∀ n, DivPost w a b (.returned (.tuple #[.slice none 0 0, .slice A a.length c])) (w.drewN n) := fun n => ⟨none, 0, A, c, [], a, rfl, (MagIs.nil_ w).drewN n, ha.drewN n, Lib.hid (by rw [Nat.div_eq_of_lt hlt]; rfl), Lib.hid (Nat.mod_eq_of_lt hlt).symm, below_drewN' (Below.refl _ _) n⟩
  have HQ := Lib.hid HP
  clear HP
  go_enter Tryz.func63, Tryz.ntmps63
  go_wp2_with fail
  go_step3
  go_wp2_with fail
  refine (compare_any hb ha).mono ?_
  rintro e w1 ⟨rfl, nd, rfl⟩
  go_wp2
  rw [Exit.noGoto_ret]
  go_ret2
  exact HQ.out nd

theorem div_by {a q r p : Nat} (h : a = q * p + r) (hr : r < p) : q = a / p ∧ r = a % p := by
  subst h
  constructor
  · rw [Nat.add_comm, Nat.add_mul_div_right _ _ (by omega), Nat.div_eq_of_lt hr, Nat.zero_add]
  · rw [Nat.add_comm, Nat.add_mul_mod_self_right, Nat.mod_eq_of_lt hr]

set_option maxRecDepth 100000 in
set_option maxHeartbeats 400000 in
theorem divide_one {A B : Option Addr} {c d : Nat} {a b : List Nat} {w : World} (ha : MagIs w A a c) (hb : MagIs w B b d) (hge : val b ≤ val a) (h1 : b.length = 1) (hal : a.length ≤ 1048576) :
    Calls Tryz.prog 63 #[.slice A a.length c, .slice B b.length d] w (DivPost w a b) := by
  have hcmp : ¬ cmpI (val a) (val b) < 0 := by unfold cmpI; split <;> (try split) <;> omega
  obtain ⟨p, rfl⟩ : ∃ p, b = [p] := by
    match b, h1 with
    | [p], _ => exact ⟨p, rfl⟩
  have hp0 : 0 < p := by have := hb.nz.pos (by simp); simpa [val] using this
  have hp1 : p < 4294967296 := hb.ws.head
  obtain ⟨g, o, rfl, hg, hc⟩ := hb.sl.w32at (i := 0) (by simp)
  have hc' : w.cell? ⟨g, o, none⟩ = some (.int .u32 (p : Nat)) := hc
  clear hc h1
  simp only [List.length_cons, List.length_nil, Nat.zero_add]
  go_enter Tryz.func63, Tryz.ntmps63
  go_wp2_with fail
  go_step3
  go_wp2_with fail
  refine (compare_any (a := a) (b := [p]) hb ha).mono ?_
  rintro e w1 ⟨rfl, nd, rfl⟩
  go_wp2_with fail
  refine (short_any (q := p) (ha.drewN nd).sl ha.ws hal hp0 hp1).mono ?_
  rintro e w2 ⟨g2, ds, r, rfl, h11, h12, h13, h14, h15, h16, h17⟩
  have hdl : ds.length ≤ maxLen := by unfold maxLen; omega
  go_wp2_with fail
  refine (normal_any _ _ ds _ (h11.sl h11.lt) (Nat.le_refl _) hdl).mono ?_
  rintro e w3 ⟨k, hk, rfl, rfl, hnz, hval⟩
  have HV := Lib.hid hval
  clear hval
  go_wp2_with fail
  refine (normal_any (some ⟨w2.heap.size, 0, none⟩) 1 [r] _ ((Own.new w2 91 [w32 r]).sl (by simp)) (by simp) (by unfold maxLen; omega)).mono ?_
  rintro e w4 ⟨k4, hk4, rfl, rfl, hnz4, hval4⟩
  have hB : Below w.heap.size w (w2.alloc (.cells #[.int .u32 (r : Nat)] 91)) := (show Below w.heap.size w w2 from (below_drewN' (Below.refl _ _) nd).trans h16).alloc (h16.size) _
  have h2 : Below w2.heap.size w2 (w2.alloc (.cells #[.int .u32 (r : Nat)] 91)) := (Below.refl _ _).alloc (Nat.le_refl _) _
  have hr32 : r < 4294967296 := by omega
  have hw1 : Ws [r] := Ws.cons hr32 Ws.nil
  have m1 : MagIs (w2.alloc (.cells #[.int .u32 (r : Nat)] 91)) (some ⟨g2, 0, none⟩) (ds.take k) ds.length := ⟨by rw [List.map_take]; exact (((h11.sl h11.lt).on h2).take k), h12.take k, hnz, by rw [List.length_take]; omega, hdl⟩
  have m2 : MagIs (w2.alloc (.cells #[.int .u32 (r : Nat)] 91)) (some ⟨w2.heap.size, 0, none⟩) ([r].take k4) 1 := ⟨by rw [List.map_take]; exact (((Own.new w2 91 [w32 r]).sl (by simp)).take k4), hw1.take k4, hnz4, by rw [List.length_take]; simp; omega, by unfold maxLen; omega⟩
  obtain ⟨e1, e2⟩ := div_by h13.out h14
  have HP : DivPost w a [p] (.returned (.tuple #[.slice (some ⟨g2, 0, none⟩) (ds.take k).length ds.length, .slice (some ⟨w2.heap.size, 0, none⟩) ([r].take k4).length 1])) _ := ⟨_, _, _, _, _, _, rfl, m1, m2, Lib.hid (by rw [HV.out, e1]; simp [val]), Lib.hid (by rw [hval4]; simp [val]; exact e2), hB⟩
  rw [List.length_take, List.length_take, Nat.min_eq_left hk, Nat.min_eq_left hk4] at HP
  have HQ := Lib.hid HP
  clear HP m1 m2 e1 e2 hval4 h13
  go_wp2
  rw [Exit.noGoto_ret]
  go_ret2
  exact HQ.out
end Go.Proofs.YtfbbnphpapmpcaaGreatDoor
