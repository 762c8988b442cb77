/-
  Contracts of package wide: Sub, times, Mul.
-/
import Derived.Test.YthafhbogpfggjaaGreatDoorW5
namespace Go.Proofs.YthafhbogpfggjaaGreatDoor
open Go.RowKit Mag

theorem WI.of_drew {w : World} {neg : Bool} {A : Option Addr} {n c : Nat} {z : Int} (h : WI w neg A n c z) : WI w.drew neg A n c z := by
  obtain ⟨l, h1, h2, h3, h4⟩ := h
  exact ⟨l, h1, h2, ⟨h3.sl, h3.ws, h3.nz, h3.cap, h3.mx⟩, h4⟩

set_option maxRecDepth 100000 in
set_option maxHeartbeats 400000 in
theorem Sub_any {n1 n2 : Bool} {A B : Option Addr} {k m c d : Nat} {x y : Int} {w : World} (hx : WI w n1 A k c x) (hy : WI w n2 B m d y) :
    Calls Tryz.prog 49 #[.agg #[.bool n1, .slice A k c], .agg #[.bool n2, .slice B m d]] w (IntErr w (clip (x - y)) (lim (x - y))) := by
  go_enter Tryz.func49, Tryz.ntmps49
  go_wp2_with fail
  have hB := Box3.mk_ w (.bool n1) (.slice A k c) (.bool n2) (.slice B m d) (.bool false) (.slice none 0 0) 29 29 29
  generalize (((w.alloc (.cells #[.bool n1, .slice A k c] 29)).alloc (.cells #[.bool n2, .slice B m d] 29)).alloc (.cells #[.bool false, .slice none 0 0] 29)) = W at hB ⊢
  have hx' := hx.on hB.bel
  have hy' := hy.on hB.bel
  go_region_held3 (fun w' => w'.cell? ⟨w.heap.size, 0, none⟩ = some (.bool n1) ∧ w'.cell? ⟨w.heap.size, 1, none⟩ = some (.slice A k c) ∧ w'.cell? ⟨w.heap.size + 1, 0, none⟩ = some (.bool n2) ∧ w'.cell? ⟨w.heap.size + 1, 1, none⟩ = some (.slice B m d)) (first | exact ⟨hB.x0, hB.x1, hB.y0, hB.y1⟩ | exact ⟨hB1.x0, hB1.x1, hB1.y0, hB1.y1⟩ | exact ⟨hB2.x0, hB2.x1, hB2.y0, hB2.y1⟩ | exact ⟨(hB2.put _ _).x0, (hB2.put _ _).x1, (hB2.put _ _).y0, (hB2.put _ _).y1⟩)
    (first
      | (go_at_call 56; refine (neg_any (by exact WI.of_drew hy')).mono ?_; rintro e w1 ⟨ng, B2, m2, d2, rfl, hb1, hng⟩; have hB1 := hB.on (W' := w1) (Below.of_drew hb1); have hx1 := hx'.on (Below.of_drew hb1))
      | (go_at_call 48; refine (Add_any hx1 hng).mono ?_; rintro e w2 ⟨neg, A2, k2, c2, rfl, hb2, hwi⟩; have hB2 := hB1.on (W' := w2) hb2; have z0 := hB2.z0; have z1 := hB2.z1; have f0 := hB2.fz 0; have f1 := hB2.fz 1))
  have hwi2 := (hwi.put z0 (fun n => by simp) (.bool neg)).put (p := ⟨w.heap.size + 1 + 1, 1, none⟩) (v := .slice none 0 0) (by simp [go_sem, z1]) (fun n => by simp) (.slice A2 k2 c2)
  have HP : IntErr w (clip (x + -y)) (lim (x + -y)) (.returned (.tuple #[.agg #[.bool neg, .slice A2 k2 c2], .int .i64 (lim (x + -y))])) _ := ⟨_, _, _, _, rfl, (hB2.put (.bool neg) (.slice A2 k2 c2)).bel, hwi2⟩
  have HQ := Lib.hid HP
  have q0 := (hB2.put (.bool neg) (.slice A2 k2 c2)).z0
  have q1 := (hB2.put (.bool neg) (.slice A2 k2 c2)).z1
  clear HP hwi hwi2
  generalize (w2.setCell ⟨w.heap.size + 1 + 1, 0, none⟩ (.bool neg)).setCell ⟨w.heap.size + 1 + 1, 1, none⟩ (.slice A2 k2 c2) = W3 at HQ q0 q1 ⊢
  go_wp2
  rw [Int.sub_eq_add_neg]
  exact bodyPost_ret (v := .tuple #[.agg #[.bool neg, .slice A2 k2 c2], .int .i64 (lim (x + -y))]) (by simp [results, Tryz.results49, go_sem, q0, q1]) rfl HQ.out

/-- The state of a product: S is what the result holds. -/
structure MulSt (w : World) (B go : Nat) (n : Nat) (z : Nat) (S : List Nat) (wr : World) : Prop where
  len : S.length = n
  ws : Ws S
  zero : ∀ j, z ≤ j → S.getD j 0 = 0
  out : Own wr go 153 (S.map w32)
  bel : Below B w wr
theorem MulSt.cell {w : World} {B go n z : Nat} {S : List Nat} {wr : World} (h : MulSt w B go n z S wr) {j : Nat} (hj : j < n) : wr.cell? ⟨go, j, none⟩ = some (.int .u32 (S.getD j 0 : Nat)) := by
  have hl := h.len
  rw [h.out.cell, List.getElem?_map, List.getElem?_eq_getElem (by omega), getD_lt (by omega)]; rfl
theorem MulSt.set_ {w : World} {B go n z : Nat} {S : List Nat} {wr : World} (h : MulSt w B go n z S wr) (hB : B ≤ go) {j x z' : Nat} (hx : x < 4294967296) (hz : z ≤ z') (hj : j < z') {s : Int} (hs : s = (x : Int)) :
    MulSt w B go n z' (S.set j x) (wr.setCell ⟨go, j, none⟩ (.int .u32 s)) := by
  subst hs
  refine ⟨by simp [h.len], h.ws.set j hx, fun i hi => ?_, ?_, h.bel.setCell hB _⟩
  · have := h.zero i (by omega)
    rw [List.getD_eq_getElem?_getD, List.getElem?_set_ne (by omega), ← List.getD_eq_getElem?_getD, this]
  · have := h.out.set_ j (w32 x)
    rw [← List.map_set] at this
    exact this
def TimesPost (w : World) (a b : List Nat) (e : Ending) (w' : World) : Prop :=
  ∃ g ds, e = .returned (.slice (some ⟨g, 0, none⟩) ds.length ds.length) ∧ Own w' g 153 (ds.map w32) ∧ Ws ds ∧ Hid (val ds = val a * val b) ∧ ds.length ≤ a.length + b.length ∧ Below w.heap.size w w' ∧ w.heap.size ≤ g
theorem i64_of {x : Nat} {z : Int} (h : z = (x : Int)) : Value.int .i64 z = .int .i64 (x : Int) := by rw [h]
theorem u64_of {x : Nat} {z : Int} (h : z = (x : Int)) : Value.int .u64 z = .int .u64 (x : Int) := by rw [h]
theorem mul_lim {x y : Nat} (hx : x < 4294967296) (hy : y < 4294967296) : x * y ≤ 18446744065119617025 := by
  have : x * y ≤ 4294967295 * 4294967295 := Nat.mul_le_mul (by omega) (by omega)
  omega

set_option maxHeartbeats 1000000 in
theorem times_any {A B : Option Addr} {c d : Nat} {a b : List Nat} {w : World} (hA : Sl w w.heap.size A (a.map w32)) (hB : Sl w w.heap.size B (b.map w32)) (hwa : Ws a) (hwb : Ws b) (ha : a.length ≤ 1048576) (hb : b.length ≤ 1048576) :
    Calls Tryz.prog 118 #[.slice A a.length c, .slice B b.length d] w (TimesPost w a b) := by
  have hmk := make_u32 (a.length + b.length) (by omega) ((a.length : Int) + (b.length : Int)) (by omega)
  go_enter Tryz.func118, Tryz.ntmps118
  go_wp2
  go_loopw [20] (fun i wr => ∃ (k : Nat) (S : List Nat), k ≤ a.length ∧ i = .int .i64 k ∧ Hid (val S = val (a.take k) * val b) ∧ MulSt w w.heap.size w.heap.size (a.length + b.length) (k + b.length) S wr)
    (fun i _ => a.length - (intOf i).toNat)
  case atStart => exact ⟨0, List.replicate (a.length + b.length) 0, by omega, rfl, Lib.hid (by simp [val, val_replicate]), by simp, Ws.replicate _, fun j _ => by simp [List.getD_eq_getElem?_getD, List.getElem?_replicate]; split <;> rfl, by simpa using Own.rep w 153 (a.length + b.length) (w32 0), by go_grown⟩
  case round =>
    obtain ⟨i, S, hi, rfl, hv, hst⟩ := hrel
    by_cases hlt : i < a.length
    · obtain ⟨g1, o1, rfl, hg1, hc1⟩ := (hA.below hst.bel).w32at (i := i) hlt
      have ba := hwa.get hlt
      have HEA := Lib.hid (getD_lt hlt)
      obtain ⟨wo, rfl⟩ : ∃ wo : World, wo = wr := ⟨_, rfl⟩
      go_wp2
      go_loopw [27, 8] (fun ki cy wi => ∃ (k : Nat) (S2 : List Nat) (cc : Nat), k ≤ b.length ∧ ki = .int .i64 k ∧ cy = .int .u64 (cc : Nat) ∧ cc < 4294967296 ∧
          Hid (val S2 + cc * 4294967296 ^ (i + k) = val S + a[i] * val (b.take k) * 4294967296 ^ i) ∧ MulSt w w.heap.size w.heap.size (a.length + b.length) (i + b.length) S2 wi)
        (fun ki _ _ => b.length - (intOf ki).toNat)
      case atStart => exact ⟨0, S, 0, by omega, rfl, rfl, by omega, Lib.hid (by simp [val]), hst⟩
      case round =>
        obtain ⟨k, S2, cc, hk, rfl, rfl, hcc, hv2, hs2⟩ := hrel
        by_cases hkl : k < b.length
        · obtain ⟨g2, o2, rfl, hg2, hc2⟩ := (hB.below hs2.bel).w32at (i := k) hkl
          have bb := hwb.get hkl
          have HEB := Lib.hid (getD_lt hkl)
          have hj : i + k < a.length + b.length := by omega
          have hsc := hs2.cell hj
          have hsf := hs2.out.frozen (i + k)
          have hsw := hs2.ws.getD (i + k)
          have hp0 : (0 : Int) ≤ (a[i] : Int) * (b[k] : Int) := Int.mul_nonneg (by omega) (by omega)
          have hp1 : (a[i] : Int) * (b[k] : Int) ≤ 18446744065119617025 := by
            have := mul_lim ba bb
            have e : ((a[i] * b[k] : Nat) : Int) = (a[i] : Int) * (b[k] : Int) := Int.natCast_mul _ _
            omega
          obtain ⟨s, hs⟩ : ∃ s, s = S2.getD (i + k) 0 := ⟨_, rfl⟩
          rw [← hs] at hsc hsw
          have HS := Lib.hid hs
          clear hs
          have e : ((a[i] * b[k] : Nat) : Int) = (a[i] : Int) * (b[k] : Int) := Int.natCast_mul _ _
          have hn := fun (s' : Int) (h' : s' = ((a[i] * b[k] + s + cc) % 4294967296 : Nat)) => hs2.set_ (Nat.le_refl _) (j := i + k) (x := (a[i] * b[k] + s + cc) % 4294967296) (by omega) (Nat.le_refl _) (by omega) h'
          have hm := mul_step (b := b) (by rw [hs2.len]; exact hj) hv2.out (t := a[i] * b[k] + s + cc) (by rw [HEB.out, HS.out])
          have HN := Lib.hid hn
          have HM := Lib.hid hm
          have HE := Lib.hid e
          clear hn hm e
          go_wp2
          go_roundw
          case rel =>
            have e := HE.out
            have hq := mul_lim ba bb
            exact ⟨k + 1, _, (a[i] * b[k] + s + cc) / 4294967296, by omega, by go_num, u64_of (by omega), by omega, HM, HN.out _ (by omega)⟩
          case measure => simp [intOf] <;> omega
        · obtain rfl : k = b.length := by omega
          have hj : i + b.length < a.length + b.length := by omega
          have hsc := hs2.cell hj
          have hz0 := hs2.zero (i + b.length) (Nat.le_refl _)
          rw [hz0] at hsc
          have hsf := hs2.out.frozen (i + b.length)
          have hn := fun (s' : Int) (h' : s' = (cc : Nat)) => hs2.set_ (z' := i + 1 + b.length) (Nat.le_refl _) (j := i + b.length) (x := cc) hcc (by omega) (by omega) h'
          have hm := mul_row (by rw [hs2.len]; exact hj) hz0 rfl hv2.out
          have hm2 : val (S2.set (i + b.length) cc) = val (a.take (i + 1)) * val b := by
            rw [hm, hv.out, val_take_succ, HEA.out]; grind
          have HN := Lib.hid hn
          have HM := Lib.hid hm2
          clear hn hm hm2 hz0
          go_wp2
          go_roundw
          case rel => exact ⟨i + 1, _, by omega, by go_num, HM, HN.out _ (by omega)⟩
          case measure => simp [intOf] <;> omega
    · obtain rfl : i = a.length := by omega
      have HP : TimesPost w a b (.returned (.slice (some ⟨w.heap.size, 0, none⟩) S.length S.length)) wr := ⟨_, S, rfl, hst.out, hst.ws, Lib.hid (by rw [hv.out, List.take_of_length_le (Nat.le_refl _)]), by rw [hst.len]; omega, hst.bel, Nat.le_refl _⟩
      rw [hst.len] at HP
      have HQ := Lib.hid HP
      clear HP hst hv
      go_wp2
      go_ret
      exact HQ.out

theorem sgn_mul (p q : Bool) (x y : Nat) : sgn p x * sgn q y = sgn (p != q) (x * y) := by
  unfold sgn
  cases p <;> cases q <;> simp [Int.mul_neg, Int.neg_mul]

set_option maxRecDepth 100000 in
set_option maxHeartbeats 400000 in
theorem Mul_any {n1 n2 : Bool} {A B : Option Addr} {k m c d : Nat} {x y : Int} {w : World} (hx : WI w n1 A k c x) (hy : WI w n2 B m d y) :
    Calls Tryz.prog 43 #[.agg #[.bool n1, .slice A k c], .agg #[.bool n2, .slice B m d]] w (IntErr w (clip (x * y)) (lim (x * y))) := by
  obtain ⟨a, rfl, h5, ha, hna, rfl⟩ := hx.open_
  obtain ⟨b, rfl, h6, hb, hnb, rfl⟩ := hy.open_
  clear hx hy
  have hz := sgn_mul n1 n2 (val a) (val b)
  have HZ := Lib.hid hz
  clear hz
  go_enter Tryz.func43, Tryz.ntmps43
  go_wp2_with fail
  have hB := Box3.mk_ w (.bool n1) (.slice A a.length c) (.bool n2) (.slice B b.length d) (.bool false) (.slice none 0 0) 29 29 29
  generalize (((w.alloc (.cells #[.bool n1, .slice A a.length c] 29)).alloc (.cells #[.bool n2, .slice B b.length d] 29)).alloc (.cells #[.bool false, .slice none 0 0] 29)) = W at hB ⊢
  have ha' := ha.on hB.bel
  have hb' := hb.on hB.bel
  go_region_held3 (fun w' => w'.cell? ⟨w.heap.size, 0, none⟩ = some (.bool n1) ∧ w'.cell? ⟨w.heap.size, 1, none⟩ = some (.slice A a.length c) ∧ w'.cell? ⟨w.heap.size + 1, 0, none⟩ = some (.bool n2) ∧ w'.cell? ⟨w.heap.size + 1, 1, none⟩ = some (.slice B b.length d)) (first | exact ⟨hB.x0, hB.x1, hB.y0, hB.y1⟩ | exact ⟨hB1.x0, hB1.x1, hB1.y0, hB1.y1⟩ | exact ⟨hB2.x0, hB2.x1, hB2.y0, hB2.y1⟩ | exact ⟨(hB2.put _ _).x0, (hB2.put _ _).x1, (hB2.put _ _).y0, (hB2.put _ _).y1⟩)
    (first
      | (go_at_call 118; refine (times_any (by exact ha'.sl) (by exact hb'.sl) ha.ws hb.ws (by omega) (by omega)).mono ?_; rintro e w1 ⟨g, ds, rfl, h11, h12, h13, h14, h15, h16⟩; have hB1 := hB.on (W' := w1) (Below.of_drew h15))
      | (go_at_call 119; refine (signed_lim _ _ _ ds _ (sgn n1 (val a) * sgn n2 (val b)) (h11.sl h11.lt) (Nat.le_refl _) (by unfold maxLen; omega) h12 (by rw [HZ.out, h13.out]; cases n1 <;> cases n2 <;> rfl)).mono ?_; rintro e w2 ⟨neg, A2, k2, c2, rfl, hb2, hwi⟩; have hB2 := hB1.on (W' := w2) hb2; have z0 := hB2.z0; have z1 := hB2.z1; have f0 := hB2.fz 0; have f1 := hB2.fz 1))
  have hwi2 := (hwi.put z0 (fun n => by simp) (.bool neg)).put (p := ⟨w.heap.size + 1 + 1, 1, none⟩) (v := .slice none 0 0) (by simp [go_sem, z1]) (fun n => by simp) (.slice A2 k2 c2)
  have HP : IntErr w (clip (sgn n1 (val a) * sgn n2 (val b))) (lim (sgn n1 (val a) * sgn n2 (val b))) (.returned (.tuple #[.agg #[.bool neg, .slice A2 k2 c2], .int .i64 (lim (sgn n1 (val a) * sgn n2 (val b)))])) _ := ⟨_, _, _, _, rfl, (hB2.put (.bool neg) (.slice A2 k2 c2)).bel, hwi2⟩
  have HQ := Lib.hid HP
  have q0 := (hB2.put (.bool neg) (.slice A2 k2 c2)).z0
  have q1 := (hB2.put (.bool neg) (.slice A2 k2 c2)).z1
  clear HP hwi hwi2
  generalize (w2.setCell ⟨w.heap.size + 1 + 1, 0, none⟩ (.bool neg)).setCell ⟨w.heap.size + 1 + 1, 1, none⟩ (.slice A2 k2 c2) = W3 at HQ q0 q1 ⊢
  go_wp2
  exact bodyPost_ret (v := .tuple #[.agg #[.bool neg, .slice A2 k2 c2], .int .i64 (lim (sgn n1 (val a) * sgn n2 (val b)))]) (by simp [results, Tryz.results43, go_sem, q0, q1]) rfl HQ.out
end Go.Proofs.YthafhbogpfggjaaGreatDoor
