/-
  Contracts of package wide: carrier, sum.
-/
import Derived.Test.YthafhbogpfggjaaGreatDoorW2
namespace Go.Proofs.YthafhbogpfggjaaGreatDoor
open Go.RowKit Mag


def CarrierPost (w : World) (e : Ending) (w' : World) : Prop :=
  e = .returned (.func (.func 196) #[] #[.pointer (some ⟨w.heap.size, 0, none⟩)]) ∧ w.alloc (.cells [Value.int .u64 0].toArray 122) = w'
set_option maxHeartbeats 400000 in
theorem carrier_any (w : World) : Calls Tryz.prog 162 #[] w (CarrierPost w) := by
  go_enter Tryz.func162, Tryz.ntmps162
  go_wp2
  go_ret
  exact ⟨rfl, rfl⟩

def CarryPost (w : World) (g : Nat) (s : Int) (e : Ending) (w' : World) : Prop :=
  e = .returned (.int .u32 (s % 4294967296)) ∧ Own w' g 122 [.int .u64 (s / 4294967296)] ∧ w.grownBy w' (some g)
set_option maxHeartbeats 400000 in
theorem carry_any (g : Nat) (c v : Int) (w : World) (hO : Own w g 122 [.int .u64 c]) (h0 : 0 ≤ c) (h1 : 0 ≤ v) (h2 : c + v ≤ 18446744073709551615) :
    Calls Tryz.prog 196 #[.int .u64 v, .pointer (some ⟨g, 0, none⟩)] w (CarryPost w g (c + v)) := by
  have hc : w.cell? ⟨g, 0, none⟩ = some (.int .u64 c) := hO.cell 0
  have hf : w.frozen? ⟨g, 0, none⟩ = false := hO.frozen 0
  go_enter Tryz.func196, Tryz.ntmps196
  go_wp2
  go_ret
  exact ⟨rfl, (hO.set_ 0 _).set_ 0 _, grown_trans' (grown_set _ _ _ _) (grown_set _ _ _ _)⟩

theorem u32_info : (Tryz.prog.info? 153).map (fun i => (i.zero, i.size, i.bytes)) = some (some (.int .u32 0), 1, 4) := by kernel_rfl
theorem make_u32 (n : Nat) (hn : n ≤ 1099511627776) (m : Int) (hm : m = (n : Int)) (u : World) :
    (Instr.makeSlice 27 (.int .i64 m) (.int .i64 m)).run Tryz.prog u = .ok (.slice (some ⟨u.heap.size, 0, none⟩) n n) (u.alloc (.cells (List.replicate n (w32 0)).toArray 153)) := by
  obtain ⟨i0, hi, hz0, hz1, hz2⟩ := info_parts u32_info
  exact run_make1 _ _ i0 _ Tryz.underlying27 hi hz0 hz1 rfl (by rw [hz2]; decide) n hn m hm u

def SumPost (w : World) (a b : List Nat) (e : Ending) (w' : World) : Prop :=
  ∃ g ds, e = .returned (.slice (some ⟨g, 0, none⟩) ds.length ds.length) ∧ Own w' g 153 (ds.map w32) ∧ Ws ds ∧ Hid (val ds = val a + val b) ∧ ds.length ≤ max a.length b.length + 1 ∧ Below w.heap.size w w' ∧ w.heap.size ≤ g

/-- The state at a round's head. -/
structure SumSt (w : World) (B go gc n : Nat) (a b : List Nat) (k : Nat) (ds : List Nat) (cy : Nat) (wr : World) : Prop where
  len : ds.length = k
  ws : Ws ds
  cy1 : cy ≤ 1
  eq : val ds + cy * 4294967296 ^ k = val (a.take k) + val (b.take k)
  out : Own wr go 153 ((ds ++ List.replicate (n - k) 0).map w32)
  car : Own wr gc 122 [.int .u64 (cy : Nat)]
  bel : Below B w wr
theorem SumSt.cell {w : World} {B go gc n : Nat} {a b : List Nat} {k : Nat} {ds : List Nat} {cy : Nat} {wr w1 : World} (h : SumSt w B go gc n a b k ds cy wr) (hk : k < n) (hne : go ≠ gc) (hg : wr.grownBy w1 (some gc)) :
    w1.cell? ⟨go, k, none⟩ = some (w32 0) ∧ w1.frozen? ⟨go, k, none⟩ = false := by
  have hO := h.out.grown hg (by intro e; injection e; omega)
  exact ⟨by rw [hO.cell, mid_cell h.len (by omega)], hO.frozen k⟩
theorem SumSt.step {w : World} {B go gc n : Nat} {a b : List Nat} {k : Nat} {ds : List Nat} {cy : Nat} {wr w1 : World} (h : SumSt w B go gc n a b k ds cy wr) (hk : k < n) (hne : go ≠ gc) (hwa : Ws a) (hwb : Ws b)
    {s : Int} (hs : s = ((cy + (a.getD k 0 + b.getD k 0) : Nat) : Int)) (hc : Own w1 gc 122 [.int .u64 (s / 4294967296)]) (hg : wr.grownBy w1 (some gc)) (hB : B ≤ go) (hB' : B ≤ gc) (hBw : B ≤ w.heap.size) :
    SumSt w B go gc n a b (k + 1) (ds ++ [(cy + (a.getD k 0 + b.getD k 0)) % 4294967296]) ((cy + (a.getD k 0 + b.getD k 0)) / 4294967296) (w1.setCell ⟨go, k, none⟩ (.int .u32 (s % 4294967296))) := by
  subst hs
  have hO := h.out.grown hg (by intro e; injection e; omega)
  have hst := sum_step (i := k) (c := cy) hwa hwb h.len h.cy1 h.eq
  refine ⟨by simp [h.len], h.ws.append (Ws.cons (by omega) Ws.nil), hst.1, hst.2, ?_, ?_, (below_grown h.bel hg hB' (by have := h.bel.size; omega)).setCell hB _⟩
  · have := hO.set_ k (w32 ((cy + (a.getD k 0 + b.getD k 0)) % 4294967296))
    rw [mid_set h.len (by omega)] at this
    rw [show n - (k + 1) = n - k - 1 by omega]
    exact this
  · exact Own.far (p := ⟨go, k, none⟩) hc (fun e => hne e.symm) _

set_option maxHeartbeats 1000000 in
theorem sum_ge {A B : Option Addr} {c d : Nat} {a b : List Nat} {w : World} (hA : Sl w w.heap.size A (a.map w32)) (hB : Sl w w.heap.size B (b.map w32)) (hwa : Ws a) (hwb : Ws b) (hl : b.length ≤ a.length) (hb : a.length ≤ 1048576) :
    Calls Tryz.prog 117 #[.slice A a.length c, .slice B b.length d] w (SumPost w a b) := by
  have hmk := make_u32 (a.length + 1) (by omega) ((a.length : Int) + 1) (by omega)
  go_enter Tryz.func117, Tryz.ntmps117
  go_wp2_with (go_at_call 162; refine (carrier_any _).mono ?_; rintro e w1 ⟨rfl, rfl⟩)
  go_loopw [23] (fun i wr => ∃ (k : Nat) (ds : List Nat) (cy : Nat), k ≤ a.length + 1 ∧ i = .int .i64 k ∧ SumSt w w.heap.size w.heap.size (w.heap.size + 1) (a.length + 1) a b k ds cy wr)
    (fun i _ => a.length + 1 - (intOf i).toNat)
  case atStart => exact ⟨0, [], 0, by omega, rfl, rfl, Ws.nil, by omega, by simp [val], by simpa using (Own.rep w 153 (a.length + 1) (w32 0)).alloc _, by simpa using Own.new (w.alloc _) 122 [.int .u64 0], by go_grown⟩
  case round =>
    obtain ⟨k, ds, cy, hk, rfl, hst⟩ := hrel
    have hga := hwa.getD k
    have hgb := hwb.getD k
    have hcy := hst.cy1
    by_cases hlt : k < a.length + 1
    · rcases Nat.lt_or_ge k a.length with ha | ha
      · obtain ⟨g1, o1, rfl, hg1, hc1⟩ := (hA.below hst.bel).w32at (i := k) ha
        have ea := getD_lt ha
        have HEA := Lib.hid ea
        clear ea
        have ba := hwa.get ha
        rcases Nat.lt_or_ge k b.length with hbk | hbk
        · obtain ⟨g2, o2, rfl, hg2, hc2⟩ := (hB.below hst.bel).w32at (i := k) hbk
          have HEB := Lib.hid (getD_lt hbk)
          have bb := hwb.get hbk
          go_wp2_with fail
          refine (carry_any _ _ _ _ hst.car (by omega) (by omega) (by omega)).mono ?_
          rintro e w1 ⟨rfl, hcar, hg⟩
          obtain ⟨k1, k2⟩ := hst.cell hlt (by omega) hg
          have hnx := hst.step hlt (by omega) hwa hwb (by rw [HEA.out, HEB.out]; omega) hcar hg (Nat.le_refl _) (by omega) (Nat.le_refl _)
          have HN := Lib.hid hnx
          clear hnx hcar
          go_wp2
          go_roundw
          case rel => exact ⟨k + 1, _, _, by omega, by go_num, HN.out⟩
          case measure => simp [intOf] <;> omega
        · skip
          have HEB := Lib.hid (getD_ge hbk)
          go_wp2_with fail
          refine (carry_any _ _ _ _ hst.car (by omega) (by omega) (by omega)).mono ?_
          rintro e w1 ⟨rfl, hcar, hg⟩
          obtain ⟨k1, k2⟩ := hst.cell hlt (by omega) hg
          have hnx := hst.step hlt (by omega) hwa hwb (by rw [HEA.out, HEB.out]; omega) hcar hg (Nat.le_refl _) (by omega) (Nat.le_refl _)
          have HN := Lib.hid hnx
          clear hnx hcar
          go_wp2
          go_roundw
          case rel => exact ⟨k + 1, _, _, by omega, by go_num, HN.out⟩
          case measure => simp [intOf] <;> omega
      · have HEA := Lib.hid (getD_ge ha)
        have hbk : b.length ≤ k := by omega
        have HEB := Lib.hid (getD_ge hbk)
        go_wp2_with fail
        refine (carry_any _ _ _ _ hst.car (by omega) (by omega) (by omega)).mono ?_
        rintro e w1 ⟨rfl, hcar, hg⟩
        obtain ⟨k1, k2⟩ := hst.cell hlt (by omega) hg
        have hnx := hst.step hlt (by omega) hwa hwb (by rw [HEA.out, HEB.out]; omega) hcar hg (Nat.le_refl _) (by omega) (Nat.le_refl _)
        have HN := Lib.hid hnx
        clear hnx hcar
        go_wp2
        go_roundw
        case rel => exact ⟨k + 1, _, _, by omega, by go_num, HN.out⟩
        case measure => simp [intOf] <;> omega

    · obtain rfl : k = a.length + 1 := by omega
      have hO := hst.out
      rw [Nat.sub_self, List.replicate_zero, List.append_nil] at hO
      have hlen := hst.len
      have hz : ds.length = max a.length b.length + 1 := by omega
      have hv := sum_end hwa hwb hl rfl hst.eq
      have hw := hst.ws
      have hbel := hst.bel
      have HP : SumPost w a b (.returned (.slice (some ⟨w.heap.size, 0, none⟩) ds.length ds.length)) wr := ⟨_, ds, rfl, hO, hw, Lib.hid hv, by omega, hbel, Nat.le_refl _⟩
      rw [hlen] at HP
      clear hz hv hlen hO hw hst
      go_wp2
      go_ret
      exact HP
set_option maxHeartbeats 1000000 in
theorem sum_lt {A B : Option Addr} {c d : Nat} {a b : List Nat} {w : World} (hA : Sl w w.heap.size A (a.map w32)) (hB : Sl w w.heap.size B (b.map w32)) (hwa : Ws a) (hwb : Ws b) (hl' : b.length < a.length) (hb : a.length ≤ 1048576) :
    Calls Tryz.prog 117 #[.slice B b.length d, .slice A a.length c] w (SumPost w a b) := by
  have hl : b.length ≤ a.length := by omega
  have hmk := make_u32 (a.length + 1) (by omega) ((a.length : Int) + 1) (by omega)
  go_enter Tryz.func117, Tryz.ntmps117
  go_wp2_with (go_at_call 162; refine (carrier_any _).mono ?_; rintro e w1 ⟨rfl, rfl⟩)
  go_loopw [23] (fun i wr => ∃ (k : Nat) (ds : List Nat) (cy : Nat), k ≤ a.length + 1 ∧ i = .int .i64 k ∧ SumSt w w.heap.size w.heap.size (w.heap.size + 1) (a.length + 1) a b k ds cy wr)
    (fun i _ => a.length + 1 - (intOf i).toNat)
  case atStart => exact ⟨0, [], 0, by omega, rfl, rfl, Ws.nil, by omega, by simp [val], by simpa using (Own.rep w 153 (a.length + 1) (w32 0)).alloc _, by simpa using Own.new (w.alloc _) 122 [.int .u64 0], by go_grown⟩
  case round =>
    obtain ⟨k, ds, cy, hk, rfl, hst⟩ := hrel
    have hga := hwa.getD k
    have hgb := hwb.getD k
    have hcy := hst.cy1
    by_cases hlt : k < a.length + 1
    · rcases Nat.lt_or_ge k a.length with ha | ha
      · obtain ⟨g1, o1, rfl, hg1, hc1⟩ := (hA.below hst.bel).w32at (i := k) ha
        have ea := getD_lt ha
        have HEA := Lib.hid ea
        clear ea
        have ba := hwa.get ha
        rcases Nat.lt_or_ge k b.length with hbk | hbk
        · obtain ⟨g2, o2, rfl, hg2, hc2⟩ := (hB.below hst.bel).w32at (i := k) hbk
          have HEB := Lib.hid (getD_lt hbk)
          have bb := hwb.get hbk
          go_wp2_with fail
          refine (carry_any _ _ _ _ hst.car (by omega) (by omega) (by omega)).mono ?_
          rintro e w1 ⟨rfl, hcar, hg⟩
          obtain ⟨k1, k2⟩ := hst.cell hlt (by omega) hg
          have hnx := hst.step hlt (by omega) hwa hwb (by rw [HEA.out, HEB.out]; omega) hcar hg (Nat.le_refl _) (by omega) (Nat.le_refl _)
          have HN := Lib.hid hnx
          clear hnx hcar
          go_wp2
          go_roundw
          case rel => exact ⟨k + 1, _, _, by omega, by go_num, HN.out⟩
          case measure => simp [intOf] <;> omega
        · skip
          have HEB := Lib.hid (getD_ge hbk)
          go_wp2_with fail
          refine (carry_any _ _ _ _ hst.car (by omega) (by omega) (by omega)).mono ?_
          rintro e w1 ⟨rfl, hcar, hg⟩
          obtain ⟨k1, k2⟩ := hst.cell hlt (by omega) hg
          have hnx := hst.step hlt (by omega) hwa hwb (by rw [HEA.out, HEB.out]; omega) hcar hg (Nat.le_refl _) (by omega) (Nat.le_refl _)
          have HN := Lib.hid hnx
          clear hnx hcar
          go_wp2
          go_roundw
          case rel => exact ⟨k + 1, _, _, by omega, by go_num, HN.out⟩
          case measure => simp [intOf] <;> omega
      · have HEA := Lib.hid (getD_ge ha)
        have hbk : b.length ≤ k := by omega
        have HEB := Lib.hid (getD_ge hbk)
        go_wp2_with fail
        refine (carry_any _ _ _ _ hst.car (by omega) (by omega) (by omega)).mono ?_
        rintro e w1 ⟨rfl, hcar, hg⟩
        obtain ⟨k1, k2⟩ := hst.cell hlt (by omega) hg
        have hnx := hst.step hlt (by omega) hwa hwb (by rw [HEA.out, HEB.out]; omega) hcar hg (Nat.le_refl _) (by omega) (Nat.le_refl _)
        have HN := Lib.hid hnx
        clear hnx hcar
        go_wp2
        go_roundw
        case rel => exact ⟨k + 1, _, _, by omega, by go_num, HN.out⟩
        case measure => simp [intOf] <;> omega

    · obtain rfl : k = a.length + 1 := by omega
      have hO := hst.out
      rw [Nat.sub_self, List.replicate_zero, List.append_nil] at hO
      have hlen := hst.len
      have hz : ds.length = max a.length b.length + 1 := by omega
      have hv := sum_end hwa hwb hl rfl hst.eq
      have hw := hst.ws
      have hbel := hst.bel
      have HP : SumPost w a b (.returned (.slice (some ⟨w.heap.size, 0, none⟩) ds.length ds.length)) wr := ⟨_, ds, rfl, hO, hw, Lib.hid hv, by omega, hbel, Nat.le_refl _⟩
      rw [hlen] at HP
      clear hz hv hlen hO hw hst
      go_wp2
      go_ret
      exact HP

theorem SumPost.comm {w w' : World} {a b : List Nat} {e : Ending} (h : SumPost w a b e w') : SumPost w b a e w' := by
  obtain ⟨g, ds, h1, h2, h3, h4, h5, h6⟩ := h
  exact ⟨g, ds, h1, h2, h3, Lib.hid (h4.out.trans (Nat.add_comm _ _)), by omega, h6⟩
theorem sum_any {A B : Option Addr} {c d : Nat} {a b : List Nat} {w : World} (hA : Sl w w.heap.size A (a.map w32)) (hB : Sl w w.heap.size B (b.map w32)) (hwa : Ws a) (hwb : Ws b) (ha : a.length ≤ 1048576) (hb : b.length ≤ 1048576) :
    Calls Tryz.prog 117 #[.slice A a.length c, .slice B b.length d] w (SumPost w a b) := by
  rcases Nat.lt_or_ge a.length b.length with h | h
  · exact (sum_lt hB hA hwb hwa h hb).mono fun _ _ h => h.comm
  · exact sum_ge hA hB hwa hwb h ha
end Go.Proofs.YthafhbogpfggjaaGreatDoor
