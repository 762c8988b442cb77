/-
  Contracts of package wide: carrier, sum.
-/
import Derived.Test.YtfbbnphpapmpcaaGreatDoorT1
namespace Go.Proofs.YtfbbnphpapmpcaaGreatDoor
open Go.RowKit Mag


def CarrierPost (w : World) (e : Ending) (w' : World) : Prop :=
  e = .returned (.func (.func 117) #[] #[.pointer (some ⟨w.heap.size, 0, none⟩)]) ∧ w.alloc (.cells [Value.int .u64 0].toArray 89) = w'
set_option maxHeartbeats 400000 in
theorem carrier_any (w : World) : Calls Tryz.prog 93 #[] w (CarrierPost w) := by
  go_enter Tryz.func93, Tryz.ntmps93
  go_wp2
  go_ret
  exact ⟨rfl, rfl⟩

def CarryPost (w : World) (g : Nat) (s : Int) (e : Ending) (w' : World) : Prop :=
  e = .returned (.int .u32 (s % 4294967296)) ∧ Own w' g 89 [.int .u64 (s / 4294967296)] ∧ w.grownBy w' (some g)
set_option maxHeartbeats 400000 in
theorem carry_any (g : Nat) (c v : Int) (w : World) (hO : Own w g 89 [.int .u64 c]) (h0 : 0 ≤ c) (h1 : 0 ≤ v) (h2 : c + v ≤ 18446744073709551615) :
    Calls Tryz.prog 117 #[.int .u64 v, .pointer (some ⟨g, 0, none⟩)] w (CarryPost w g (c + v)) := by
  have hc : w.cell? ⟨g, 0, none⟩ = some (.int .u64 c) := hO.cell 0
  have hf : w.frozen? ⟨g, 0, none⟩ = false := hO.frozen 0
  go_enter Tryz.func117, Tryz.ntmps117
  go_wp2
  go_ret
  exact ⟨rfl, (hO.set_ 0 _).set_ 0 _, grown_trans' (grown_set _ _ _ _) (grown_set _ _ _ _)⟩

theorem u32_info : (Tryz.prog.info? 91).map (fun i => (i.zero, i.size, i.bytes)) = some (some (.int .u32 0), 1, 4) := by kernel_rfl
theorem make_u32 (n : Nat) (hn : n ≤ 1099511627776) (m : Int) (hm : m = (n : Int)) (u : World) :
    (Instr.makeSlice 27 (.int .i64 m) (.int .i64 m)).run Tryz.prog u = .ok (.slice (some ⟨u.heap.size, 0, none⟩) n n) (u.alloc (.cells (List.replicate n (w32 0)).toArray 91)) := by
  obtain ⟨i0, hi, hz0, hz1, hz2⟩ := info_parts u32_info
  exact run_make1 _ _ i0 _ Tryz.underlying27 hi hz0 hz1 rfl (by rw [hz2]; decide) n hn m hm u

def SumPost (w : World) (a b : List Nat) (e : Ending) (w' : World) : Prop :=
  ∃ g ds, e = .returned (.slice (some ⟨g, 0, none⟩) ds.length ds.length) ∧ Own w' g 91 (ds.map w32) ∧ Ws ds ∧ Hid (val ds = val a + val b) ∧ ds.length ≤ max a.length b.length + 1 ∧ Below w.heap.size w w' ∧ w.heap.size ≤ g

/-- The state at a round's head. -/
structure SumSt (w : World) (B go gc n : Nat) (a b : List Nat) (k : Nat) (ds : List Nat) (cy : Nat) (wr : World) : Prop where
  len : ds.length = k
  ws : Ws ds
  cy1 : cy ≤ 1
  eq : val ds + cy * 4294967296 ^ k = val (a.take k) + val (b.take k)
  out : Own wr go 91 ((ds ++ List.replicate (n - k) 0).map w32)
  car : Own wr gc 89 [.int .u64 (cy : Nat)]
  bel : Below B w wr
theorem SumSt.cell {w : World} {B go gc n : Nat} {a b : List Nat} {k : Nat} {ds : List Nat} {cy : Nat} {wr w1 : World} (h : SumSt w B go gc n a b k ds cy wr) (hk : k < n) (hne : go ≠ gc) (hg : wr.grownBy w1 (some gc)) :
    w1.cell? ⟨go, k, none⟩ = some (w32 0) ∧ w1.frozen? ⟨go, k, none⟩ = false := by
  have hO := h.out.grown hg (by intro e; injection e; omega)
  exact ⟨by rw [hO.cell, mid_cell h.len (by omega)], hO.frozen k⟩
theorem SumSt.step {w : World} {B go gc n : Nat} {a b : List Nat} {k : Nat} {ds : List Nat} {cy : Nat} {wr w1 : World} (h : SumSt w B go gc n a b k ds cy wr) (hk : k < n) (hne : go ≠ gc) (hwa : Ws a) (hwb : Ws b)
    {s : Int} (hs : s = ((cy + (a.getD k 0 + b.getD k 0) : Nat) : Int)) (hc : Own w1 gc 89 [.int .u64 (s / 4294967296)]) (hg : wr.grownBy w1 (some gc)) (hB : B ≤ go) (hB' : B ≤ gc) (hBw : B ≤ w.heap.size) :
    SumSt w B go gc n a b (k + 1) (ds ++ [(cy + (a.getD k 0 + b.getD k 0)) % 4294967296]) ((cy + (a.getD k 0 + b.getD k 0)) / 4294967296) (w1.setCell ⟨go, k, none⟩ (.int .u32 (s % 4294967296))) := by
  subst hs
  have hO := h.out.grown hg (by intro e; injection e; omega)
  have hst := sum_step (i := k) (c := cy) hwa hwb h.len h.cy1 h.eq
  refine ⟨by simp [h.len], h.ws.append (Ws.cons (by omega) Ws.nil), hst.1, hst.2, ?_, ?_, (below_grown h.bel hg hB' (by have := h.bel.size; omega)).setCell hB _⟩
  · have := hO.set_ k (w32 ((cy + (a.getD k 0 + b.getD k 0)) % 4294967296))
    rw [mid_set h.len (by omega)] at this
    rw [show n - (k + 1) = n - k - 1 by omega]
    exact this
  · exact Own.far (p := ⟨go, k, none⟩) hc (fun e => hne e.symm) _

set_option maxHeartbeats 1000000 in
theorem sum_ge {A B : Option Addr} {c d : Nat} {a b : List Nat} {w : World} (hA : Sl w w.heap.size A (a.map w32)) (hB : Sl w w.heap.size B (b.map w32)) (hwa : Ws a) (hwb : Ws b) (hl : b.length ≤ a.length) (hb : a.length ≤ 1048576) :
    Calls Tryz.prog 64 #[.slice A a.length c, .slice B b.length d] w (SumPost w a b) := by
  have hmk := make_u32 (a.length + 1) (by omega) ((a.length : Int) + 1) (by omega)
  go_enter Tryz.func64, Tryz.ntmps64
  go_wp2_with (go_at_call 93; refine (carrier_any _).mono ?_; rintro e w1 ⟨rfl, rfl⟩)
  go_loopw [23] (fun i wr => ∃ (k : Nat) (ds : List Nat) (cy : Nat), k ≤ a.length + 1 ∧ i = .int .i64 k ∧ SumSt w w.heap.size w.heap.size (w.heap.size + 1) (a.length + 1) a b k ds cy wr)
    (fun i _ => a.length + 1 - (intOf i).toNat)
  case atStart => exact ⟨0, [], 0, by omega, rfl, rfl, Ws.nil, by omega, by simp [val], by simpa using (Own.rep w 91 (a.length + 1) (w32 0)).alloc _, by simpa using Own.new (w.alloc _) 89 [.int .u64 0], by go_grown⟩
  case round =>
    obtain ⟨k, ds, cy, hk, rfl, hst⟩ := hrel
    have hga := hwa.getD k
    have hgb := hwb.getD k
    have hcy := hst.cy1
    by_cases hlt : k < a.length + 1
    · rcases Nat.lt_or_ge k a.length with ha | ha
      · obtain ⟨g1, o1, rfl, hg1, hc1⟩ := (hA.below hst.bel).w32at (i := k) ha
        have ea := getD_lt ha
        have HEA := Lib.hid ea
        clear ea
        have ba := hwa.get ha
        rcases Nat.lt_or_ge k b.length with hbk | hbk
        · obtain ⟨g2, o2, rfl, hg2, hc2⟩ := (hB.below hst.bel).w32at (i := k) hbk
          have HEB := Lib.hid (getD_lt hbk)
          have bb := hwb.get hbk
          go_wp2_with fail
          refine (carry_any _ _ _ _ hst.car (by omega) (by omega) (by omega)).mono ?_
          rintro e w1 ⟨rfl, hcar, hg⟩
          obtain ⟨k1, k2⟩ := hst.cell hlt (by omega) hg
          have hnx := hst.step hlt (by omega) hwa hwb (by rw [HEA.out, HEB.out]; omega) hcar hg (Nat.le_refl _) (by omega) (Nat.le_refl _)
          have HN := Lib.hid hnx
          clear hnx hcar
          go_wp2
          go_roundw
          case rel => exact ⟨k + 1, _, _, by omega, by go_num, HN.out⟩
          case measure => simp [intOf] <;> omega
        · skip
          have HEB := Lib.hid (getD_ge hbk)
          go_wp2_with fail
          refine (carry_any _ _ _ _ hst.car (by omega) (by omega) (by omega)).mono ?_
          rintro e w1 ⟨rfl, hcar, hg⟩
          obtain ⟨k1, k2⟩ := hst.cell hlt (by omega) hg
          have hnx := hst.step hlt (by omega) hwa hwb (by rw [HEA.out, HEB.out]; omega) hcar hg (Nat.le_refl _) (by omega) (Nat.le_refl _)
          have HN := Lib.hid hnx
          clear hnx hcar
          go_wp2
          go_roundw
          case rel => exact ⟨k + 1, _, _, by omega, by go_num, HN.out⟩
          case measure => simp [intOf] <;> omega
      · have HEA := Lib.hid (getD_ge ha)
        have hbk : b.length ≤ k := by omega
        have HEB := Lib.hid (getD_ge hbk)
        go_wp2_with fail
        refine (carry_any _ _ _ _ hst.car (by omega) (by omega) (by omega)).mono ?_
        rintro e w1 ⟨rfl, hcar, hg⟩
        obtain ⟨k1, k2⟩ := hst.cell hlt (by omega) hg
        have hnx := hst.step hlt (by omega) hwa hwb (by rw [HEA.out, HEB.out]; omega) hcar hg (Nat.le_refl _) (by omega) (Nat.le_refl _)
        have HN := Lib.hid hnx
        clear hnx hcar
        go_wp2
        go_roundw
        case rel => exact ⟨k + 1, _, _, by omega, by go_num, HN.out⟩
        case measure => simp [intOf] <;> omega

    · obtain rfl : k = a.length + 1 := by omega
      have hO := hst.out
      rw [Nat.sub_self, List.replicate_zero, List.append_nil] at hO
      have hlen := hst.len
      have hz : ds.length = max a.length b.length + 1 := by omega
      have hv := sum_end hwa hwb hl rfl hst.eq
      have hw := hst.ws
      have hbel := hst.bel
      have HP : SumPost w a b (.returned (.slice (some ⟨w.heap.size, 0, none⟩) ds.length ds.length)) wr := ⟨_, ds, rfl, hO, hw, Lib.hid hv, by omega, hbel, Nat.le_refl _⟩
      rw [hlen] at HP
      clear hz hv hlen hO hw hst
      go_wp2
      go_ret
      exact HP
set_option maxHeartbeats 1000000 in
theorem sum_lt {A B : Option Addr} {c d : Nat} {a b : List Nat} {w : World} (hA : Sl w w.heap.size A (a.map w32)) (hB : Sl w w.heap.size B (b.map w32)) (hwa : Ws a) (hwb : Ws b) (hl' : b.length < a.length) (hb : a.length ≤ 1048576) :
    Calls Tryz.prog 64 #[.slice B b.length d, .slice A a.length c] w (SumPost w a b) := by
  have hl : b.length ≤ a.length := by omega
  have hmk := make_u32 (a.length + 1) (by omega) ((a.length : Int) + 1) (by omega)
  go_enter Tryz.func64, Tryz.ntmps64
  go_wp2_with (go_at_call 93; refine (carrier_any _).mono ?_; rintro e w1 ⟨rfl, rfl⟩)
  go_loopw [23] (fun i wr => ∃ (k : Nat) (ds : List Nat) (cy : Nat), k ≤ a.length + 1 ∧ i = .int .i64 k ∧ SumSt w w.heap.size w.heap.size (w.heap.size + 1) (a.length + 1) a b k ds cy wr)
    (fun i _ => a.length + 1 - (intOf i).toNat)
  case atStart => exact ⟨0, [], 0, by omega, rfl, rfl, Ws.nil, by omega, by simp [val], by simpa using (Own.rep w 91 (a.length + 1) (w32 0)).alloc _, by simpa using Own.new (w.alloc _) 89 [.int .u64 0], by go_grown⟩
  case round =>
    obtain ⟨k, ds, cy, hk, rfl, hst⟩ := hrel
    have hga := hwa.getD k
    have hgb := hwb.getD k
    have hcy := hst.cy1
    by_cases hlt : k < a.length + 1
    · rcases Nat.lt_or_ge k a.length with ha | ha
      · obtain ⟨g1, o1, rfl, hg1, hc1⟩ := (hA.below hst.bel).w32at (i := k) ha
        have ea := getD_lt ha
        have HEA := Lib.hid ea
        clear ea
        have ba := hwa.get ha
        rcases Nat.lt_or_ge k b.length with hbk | hbk
        · obtain ⟨g2, o2, rfl, hg2, hc2⟩ := (hB.below hst.bel).w32at (i := k) hbk
          have HEB := Lib.hid (getD_lt hbk)
          have bb := hwb.get hbk
          go_wp2_with fail
          refine (carry_any _ _ _ _ hst.car (by omega) (by omega) (by omega)).mono ?_
          rintro e w1 ⟨rfl, hcar, hg⟩
          obtain ⟨k1, k2⟩ := hst.cell hlt (by omega) hg
          have hnx := hst.step hlt (by omega) hwa hwb (by rw [HEA.out, HEB.out]; omega) hcar hg (Nat.le_refl _) (by omega) (Nat.le_refl _)
          have HN := Lib.hid hnx
          clear hnx hcar
          go_wp2
          go_roundw
          case rel => exact ⟨k + 1, _, _, by omega, by go_num, HN.out⟩
          case measure => simp [intOf] <;> omega
        · skip
          have HEB := Lib.hid (getD_ge hbk)
          go_wp2_with fail
          refine (carry_any _ _ _ _ hst.car (by omega) (by omega) (by omega)).mono ?_
          rintro e w1 ⟨rfl, hcar, hg⟩
          obtain ⟨k1, k2⟩ := hst.cell hlt (by omega) hg
          have hnx := hst.step hlt (by omega) hwa hwb (by rw [HEA.out, HEB.out]; omega) hcar hg (Nat.le_refl _) (by omega) (Nat.le_refl _)
          have HN := Lib.hid hnx
          clear hnx hcar
          go_wp2
          go_roundw
          case rel => exact ⟨k + 1, _, _, by omega, by go_num, HN.out⟩
          case measure => simp [intOf] <;> omega
      · have HEA := Lib.hid (getD_ge ha)
        have hbk : b.length ≤ k := by omega
        have HEB := Lib.hid (getD_ge hbk)
        go_wp2_with fail
        refine (carry_any _ _ _ _ hst.car (by omega) (by omega) (by omega)).mono ?_
        rintro e w1 ⟨rfl, hcar, hg⟩
        obtain ⟨k1, k2⟩ := hst.cell hlt (by omega) hg
        have hnx := hst.step hlt (by omega) hwa hwb (by rw [HEA.out, HEB.out]; omega) hcar hg (Nat.le_refl _) (by omega) (Nat.le_refl _)
        have HN := Lib.hid hnx
        clear hnx hcar
        go_wp2
        go_roundw
        case rel => exact ⟨k + 1, _, _, by omega, by go_num, HN.out⟩
        case measure => simp [intOf] <;> omega

    · obtain rfl : k = a.length + 1 := by omega
      have hO := hst.out
      rw [Nat.sub_self, List.replicate_zero, List.append_nil] at hO
      have hlen := hst.len
      have hz : ds.length = max a.length b.length + 1 := by omega
      have hv := sum_end hwa hwb hl rfl hst.eq
      have hw := hst.ws
      have hbel := hst.bel
      have HP : SumPost w a b (.returned (.slice (some ⟨w.heap.size, 0, none⟩) ds.length ds.length)) wr := ⟨_, ds, rfl, hO, hw, Lib.hid hv, by omega, hbel, Nat.le_refl _⟩
      rw [hlen] at HP
      clear hz hv hlen hO hw hst
      go_wp2
      go_ret
      exact HP

theorem SumPost.comm {w w' : World} {a b : List Nat} {e : Ending} (h : SumPost w a b e w') : SumPost w b a e w' := by
  obtain ⟨g, ds, h1, h2, h3, h4, h5, h6⟩ := h
  exact ⟨g, ds, h1, h2, h3, Lib.hid (h4.out.trans (Nat.add_comm _ _)), by omega, h6⟩
theorem sum_any {A B : Option Addr} {c d : Nat} {a b : List Nat} {w : World} (hA : Sl w w.heap.size A (a.map w32)) (hB : Sl w w.heap.size B (b.map w32)) (hwa : Ws a) (hwb : Ws b) (ha : a.length ≤ 1048576) (hb : b.length ≤ 1048576) :
    Calls Tryz.prog 64 #[.slice A a.length c, .slice B b.length d] w (SumPost w a b) := by
  rcases Nat.lt_or_ge a.length b.length with h | h
  · exact (sum_lt hB hA hwb hwa h hb).mono fun _ _ h => h.comm
  · exact sum_ge hA hB hwa hwb h ha
end Go.Proofs.YtfbbnphpapmpcaaGreatDoor

/-
  (second part)
-/
namespace Go.Proofs.YtfbbnphpapmpcaaGreatDoor
open Go.RowKit Mag

structure SubSt (w : World) (g : Nat) (a b : List Nat) (k : Nat) (ds : List Nat) (cy : Nat) (wr : World) : Prop where
  len : ds.length = k
  ws : Ws ds
  cy1 : cy ≤ 1
  eq : val ds + val (b.take k) = val (a.take k) + cy * 4294967296 ^ k
  out : Own wr g 91 ((ds ++ a.drop k).map w32)
  grw : w.grownBy wr (some g)
theorem SubSt.step {w : World} {g : Nat} {a b : List Nat} {k : Nat} {ds : List Nat} {cy : Nat} {wr : World} (h : SubSt w g a b k ds cy wr) (hk : k < a.length)
    {s : Int} {d c' : Nat} (hs : s = (d : Int)) (hd : d < 4294967296) (hc : c' ≤ 1) (he : d + (cy + b.getD k 0) = a.getD k 0 + c' * 4294967296) :
    SubSt w g a b (k + 1) (ds ++ [d]) c' (wr.setCell ⟨g, k, none⟩ (.int .u32 s)) := by
  subst hs
  refine ⟨by simp [h.len], h.ws.append (Ws.cons hd Ws.nil), hc, sub_step h.len h.eq he, ?_, grown_trans' h.grw (grown_set _ _ _ _)⟩
  have := h.out.set_ k (w32 d)
  rw [mid_set2 h.len hk] at this
  exact this
def SubPost (w : World) (g : Nat) (a b : List Nat) (e : Ending) (w' : World) : Prop :=
  ∃ ds r, e = .returned (.int .u32 r) ∧ Own w' g 91 (ds.map w32) ∧ Ws ds ∧ val ds = val a - val b ∧ ds.length = a.length ∧ w.grownBy w' (some g)

set_option maxHeartbeats 1000000 in
theorem subtract_any {B : Option Addr} {c d g : Nat} {a b : List Nat} {w : World} (hA : Own w g 91 (a.map w32)) (hB : Sl w g B (b.map w32)) (hwa : Ws a) (hwb : Ws b) (hl : b.length ≤ a.length) (hb : a.length ≤ 1048576) (hge : val b ≤ val a) :
    Calls Tryz.prog 94 #[.slice (some ⟨g, 0, none⟩) a.length c, .slice B b.length d] w (SubPost w g a b) := by
  go_enter Tryz.func94, Tryz.ntmps94
  go_wp2
  go_loopw [11, 5] (fun i bo wr => ∃ (k : Nat) (ds : List Nat) (cy : Nat), k ≤ a.length ∧ i = .int .i64 k ∧ bo = .int .u64 (cy : Nat) ∧ SubSt w g a b k ds cy wr)
    (fun i _ _ => a.length - (intOf i).toNat)
  case atStart => exact ⟨0, [], 0, by omega, rfl, rfl, rfl, Ws.nil, by omega, by simp [val], by simpa using hA, World.grownBy.refl _ _⟩
  case round =>
    obtain ⟨k, ds, cy, hk, rfl, rfl, hst⟩ := hrel
    have hcy := hst.cy1
    have hgb := hwb.getD k
    by_cases hlt : k < a.length
    · have ba := hwa.get hlt
      have HEA := Lib.hid (getD_lt hlt)
      have hcell : wr.cell? ⟨g, k, none⟩ = some (.int .u32 (a[k] : Nat)) := by rw [hst.out.cell, mid_cell2 hst.len hlt]; rfl
      have hfr := hst.out.frozen k
      rcases Nat.lt_or_ge k b.length with hbk | hbk
      · obtain ⟨g2, o2, rfl, hg2, hc2⟩ := (hB.keep (w' := wr) (fun p hp => World.cell?_of_block (hst.grw.block p.block (by have := hA.lt; omega) (fun e => by injection e; omega)))).w32at (i := k) hbk
        have HEB := Lib.hid (getD_lt hbk)
        have bb := hwb.get hbk
        rcases Nat.lt_or_ge (a[k]) (cy + b[k]) with hgt | hgt
        · skip
          have hn := fun (s : Int) (hs : s = ((a[k] + 4294967296 - (cy + b[k]) : Nat) : Int)) => hst.step hlt (d := a[k] + 4294967296 - (cy + b[k])) (c' := 1) hs (by omega) (by omega) (by rw [HEA.out, HEB.out]; omega)
          have HN := Lib.hid hn
          clear hn
          go_wp2
          go_roundw
          case rel => exact ⟨k + 1, _, 1, by omega, by go_num, rfl, HN.out _ (by omega)⟩
          case measure => simp [intOf] <;> omega
        · skip
          have hn := fun (s : Int) (hs : s = ((a[k] - (cy + b[k]) : Nat) : Int)) => hst.step hlt (d := a[k] - (cy + b[k])) (c' := 0) hs (by omega) (by omega) (by rw [HEA.out, HEB.out]; omega)
          have HN := Lib.hid hn
          clear hn
          go_wp2
          go_roundw
          case rel => exact ⟨k + 1, _, 0, by omega, by go_num, rfl, HN.out _ (by omega)⟩
          case measure => simp [intOf] <;> omega
      · have HEB := Lib.hid (getD_ge hbk)
        rcases Nat.lt_or_ge (a[k]) (cy) with hgt | hgt
        · skip
          have hn := fun (s : Int) (hs : s = ((a[k] + 4294967296 - (cy) : Nat) : Int)) => hst.step hlt (d := a[k] + 4294967296 - (cy)) (c' := 1) hs (by omega) (by omega) (by rw [HEA.out, HEB.out]; omega)
          have HN := Lib.hid hn
          clear hn
          go_wp2
          go_roundw
          case rel => exact ⟨k + 1, _, 1, by omega, by go_num, rfl, HN.out _ (by omega)⟩
          case measure => simp [intOf] <;> omega
        · skip
          have hn := fun (s : Int) (hs : s = ((a[k] - (cy) : Nat) : Int)) => hst.step hlt (d := a[k] - (cy)) (c' := 0) hs (by omega) (by omega) (by rw [HEA.out, HEB.out]; omega)
          have HN := Lib.hid hn
          clear hn
          go_wp2
          go_roundw
          case rel => exact ⟨k + 1, _, 0, by omega, by go_num, rfl, HN.out _ (by omega)⟩
          case measure => simp [intOf] <;> omega
    · obtain rfl : k = a.length := by omega
      have hO := hst.out
      rw [List.drop_length, List.append_nil] at hO
      have hv := sub_end hl hst.len hst.ws hst.eq hge
      have HP := fun r => (⟨ds, r, rfl, hO, hst.ws, hv, hst.len, hst.grw⟩ : SubPost w g a b (.returned (.int .u32 r)) wr)
      have HQ := Lib.hid HP
      clear HP hv hO hst
      go_wp2
      go_ret
      exact HQ.out _

theorem addr_add (g o j : Nat) : (⟨g, o, none⟩ : Addr).add j = ⟨g, o + j, none⟩ := by
  unfold Addr.add
  split
  · subst_vars; rfl
  · rfl
theorem u32_size : (Tryz.prog.info? 91).map (·.size) = some 1 := by kernel_rfl
theorem w32_one (l : List Nat) : ∀ v ∈ l.map w32, v.oneCell' = true := by
  intro v hv
  obtain ⟨x, _, rfl⟩ := List.mem_map.1 hv
  rfl
theorem Sl.copies {w w' : World} {B : Nat} {A : Option Addr} {xs : List Value} (h : Sl w B A xs) (hk : ∀ p : Addr, p.block < B → w'.cell? p = w.cell? p) (h0 : 0 < xs.length) :
    ∃ ad, A = some ad ∧ ∀ (j : Nat) (v : Value), xs[j]? = some v → w'.cell? (ad.add j) = some v := by
  obtain ⟨g, off, rfl, hg, hc⟩ := h (by intro e; subst e; simp at h0)
  exact ⟨_, rfl, fun j v hj => by rw [addr_add]; exact (hk _ hg).trans (hc j v hj)⟩
theorem splice_all {α : Type} (L cs : List α) (h : L.length = cs.length) : splice L 0 cs = cs := by
  unfold splice
  rw [List.take_zero, List.nil_append, Nat.zero_add, ← h, List.drop_length, List.append_nil]

def DiffPost (w : World) (a b : List Nat) (e : Ending) (w' : World) : Prop :=
  ∃ g ds, e = .returned (.slice (some ⟨g, 0, none⟩) ds.length ds.length) ∧ Own w' g 91 (ds.map w32) ∧ Ws ds ∧ Hid (val ds = val a - val b) ∧ ds.length ≤ a.length ∧ Below w.heap.size w w' ∧ w.heap.size ≤ g

set_option maxHeartbeats 1000000 in
theorem difference_any {A B : Option Addr} {c d : Nat} {a b : List Nat} {w : World} (hA : Sl w w.heap.size A (a.map w32)) (hB : Sl w w.heap.size B (b.map w32)) (hwa : Ws a) (hwb : Ws b) (hl : b.length ≤ a.length) (hb : a.length ≤ 1048576) (hge : val b ≤ val a) :
    Calls Tryz.prog 65 #[.slice A a.length c, .slice B b.length d] w (DiffPost w a b) := by
  have hmk := make_u32 a.length (by omega) (a.length : Int) rfl
  obtain ⟨cs, hcs⟩ : ∃ cs, cs = a.map w32 := ⟨_, rfl⟩
  have hcl : cs.length = a.length := by rw [hcs]; simp
  have HCL := Lib.hid hcl
  have HCS := Lib.hid hcs
  clear hcl hcs
  have h1 : ∀ v ∈ cs, v.oneCell' = true := by rw [HCS.out]; exact w32_one a
  have H1 := Lib.hid h1
  clear h1
  go_enter Tryz.func65, Tryz.ntmps65
  go_wp2_with (refine wpList_copy_splice rfl (.tmp 9) (.tmp 10) _ _ rfl 91 Tryz.underlying27 u32_size _ _ _ _ _ _ rfl rfl w.heap.size 0 (List.replicate a.length (w32 0)) 91 (Own.rep w _ _ _) cs ?c1 ?c2 ?c3 H1.out w.heap.size w ?c4 (Nat.le_refl _) ?_)
  case c1 => rw [HCL.out]; simp
  case c2 =>
    intro h0
    have h := (HCS.out ▸ hA : Sl w w.heap.size A cs).copies (w' := w.alloc (.cells (Array.replicate a.length (w32 0)) 91)) (fun p hp => World.cell?_alloc_lt w _ p hp) h0
    first | exact h | exact ⟨rfl, h⟩
  case c3 => rw [HCL.out]; simp
  case c4 => go_grown
  intro w2 HG2 hB2
  have hO : Own w2 w.heap.size 91 (a.map w32) := by
    have := HG2.out
    rw [splice_all _ _ (by rw [HCL.out]; simp), HCS.out] at this
    exact this
  clear HG2 HCS HCL H1
  go_wp2_with fail
  refine (subtract_any hO (hB.below hB2) hwa hwb hl hb hge).mono ?_
  rintro e w3 ⟨ds, r, rfl, h3, h4, h5, h6, h7⟩
  have HP : DiffPost w a b (.returned (.slice (some ⟨w.heap.size, 0, none⟩) ds.length ds.length)) w3 := ⟨_, ds, rfl, h3, h4, Lib.hid h5, by omega, below_grown hB2 h7 (Nat.le_refl _) hB2.size, Nat.le_refl _⟩
  rw [h6] at HP
  have HQ := Lib.hid HP
  clear HP h3 h4 h5 h6 h7 hO
  go_wp2
  go_ret
  exact HQ.out
end Go.Proofs.YtfbbnphpapmpcaaGreatDoor

/-
  (second part)
-/
namespace Go.Proofs.YtfbbnphpapmpcaaGreatDoor
open Go.RowKit Mag

/-- The error, and the value, of a result that is in range or not. -/
def lim (z : Int) : Int := if z.natAbs < top then 0 else 4
def clip (z : Int) : Int := if z.natAbs < top then z else 0
theorem lim_in {z : Int} (h : z.natAbs < top) : lim z = 0 := by unfold lim; rw [if_pos h]
theorem clip_in {z : Int} (h : z.natAbs < top) : clip z = z := by unfold clip; rw [if_pos h]
theorem lim_out {z : Int} (h : ¬ z.natAbs < top) : lim z = 4 := by unfold lim; rw [if_neg h]
theorem clip_out {z : Int} (h : ¬ z.natAbs < top) : clip z = 0 := by unfold clip; rw [if_neg h]

theorem signed_lim (neg : Bool) (A : Option Addr) (c : Nat) (l : List Nat) (w : World) (z : Int) (hS : Sl w w.heap.size A (l.map w32)) (hc : l.length ≤ c) (hm : c ≤ maxLen) (hw : Ws l) (hz : z = sgn neg (val l)) :
    Calls Tryz.prog 66 #[.bool neg, .slice A l.length c] w (IntErr w (clip z) (lim z)) := by
  subst hz
  have hn : (sgn neg (val l)).natAbs = val l := by unfold sgn; cases neg <;> simp
  by_cases h : val l < top
  · rw [clip_in (by rw [hn]; exact h), lim_in (by rw [hn]; exact h)]
    exact signed_any neg A c l w hS hc hm hw h
  · rw [clip_out (by rw [hn]; exact h), lim_out (by rw [hn]; exact h)]
    exact signed_over neg A c l w hS hc hm hw (by omega)
theorem sgn_add (neg : Bool) (x y : Nat) : sgn neg x + sgn neg y = sgn neg (x + y) := by unfold sgn; cases neg <;> simp <;> omega

theorem Below.of_drew {w w' : World} (h : Below w.drew.heap.size w.drew w') : Below w.heap.size w w' := ⟨h.os, h.tape, h.output, h.size, h.block⟩
/-- A store into a cell that holds no word leaves every magnitude as it was. -/
theorem Sl.put {w : World} {B : Nat} {A : Option Addr} {l : List Nat} (h : Sl w B A (l.map w32)) {p : Addr} {v : Value} (hp : w.cell? p = some v) (hv : ∀ n, v ≠ .int .u32 n) (u : Value) : Sl (w.setCell p u) B A (l.map w32) := by
  intro hn
  obtain ⟨g, off, rfl, hg, hc⟩ := h hn
  refine ⟨g, off, rfl, hg, fun i x hx => ?_⟩
  have h1 := hc i x hx
  rw [World.cell?_setCell_other _ _ _ _ ?_]
  · exact h1
  · intro e
    have h2 : w.cell? ⟨g, off + i, none⟩ = some v := by rw [← hp, e]
    rw [h2] at h1
    rw [List.getElem?_map] at hx
    cases hl : l[i]? with
    | none => rw [hl] at hx; cases hx
    | some y =>
      rw [hl] at hx
      injection hx with hx
      injection h1 with h1
      exact hv y (h1.trans hx.symm)
theorem WI.put {w : World} {neg : Bool} {A : Option Addr} {n c : Nat} {z : Int} (h : WI w neg A n c z) {p : Addr} {v : Value} (hp : w.cell? p = some v) (hv : ∀ n, v ≠ .int .u32 n) (u : Value) : WI (w.setCell p u) neg A n c z := by
  obtain ⟨l, h1, h2, h3, h4⟩ := h
  refine ⟨l, h1, h2, ⟨?_, h3.ws, h3.nz, h3.cap, h3.mx⟩, h4⟩
  have := h3.sl.put hp hv u
  simpa [World.setCell] using this
/-- Three structs of two cells, laid one behind the other. -/
structure Box3 (w W : World) (x0 x1 y0 y1 z0 z1 : Value) : Prop where
  x0 : W.cell? ⟨w.heap.size, 0, none⟩ = some x0
  x1 : W.cell? ⟨w.heap.size, 1, none⟩ = some x1
  y0 : W.cell? ⟨w.heap.size + 1, 0, none⟩ = some y0
  y1 : W.cell? ⟨w.heap.size + 1, 1, none⟩ = some y1
  z0 : W.cell? ⟨w.heap.size + 1 + 1, 0, none⟩ = some z0
  z1 : W.cell? ⟨w.heap.size + 1 + 1, 1, none⟩ = some z1
  fx : ∀ o, W.frozen? ⟨w.heap.size, o, none⟩ = false
  fy : ∀ o, W.frozen? ⟨w.heap.size + 1, o, none⟩ = false
  fz : ∀ o, W.frozen? ⟨w.heap.size + 1 + 1, o, none⟩ = false
  bel : Below w.heap.size w W
  sz : w.heap.size + 2 < W.heap.size
theorem Box3.mk_ (w : World) (x0 x1 y0 y1 z0 z1 : Value) (t u v : TypeId) : Box3 w (((w.alloc (.cells #[x0, x1] t)).alloc (.cells #[y0, y1] u)).alloc (.cells #[z0, z1] v)) x0 x1 y0 y1 z0 z1 := by
  refine ⟨?_, ?_, ?_, ?_, ?_, ?_, ?_, ?_, ?_, by go_grown, by simp⟩
  all_goals simp [go_sem]
theorem Box3.on {w W W' : World} {x0 x1 y0 y1 z0 z1 : Value} (h : Box3 w W x0 x1 y0 y1 z0 z1) (hb : Below W.heap.size W W') : Box3 w W' x0 x1 y0 y1 z0 z1 := by
  obtain ⟨hc, hf⟩ := bcell hb
  have h1 := h.sz
  have h2 := hb.size
  exact ⟨(hc _ _ (by omega)).trans h.x0, (hc _ _ (by omega)).trans h.x1, (hc _ _ (by omega)).trans h.y0, (hc _ _ (by omega)).trans h.y1, (hc _ _ (by omega)).trans h.z0, (hc _ _ (by omega)).trans h.z1,
    fun o => (hf _ _ (by omega)).trans (h.fx o), fun o => (hf _ _ (by omega)).trans (h.fy o), fun o => (hf _ _ (by omega)).trans (h.fz o), h.bel.trans (hb.mono (by omega)), by omega⟩

theorem Box3.put {w W : World} {x0 x1 y0 y1 z0 z1 : Value} (h : Box3 w W x0 x1 y0 y1 z0 z1) (u v : Value) : Box3 w ((W.setCell ⟨w.heap.size + 1 + 1, 0, none⟩ u).setCell ⟨w.heap.size + 1 + 1, 1, none⟩ v) x0 x1 y0 y1 u v := by
  have h0 := h.sz
  have e0 := h.z0
  have e1 := h.z1
  have far : ∀ b o, b ≠ w.heap.size + 1 + 1 → ((W.setCell ⟨w.heap.size + 1 + 1, 0, none⟩ u).setCell ⟨w.heap.size + 1 + 1, 1, none⟩ v).cell? ⟨b, o, none⟩ = W.cell? ⟨b, o, none⟩ := fun b o hb =>
    (World.cell?_setCell_other _ ⟨_, 1, none⟩ ⟨b, o, none⟩ v (by intro e; injection e; omega)).trans (World.cell?_setCell_other _ ⟨_, 0, none⟩ ⟨b, o, none⟩ u (by intro e; injection e; omega))
  have fr : ∀ b o, ((W.setCell ⟨w.heap.size + 1 + 1, 0, none⟩ u).setCell ⟨w.heap.size + 1 + 1, 1, none⟩ v).frozen? ⟨b, o, none⟩ = W.frozen? ⟨b, o, none⟩ := fun b o => by simp [go_sem]
  refine ⟨(far _ _ (by omega)).trans h.x0, (far _ _ (by omega)).trans h.x1, (far _ _ (by omega)).trans h.y0, (far _ _ (by omega)).trans h.y1, by simp [go_sem, e0], by simp [go_sem, e1], fun o => (fr _ _).trans (h.fx o), fun o => (fr _ _).trans (h.fy o), fun o => (fr _ _).trans (h.fz o), by have := h.bel; go_grown, by simp [World.setCell]; omega⟩

set_option maxRecDepth 100000 in
set_option maxHeartbeats 400000 in
theorem Add_same {n1 : Bool} {A B : Option Addr} {k m c d : Nat} {x y : Int} {w : World} (hx : WI w n1 A k c x) (hy : WI w n1 B m d y) :
    Calls Tryz.prog 58 #[.agg #[.bool n1, .slice A k c], .agg #[.bool n1, .slice B m d]] w (IntErr w (clip (x + y)) (lim (x + y))) := by
  obtain ⟨a, rfl, h5, ha, hna, rfl⟩ := hx.open_
  obtain ⟨b, rfl, h6, hb, hnb, rfl⟩ := hy.open_
  clear hx hy
  have hz := sgn_add n1 (val a) (val b)
  have HZ := Lib.hid hz
  clear hz
  go_enter Tryz.func58, Tryz.ntmps58
  go_wp2_with fail
  have hB := Box3.mk_ w (.bool n1) (.slice A a.length c) (.bool n1) (.slice B b.length d) (.bool false) (.slice none 0 0) 29 29 29
  generalize (((w.alloc (.cells #[.bool n1, .slice A a.length c] 29)).alloc (.cells #[.bool n1, .slice B b.length d] 29)).alloc (.cells #[.bool false, .slice none 0 0] 29)) = W at hB ⊢
  have ha' := ha.on hB.bel
  have hb' := hb.on hB.bel
  go_region_held3 (fun w' => w'.cell? ⟨w.heap.size, 0, none⟩ = some (.bool n1) ∧ w'.cell? ⟨w.heap.size, 1, none⟩ = some (.slice A a.length c) ∧ w'.cell? ⟨w.heap.size + 1, 1, none⟩ = some (.slice B b.length d)) (first | exact ⟨hB.x0, hB.x1, hB.y1⟩ | exact ⟨hB1.x0, hB1.x1, hB1.y1⟩ | exact ⟨hB2.x0, hB2.x1, hB2.y1⟩ | exact ⟨(hB2.put _ _).x0, (hB2.put _ _).x1, (hB2.put _ _).y1⟩)
    (first
      | (go_at_call 64; refine (sum_any (by exact ha'.sl) (by exact hb'.sl) ha.ws hb.ws (by omega) (by omega)).mono ?_; rintro e w1 ⟨g, ds, rfl, h11, h12, h13, h14, h15, h16⟩; have hB1 := hB.on (W' := w1) (Below.of_drew h15))
      | (go_at_call 66; refine (signed_lim _ _ _ ds _ (sgn n1 (val a) + sgn n1 (val b)) (h11.sl h11.lt) (Nat.le_refl _) (by unfold maxLen; omega) h12 (by rw [HZ.out, h13.out])).mono ?_; rintro e w2 ⟨neg, A2, k2, c2, rfl, hb2, hwi⟩; have hB2 := hB1.on (W' := w2) hb2; have z0 := hB2.z0; have z1 := hB2.z1; have f0 := hB2.fz 0; have f1 := hB2.fz 1))
  have hwi2 := (hwi.put z0 (fun n => by simp) (.bool neg)).put (p := ⟨w.heap.size + 1 + 1, 1, none⟩) (v := .slice none 0 0) (by simp [go_sem, z1]) (fun n => by simp) (.slice A2 k2 c2)
  have HP : IntErr w (clip (sgn n1 (val a) + sgn n1 (val b))) (lim (sgn n1 (val a) + sgn n1 (val b))) (.returned (.tuple #[.agg #[.bool neg, .slice A2 k2 c2], .int .i64 (lim (sgn n1 (val a) + sgn n1 (val b)))])) _ := ⟨_, _, _, _, rfl, (hB2.put (.bool neg) (.slice A2 k2 c2)).bel, hwi2⟩
  have HQ := Lib.hid HP
  have q0 := (hB2.put (.bool neg) (.slice A2 k2 c2)).z0
  have q1 := (hB2.put (.bool neg) (.slice A2 k2 c2)).z1
  clear HP hwi hwi2
  generalize (w2.setCell ⟨w.heap.size + 1 + 1, 0, none⟩ (.bool neg)).setCell ⟨w.heap.size + 1 + 1, 1, none⟩ (.slice A2 k2 c2) = W3 at HQ q0 q1 ⊢
  go_wp2
  exact bodyPost_ret (v := .tuple #[.agg #[.bool neg, .slice A2 k2 c2], .int .i64 (lim (sgn n1 (val a) + sgn n1 (val b)))]) (by simp [results, Tryz.results58, go_sem, q0, q1]) rfl HQ.out

theorem MagIs.put {w : World} {A : Option Addr} {l : List Nat} {c : Nat} (h : MagIs w A l c) {p : Addr} {v : Value} (hp : w.cell? p = some v) (hv : ∀ n, v ≠ .int .u32 n) (u : Value) : MagIs (w.setCell p u) A l c := by
  refine ⟨?_, h.ws, h.nz, h.cap, h.mx⟩
  have := h.sl.put hp hv u
  simpa [World.setCell] using this
theorem MagIs.drewN {w : World} {A : Option Addr} {l : List Nat} {c : Nat} (h : MagIs w A l c) (n : Nat) : MagIs (w.drewN n) A l c := ⟨h.sl, h.ws, h.nz, h.cap, h.mx⟩
theorem Box3.drewN {w W : World} {x0 x1 y0 y1 z0 z1 : Value} (h : Box3 w W x0 x1 y0 y1 z0 z1) (n : Nat) : Box3 w (W.drewN n) x0 x1 y0 y1 z0 z1 :=
  ⟨h.x0, h.x1, h.y0, h.y1, h.z0, h.z1, h.fx, h.fy, h.fz, below_drewN' h.bel n, h.sz⟩
theorem cell_put (w : World) {p q : Addr} (u : Value) (h : p ≠ q) : (w.setCell p u).cell? q = w.cell? q := World.cell?_setCell_other w p q u h
theorem frz_put (w : World) (p : Addr) (u : Value) (b o : Nat) : (w.setCell p u).frozen? ⟨b, o, none⟩ = w.frozen? ⟨b, o, none⟩ := by simp [go_sem]
/-- The first two structs anew. -/
theorem Box3.swap {w W : World} {x0 x1 y0 y1 z0 z1 : Value} (h : Box3 w W x0 x1 y0 y1 z0 z1) (u0 u1 v0 v1 : Value) :
    Box3 w ((((W.setCell ⟨w.heap.size, 0, none⟩ u0).setCell ⟨w.heap.size, 1, none⟩ u1).setCell ⟨w.heap.size + 1, 0, none⟩ v0).setCell ⟨w.heap.size + 1, 1, none⟩ v1) u0 u1 v0 v1 z0 z1 := by
  have h0 := h.sz
  have a0 := h.x0
  have a1 := h.x1
  have b0 := h.y0
  have b1 := h.y1
  have c0 := h.z0
  have c1 := h.z1
  refine ⟨by simp [go_sem, a0], by simp [go_sem, a1], by simp [go_sem, b0], by simp [go_sem, b1], ?_, ?_, fun o => ?_, fun o => ?_, fun o => ?_, by have := h.bel; go_grown, by simp [World.setCell]; omega⟩
  · rw [cell_put, cell_put, cell_put, cell_put]
    · exact c0
    all_goals (intro e; injection e; omega)
  · rw [cell_put, cell_put, cell_put, cell_put]
    · exact c1
    all_goals (intro e; injection e; omega)
  · rw [frz_put, frz_put, frz_put, frz_put]; exact h.fx o
  · rw [frz_put, frz_put, frz_put, frz_put]; exact h.fy o
  · rw [frz_put, frz_put, frz_put, frz_put]; exact h.fz o
theorem MagIs.swap {w W : World} {x0 x1 y0 y1 z0 z1 : Value} (h : Box3 w W x0 x1 y0 y1 z0 z1) {A : Option Addr} {l : List Nat} {c : Nat} (hm : MagIs W A l c) (u0 u1 v0 v1 : Value)
    (hx0 : ∀ n, x0 ≠ .int .u32 n) (hx1 : ∀ n, x1 ≠ .int .u32 n) (hy0 : ∀ n, y0 ≠ .int .u32 n) (hy1 : ∀ n, y1 ≠ .int .u32 n) :
    MagIs ((((W.setCell ⟨w.heap.size, 0, none⟩ u0).setCell ⟨w.heap.size, 1, none⟩ u1).setCell ⟨w.heap.size + 1, 0, none⟩ v0).setCell ⟨w.heap.size + 1, 1, none⟩ v1) A l c := by
  have h0 := h.sz
  refine (((hm.put h.x0 hx0 u0).put (v := x1) ?_ hx1 u1).put (v := y0) ?_ hy0 v0).put (v := y1) ?_ hy1 v1
  · rw [cell_put _ _ (by intro e; injection e; omega)]; exact h.x1
  · rw [cell_put _ _ (by intro e; injection e; omega), cell_put _ _ (by intro e; injection e; omega)]; exact h.y0
  · rw [cell_put _ _ (by intro e; injection e; omega), cell_put _ _ (by intro e; injection e; omega), cell_put _ _ (by intro e; injection e; omega)]; exact h.y1
theorem sgn_sub {p q : Bool} (x y : Nat) (hn : p ≠ q) (h : y ≤ x) : sgn p x + sgn q y = sgn p (x - y) := by
  unfold sgn
  cases p <;> cases q <;> simp at * <;> omega

set_option maxRecDepth 100000 in
set_option maxHeartbeats 400000 in
theorem Add_diff_ge {n1 n2 : Bool} {A B : Option Addr} {c d : Nat} {a b : List Nat} {w : World} (ha : MagIs w A a c) (hb : MagIs w B b d) (hl1 : a.length ≤ 512) (hn : n1 ≠ n2) (hge : val b ≤ val a) :
    Calls Tryz.prog 58 #[.agg #[.bool n1, .slice A a.length c], .agg #[.bool n2, .slice B b.length d]] w (IntErr w (clip (sgn n1 (val a) + sgn n2 (val b))) (lim (sgn n1 (val a) + sgn n2 (val b)))) := by
  have hz := sgn_sub (val a) (val b) hn hge
  have HZ := Lib.hid hz
  clear hz
  have hbl : b.length ≤ a.length := by
    rcases Nat.lt_or_ge a.length b.length with h | h
    · have := lt_of_length ha.ws hb.nz h; omega
    · exact h
  have hcmp : ¬ cmpI (val a) (val b) < 0 := by unfold cmpI; split <;> (try split) <;> omega
  have hE : (n1 == n2) = false := by simpa using hn
  go_enter Tryz.func58, Tryz.ntmps58
  go_wp2_with fail
  refine (compare_any (((hb.alloc _).alloc _).alloc _) (((ha.alloc _).alloc _).alloc _)).mono ?_
  rintro e w1 ⟨rfl, nd, rfl⟩
  have hB := (Box3.mk_ w (.bool n1) (.slice A a.length c) (.bool n2) (.slice B b.length d) (.bool false) (.slice none 0 0) 29 29 29).drewN nd
  generalize ((((w.alloc (.cells #[.bool n1, .slice A a.length c] 29)).alloc (.cells #[.bool n2, .slice B b.length d] 29)).alloc (.cells #[.bool false, .slice none 0 0] 29)).drewN nd) = W at hB ⊢
  have ha' := ha.on hB.bel
  have hb' := hb.on hB.bel
  go_wp2_with fail
  go_region_held3 (fun w' => w'.cell? ⟨w.heap.size, 0, none⟩ = some (.bool n1) ∧ w'.cell? ⟨w.heap.size, 1, none⟩ = some (.slice A a.length c) ∧ w'.cell? ⟨w.heap.size + 1, 1, none⟩ = some (.slice B b.length d)) (first | exact ⟨hB.x0, hB.x1, hB.y1⟩ | exact ⟨hB1.x0, hB1.x1, hB1.y1⟩ | exact ⟨hB2.x0, hB2.x1, hB2.y1⟩ | exact ⟨(hB2.put _ _).x0, (hB2.put _ _).x1, (hB2.put _ _).y1⟩)
    (first
      | (go_at_call 65; refine (difference_any (by exact ha'.sl) (by exact hb'.sl) ha'.ws hb'.ws hbl (by omega) hge).mono ?_; rintro e w1 ⟨g, ds, rfl, h11, h12, h13, h14, h15, h16⟩; have hB1 := hB.on (W' := w1) (Below.of_drew h15))
      | (go_at_call 66; refine (signed_lim _ _ _ ds _ (sgn n1 (val a) + sgn n2 (val b)) (h11.sl h11.lt) (Nat.le_refl _) (by unfold maxLen; omega) h12 (by rw [HZ.out, h13.out])).mono ?_; rintro e w2 ⟨neg, A2, k2, c2, rfl, hb2, hwi⟩; have hB2 := hB1.on (W' := w2) hb2; have z0 := hB2.z0; have z1 := hB2.z1; have f0 := hB2.fz 0; have f1 := hB2.fz 1))
  have hwi2 := (hwi.put z0 (fun n => by simp) (.bool neg)).put (p := ⟨w.heap.size + 1 + 1, 1, none⟩) (v := .slice none 0 0) (by simp [go_sem, z1]) (fun n => by simp) (.slice A2 k2 c2)
  have HP : IntErr w (clip (sgn n1 (val a) + sgn n2 (val b))) (lim (sgn n1 (val a) + sgn n2 (val b))) (.returned (.tuple #[.agg #[.bool neg, .slice A2 k2 c2], .int .i64 (lim (sgn n1 (val a) + sgn n2 (val b)))])) _ := ⟨_, _, _, _, rfl, (hB2.put (.bool neg) (.slice A2 k2 c2)).bel, hwi2⟩
  have HQ := Lib.hid HP
  have q0 := (hB2.put (.bool neg) (.slice A2 k2 c2)).z0
  have q1 := (hB2.put (.bool neg) (.slice A2 k2 c2)).z1
  clear HP hwi hwi2
  generalize (w2.setCell ⟨w.heap.size + 1 + 1, 0, none⟩ (.bool neg)).setCell ⟨w.heap.size + 1 + 1, 1, none⟩ (.slice A2 k2 c2) = W3 at HQ q0 q1 ⊢
  go_wp2
  exact bodyPost_ret (v := .tuple #[.agg #[.bool neg, .slice A2 k2 c2], .int .i64 (lim (sgn n1 (val a) + sgn n2 (val b)))]) (by simp [results, Tryz.results58, go_sem, q0, q1]) rfl HQ.out

set_option maxRecDepth 100000 in
set_option maxHeartbeats 400000 in
theorem Add_diff_lt {n1 n2 : Bool} {A B : Option Addr} {c d : Nat} {a b : List Nat} {w : World} (ha : MagIs w A a c) (hb : MagIs w B b d) (hl1 : a.length ≤ 512) (hn : n1 ≠ n2) (hlt : val b < val a) :
    Calls Tryz.prog 58 #[.agg #[.bool n2, .slice B b.length d], .agg #[.bool n1, .slice A a.length c]] w (IntErr w (clip (sgn n1 (val a) + sgn n2 (val b))) (lim (sgn n1 (val a) + sgn n2 (val b)))) := by
  have hge : val b ≤ val a := by omega
  have hz := sgn_sub (val a) (val b) hn hge
  have HZ := Lib.hid hz
  clear hz
  have hbl : b.length ≤ a.length := by
    rcases Nat.lt_or_ge a.length b.length with h | h
    · have := lt_of_length ha.ws hb.nz h; omega
    · exact h
  have hcmp : cmpI (val b) (val a) < 0 := by rw [cmpI_lt (by omega)]; omega
  have hE : (n2 == n1) = false := by simpa using fun h => hn (Eq.symm h)
  go_enter Tryz.func58, Tryz.ntmps58
  go_wp2_with fail
  refine (compare_any (((ha.alloc _).alloc _).alloc _) (((hb.alloc _).alloc _).alloc _)).mono ?_
  rintro e w1 ⟨rfl, nd, rfl⟩
  have hB := (Box3.mk_ w (.bool n2) (.slice B b.length d) (.bool n1) (.slice A a.length c) (.bool false) (.slice none 0 0) 29 29 29).drewN nd
  generalize ((((w.alloc (.cells #[.bool n2, .slice B b.length d] 29)).alloc (.cells #[.bool n1, .slice A a.length c] 29)).alloc (.cells #[.bool false, .slice none 0 0] 29)).drewN nd) = W at hB ⊢
  have ha' := ha.on hB.bel
  have hb' := hb.on hB.bel
  have a0 := hB.x0
  have a1 := hB.x1
  have b0 := hB.y0
  have b1 := hB.y1
  have fa0 := hB.fx 0
  have fa1 := hB.fx 1
  have fb0 := hB.fy 0
  have fb1 := hB.fy 1
  go_wp2_with fail
  have hC := hB.swap (.bool n1) (.slice A a.length c) (.bool n2) (.slice B b.length d)
  have ha2 := MagIs.swap hB ha' (.bool n1) (.slice A a.length c) (.bool n2) (.slice B b.length d) (fun n => by simp) (fun n => by simp) (fun n => by simp) (fun n => by simp)
  have hb2 := MagIs.swap hB hb' (.bool n1) (.slice A a.length c) (.bool n2) (.slice B b.length d) (fun n => by simp) (fun n => by simp) (fun n => by simp) (fun n => by simp)
  clear a0 a1 b0 b1 fa0 fa1 fb0 fb1
  generalize (((W.setCell ⟨w.heap.size, 0, none⟩ (.bool n1)).setCell ⟨w.heap.size, 1, none⟩ (.slice A a.length c)).setCell ⟨w.heap.size + 1, 0, none⟩ (.bool n2)).setCell ⟨w.heap.size + 1, 1, none⟩ (.slice B b.length d) = V at hC ha2 hb2 ⊢
  go_region_held3 (fun w' => w'.cell? ⟨w.heap.size, 0, none⟩ = some (.bool n1) ∧ w'.cell? ⟨w.heap.size, 1, none⟩ = some (.slice A a.length c) ∧ w'.cell? ⟨w.heap.size + 1, 1, none⟩ = some (.slice B b.length d)) (first | exact ⟨hC.x0, hC.x1, hC.y1⟩ | exact ⟨hB1.x0, hB1.x1, hB1.y1⟩ | exact ⟨hB2.x0, hB2.x1, hB2.y1⟩ | exact ⟨(hB2.put _ _).x0, (hB2.put _ _).x1, (hB2.put _ _).y1⟩)
    (first
      | (go_at_call 65; refine (difference_any (by exact ha2.sl) (by exact hb2.sl) ha2.ws hb2.ws hbl (by omega) hge).mono ?_; rintro e w1 ⟨g, ds, rfl, h11, h12, h13, h14, h15, h16⟩; have hB1 := hC.on (W' := w1) (Below.of_drew h15))
      | (go_at_call 66; refine (signed_lim _ _ _ ds _ (sgn n1 (val a) + sgn n2 (val b)) (h11.sl h11.lt) (Nat.le_refl _) (by unfold maxLen; omega) h12 (by rw [HZ.out, h13.out])).mono ?_; rintro e w2 ⟨neg, A2, k2, c2, rfl, hbb, hwi⟩; have hB2 := hB1.on (W' := w2) hbb; have z0 := hB2.z0; have z1 := hB2.z1; have f0 := hB2.fz 0; have f1 := hB2.fz 1))
  have hwi2 := (hwi.put z0 (fun n => by simp) (.bool neg)).put (p := ⟨w.heap.size + 1 + 1, 1, none⟩) (v := .slice none 0 0) (by simp [go_sem, z1]) (fun n => by simp) (.slice A2 k2 c2)
  have HP : IntErr w (clip (sgn n1 (val a) + sgn n2 (val b))) (lim (sgn n1 (val a) + sgn n2 (val b))) (.returned (.tuple #[.agg #[.bool neg, .slice A2 k2 c2], .int .i64 (lim (sgn n1 (val a) + sgn n2 (val b)))])) _ := ⟨_, _, _, _, rfl, (hB2.put (.bool neg) (.slice A2 k2 c2)).bel, hwi2⟩
  have HQ := Lib.hid HP
  have q0 := (hB2.put (.bool neg) (.slice A2 k2 c2)).z0
  have q1 := (hB2.put (.bool neg) (.slice A2 k2 c2)).z1
  clear HP hwi hwi2
  generalize (w2.setCell ⟨w.heap.size + 1 + 1, 0, none⟩ (.bool neg)).setCell ⟨w.heap.size + 1 + 1, 1, none⟩ (.slice A2 k2 c2) = W3 at HQ q0 q1 ⊢
  go_wp2
  exact bodyPost_ret (v := .tuple #[.agg #[.bool neg, .slice A2 k2 c2], .int .i64 (lim (sgn n1 (val a) + sgn n2 (val b)))]) (by simp [results, Tryz.results58, go_sem, q0, q1]) rfl HQ.out

theorem Add_any {n1 n2 : Bool} {A B : Option Addr} {k m c d : Nat} {x y : Int} {w : World} (hx : WI w n1 A k c x) (hy : WI w n2 B m d y) :
    Calls Tryz.prog 58 #[.agg #[.bool n1, .slice A k c], .agg #[.bool n2, .slice B m d]] w (IntErr w (clip (x + y)) (lim (x + y))) := by
  by_cases hn : n1 = n2
  · subst hn
    exact Add_same hx hy
  · obtain ⟨a, rfl, h5, ha, hna, rfl⟩ := hx.open_
    obtain ⟨b, rfl, h6, hb, hnb, rfl⟩ := hy.open_
    rcases Nat.lt_or_ge (val a) (val b) with h | h
    · have := Add_diff_lt hb ha h6 (fun e => hn e.symm) h
      rw [Int.add_comm] at this
      exact this
    · exact Add_diff_ge ha hb h5 hn h
end Go.Proofs.YtfbbnphpapmpcaaGreatDoor
