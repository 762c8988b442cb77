/-
  Contracts of package point: nearest, Round.
-/
import Derived.Test.YtfbbnphpapmpcaaGreatDoorP5
namespace Go.Proofs.YtfbbnphpapmpcaaGreatDoor
open Go.RowKit Mag

/-- The nearest integer, of two the lesser one. -/
def nr (p q : Int) : Int := -((q - 2 * p) / (2 * q))
theorem nr_le {p q n : Int} (hq : 0 < q) : p * 2 ≤ (2 * n + 1) * q ↔ nr p q ≤ n := by
  unfold nr
  have h := Int.le_ediv_iff_mul_le (a := -n) (b := q - 2 * p) (c := 2 * q) (by omega)
  have e1 : -n * (2 * q) = -(2 * (n * q)) := by grind
  have e2 : (2 * n + 1) * q = 2 * (n * q) + q := by grind
  rw [e1] at h
  rw [e2]
  constructor
  · intro hx
    have := h.mpr (by omega)
    omega
  · intro hx
    have := h.mp (by omega)
    omega
theorem mk_two (n : Int) : mkP (2 * n + 1) 2 = 2 * n + 1 ∧ mkQ (2 * n + 1) 2 = 2 := by
  have hg : Int.gcd (2 * n + 1) 2 = 1 := by
    rw [Int.gcd_comm, Int.add_comm, Int.gcd_add_mul_left_right]
    rfl
  unfold mkP mkQ
  rw [hg]
  constructor
  · rw [show Int.sign 2 = 1 from rfl]; simp
  · rfl
theorem cmpI_ge {x y : Int} : (0 ≤ cmpI x y) ↔ y ≤ x := by
  rcases Int.lt_trichotomy x y with h | h | h
  · rw [cmpI_lt h]; omega
  · rw [cmpI_eq h]; omega
  · rw [cmpI_gt h]; omega
set_option maxRecDepth 100000 in
set_option maxHeartbeats 800000 in
theorem enough_any {f : FV} {p q n : Int} {g : Nat} {w : World} (hO : Own w g 31 [.bool f.p.neg, .slice f.p.A f.p.n f.p.c, .bool f.l.neg, .slice f.l.A f.l.n f.l.c]) (hf : f.is w p q) (n0 : -1073741825 ≤ n) (n1 : n ≤ 1073741825) : Calls Tryz.prog 74 #[.int .i64 n, .pointer (some ⟨g, 0, none⟩)] w (RetB w (decide (nr p q ≤ n))) := by
  go_enter Tryz.func74, Tryz.ntmps74
  go_wp2_with fail
  refine (Of_any (2 * n + 1) 2 _ (by omega) (by omega) (by omega) (by omega) (by omega)).mono ?_
  rintro e w1 ⟨x, rfl, k1, hx⟩
  rw [(mk_two n).1, (mk_two n).2] at hx
  go_upto_region 2 with fail
  have k2 := below_new w1 (.cells #[.bool x.p.neg, .slice x.p.A x.p.n x.p.c, .bool x.l.neg, .slice x.l.A x.l.n x.l.c] 31)
  have hQ := Own.newF w1 31 x
  generalize w1.alloc (.cells #[.bool x.p.neg, .slice x.p.A x.p.n x.p.c, .bool x.l.neg, .slice x.l.A x.l.n x.l.c] 31) = w2 at k2 hQ ⊢
  have hO := (hO.on k1).on k2
  have hf2 := (hf.on k1).on k2
  have hx2 := hx.on k2
  have hB := Below.call k1 k2
  have l0 := hO.c0
  have l1 := hO.c1
  have l2 := hO.c2
  have l3 := hO.c3
  have y0 := hQ.c0
  have y1 := hQ.c1
  have y2 := hQ.c2
  have y3 := hQ.c3
  go_wp2_with fail
  refine (Compare_frac hx2 hf2).mono ?_
  rintro e w3 ⟨rfl, k3⟩
  have hB := Below.call hB k3
  have h3 : decide (0 ≤ cmpI ((2 * n + 1) * q) (p * 2)) = decide (nr p q ≤ n) := by
    simp only [cmpI_ge, nr_le hf.pos]
  obtain ⟨bb, hbb⟩ : ∃ bb, bb = decide (nr p q ≤ n) := ⟨_, rfl⟩
  rw [← hbb] at h3
  have HB := Lib.hid hbb
  generalize cmpI ((2 * n + 1) * q) (p * 2) = z at h3 ⊢
  clear hbb n0 n1
  go_wp2
  go_returns
  exact ⟨by rw [← HB.out]; simp, hB⟩

/-- Whether the nearest integer is among those that are looked for. -/
def nrOK (p q : Int) : Bool := decide (-1073741825 < nr p q) && decide (nr p q ≤ 1073741825)
def pick1 (b : Bool) (x : Int) : Int := if b then x else 0
set_option maxRecDepth 100000 in
set_option maxHeartbeats 1600000 in
theorem nearest_any {f : FV} {p q : Int} {w : World} (hf : f.is w p q) : Calls Tryz.prog 47 #[.agg #[.bool f.p.neg, .slice f.p.A f.p.n f.p.c, .bool f.l.neg, .slice f.l.A f.l.n f.l.c]] w fun e w' => e = .returned (.tuple #[.int .i64 (pick1 (nrOK p q) (nr p q)), .bool (nrOK p q)]) ∧ Below w.heap.size w w' := by
  have hmf : ∀ (fn : Fn) (first cap : Array Value) (w : World), (Instr.makeFunc fn first cap).run Tryz.prog w = .ok (.func fn first cap) w := fun _ _ _ _ => rfl
  go_enter Tryz.func47, Tryz.ntmps47
  have hO := Own.newF w 31 f
  have hB := below_new w (.cells #[.bool f.p.neg, .slice f.p.A f.p.n f.p.c, .bool f.l.neg, .slice f.l.A f.l.n f.l.c] 31)
  go_upto_region 3 with fail
  generalize w.alloc (.cells #[.bool f.p.neg, .slice f.p.A f.p.n f.p.c, .bool f.l.neg, .slice f.l.A f.l.n f.l.c] 31) = W at hO hB ⊢
  have hf1 := hf.on hB
  obtain ⟨b1, hb1⟩ : ∃ b1, b1 = w.heap.size := ⟨_, rfl⟩
  rw [← hb1] at hO ⊢
  clear hb1
  go_wp2_with fail
  refine (enough_any hO hf1 (by omega) (by omega)).mono ?_
  rintro e w1 ⟨rfl, k1⟩
  obtain ⟨c1, hc1⟩ : ∃ c1, c1 = decide (nr p q ≤ -1073741825) := ⟨_, rfl⟩
  rw [← hc1]
  have HC1 := Lib.hid hc1
  clear hc1
  cases c1
  · have hO1 := hO.on k1
    have hf2 := hf1.on k1
    have hB1 := Below.call hB k1
    go_wp2_with fail
    refine (enough_any hO1 hf2 (by omega) (by omega)).mono ?_
    rintro e w2 ⟨rfl, k2⟩
    have hO2 := hO1.on k2
    have hf3 := hf2.on k2
    have hB2 := Below.call hB1 k2
    obtain ⟨c2, hc2⟩ : ∃ c2, c2 = decide (nr p q ≤ 1073741825) := ⟨_, rfl⟩
    rw [← hc2]
    have HC2 := Lib.hid hc2
    clear hc2
    cases c2
    · have HV : Hid (nrOK p q = false) := Lib.hid (by simp [nrOK, ← HC2.out])
      go_wp2
      go_returns
      exact ⟨by rw [HV.out]; simp [pick1], hB2⟩
    · have g1 : -1073741825 < nr p q := by have := HC1.out; simp at this; omega
      have g2 : nr p q ≤ 1073741825 := by have := HC2.out; simp at this; omega
      have HV : Hid (nrOK p q = true) := Lib.hid (by simp [nrOK, g1, g2])
      have HG1 := Lib.hid g1
      have HG2 := Lib.hid g2
      clear g1 g2
      go_wp2_with fail
      go_loopw [4, 5] (fun s4 s5 wr => ∃ lo hi : Int, s4 = .int .i64 lo ∧ s5 = .int .i64 hi ∧ Hid (-1073741825 ≤ lo ∧ lo < hi ∧ hi ≤ 1073741825 ∧ lo < nr p q ∧ nr p q ≤ hi) ∧ Below w2.heap.size w2 wr) (fun s4 s5 _ => (intOf s5 - intOf s4).toNat)
      case atStart => exact ⟨_, _, rfl, rfl, Lib.hid ⟨by omega, by omega, by omega, HG1.out, HG2.out⟩, Below.refl _ _⟩
      case round =>
        obtain ⟨lo, hi, rfl, rfl, hg, hb⟩ := hrel
        obtain ⟨i1, i2, i3, i4, i5⟩ := hg.out
        have I4 := Lib.hid i4
        have I5 := Lib.hid i5
        clear hg i4 i5
        have hO3 := hO2.on hb
        have hf4 := hf3.on hb
        have hB3 := Below.call hB2 hb
        by_cases h : 1 < hi - lo
        · go_wp2_with fail
          refine (enough_any hO3 hf4 (by omega) (by omega)).mono ?_
          rintro e w3 ⟨rfl, k3⟩
          have hb4 := Below.call hb k3
          have d1 : lo < lo + (hi - lo) / 2 := by omega
          have d2 : lo + (hi - lo) / 2 < hi := by omega
          generalize lo + (hi - lo) / 2 = mid at d1 d2 ⊢
          obtain ⟨c3, hc3⟩ : ∃ c3, c3 = decide (nr p q ≤ mid) := ⟨_, rfl⟩
          rw [← hc3]
          have HC3 := Lib.hid hc3
          clear hc3
          cases c3
          · have g3 : mid < nr p q := by have := HC3.out; simp at this; omega
            have G3 := Lib.hid g3
            clear g3
            go_wp2_with fail
            go_roundw
            case rel => exact ⟨mid, hi, rfl, rfl, Lib.hid ⟨by omega, by omega, by omega, G3.out, I5.out⟩, hb4⟩
            case measure => simp only [intOf]; omega
          · have g3 : nr p q ≤ mid := by have := HC3.out; simp at this; omega
            have G3 := Lib.hid g3
            clear g3
            go_wp2_with fail
            go_roundw
            case rel => exact ⟨lo, mid, rfl, rfl, Lib.hid ⟨by omega, by omega, by omega, I4.out, G3.out⟩, hb4⟩
            case measure => simp only [intOf]; omega
        · have hn : nr p q = hi := by have := I4.out; have := I5.out; omega
          have HN := Lib.hid hn
          clear hn
          go_wp2_with fail
          go_returns
          exact ⟨by rw [HV.out, HN.out]; simp [pick1], hB3⟩
  · have hB1 := Below.call hB k1
    have HV : Hid (nrOK p q = false) := Lib.hid (by have := HC1.out; simp at this; simp [nrOK]; omega)
    go_wp2
    go_returns
    exact ⟨by rw [HV.out]; simp [pick1], hB1⟩

def rdOK (p q r s : Int) : Bool := nrOK p q && nrOK r s && decide (goodV (nr p q) (nr r s) = 0)
def err5 (b : Bool) : Int := if b then 0 else 5
def RetE (w : World) (x y err : Int) (e : Ending) (w' : World) : Prop := e = .returned (.tuple #[.agg #[.int .i64 x, .int .i64 y], .int .i64 err]) ∧ Below w.heap.size w w'
set_option maxRecDepth 100000 in
set_option maxHeartbeats 1600000 in
theorem PRound_any {a : PV} {p q r s : Int} {w : World} (ha : a.is w p q r s) : Calls Tryz.prog 27 #[.agg #[.bool a.x.p.neg, .slice a.x.p.A a.x.p.n a.x.p.c, .bool a.x.l.neg, .slice a.x.l.A a.x.l.n a.x.l.c, .bool a.y.p.neg, .slice a.y.p.A a.y.p.n a.y.p.c, .bool a.y.l.neg, .slice a.y.l.A a.y.l.n a.y.l.c]] w (RetE w (pick0 (rdOK p q r s) (nr p q)) (pick0 (rdOK p q r s) (nr r s)) (err5 (rdOK p q r s))) := by
  go_enter Tryz.func27, Tryz.ntmps27
  go_upto_region 1 with fail
  have hS1 := (Own.newPt w 33 a).alloc (.cells #[.int .i64 0, .int .i64 0] 55)
  have hS2 := Own.new2 (w.alloc (.cells #[.bool a.x.p.neg, .slice a.x.p.A a.x.p.n a.x.p.c, .bool a.x.l.neg, .slice a.x.l.A a.x.l.n a.x.l.c, .bool a.y.p.neg, .slice a.y.p.A a.y.p.n a.y.p.c, .bool a.y.l.neg, .slice a.y.l.A a.y.l.n a.y.l.c] 33)) 55 (.int .i64 0) (.int .i64 0)
  have hB : Below w.heap.size w ((w.alloc (.cells #[.bool a.x.p.neg, .slice a.x.p.A a.x.p.n a.x.p.c, .bool a.x.l.neg, .slice a.x.l.A a.x.l.n a.x.l.c, .bool a.y.p.neg, .slice a.y.p.A a.y.p.n a.y.p.c, .bool a.y.l.neg, .slice a.y.l.A a.y.l.n a.y.l.c] 33)).alloc (.cells #[.int .i64 0, .int .i64 0] 55)) := by go_grown
  have hgs : (w.alloc (.cells #[.bool a.x.p.neg, .slice a.x.p.A a.x.p.n a.x.p.c, .bool a.x.l.neg, .slice a.x.l.A a.x.l.n a.x.l.c, .bool a.y.p.neg, .slice a.y.p.A a.y.p.n a.y.p.c, .bool a.y.l.neg, .slice a.y.l.A a.y.l.n a.y.l.c] 33)).heap.size = w.heap.size + 1 := by simp
  rw [hgs] at hS2
  clear hgs
  generalize (w.alloc (.cells #[.bool a.x.p.neg, .slice a.x.p.A a.x.p.n a.x.p.c, .bool a.x.l.neg, .slice a.x.l.A a.x.l.n a.x.l.c, .bool a.y.p.neg, .slice a.y.p.A a.y.p.n a.y.p.c, .bool a.y.l.neg, .slice a.y.l.A a.y.l.n a.y.l.c] 33)).alloc (.cells #[.int .i64 0, .int .i64 0] 55) = W at hS1 hS2 hB ⊢
  have haW := ha.on hB
  obtain ⟨b1, hb1⟩ : ∃ b1, b1 = w.heap.size := ⟨_, rfl⟩
  obtain ⟨b2, hb2⟩ : ∃ b2, b2 = w.heap.size + 1 := ⟨_, rfl⟩
  have hw2 : w.heap.size ≤ b2 := by omega
  rw [← hb2] at hS2 ⊢
  rw [← hb1] at hS1 ⊢
  clear hb1 hb2
  have l0 := hS1.c0
  have l1 := hS1.c1
  have l2 := hS1.c2
  have l3 := hS1.c3
  go_wp2_with fail
  refine (nearest_any haW.x).mono ?_
  rintro e w1 ⟨rfl, k1⟩
  have hS1 := hS1.on k1
  have hS2 := hS2.on k1
  have haW := haW.on k1
  have hB := Below.call hB k1
  clear l0 l1 l2 l3
  have l4 := hS1.c4
  have l5 := hS1.c5
  have l6 := hS1.c6
  have l7 := hS1.c7
  go_wp2_with fail
  refine (nearest_any haW.y).mono ?_
  rintro e w2 ⟨rfl, k2⟩
  have hS1 := hS1.on k2
  have hS2 := hS2.on k2
  have hB := Below.call hB k2
  clear l4 l5 l6 l7
  go_upto_region 4 with fail
  have k3 := below_new w2 (.cells #[.int .i64 (pick1 (nrOK p q) (nr p q)), .int .i64 (pick1 (nrOK r s) (nr r s))] 55)
  have hQ := Own.new2 w2 55 (.int .i64 (pick1 (nrOK p q) (nr p q))) (.int .i64 (pick1 (nrOK r s) (nr r s)))
  generalize w2.alloc (.cells #[.int .i64 (pick1 (nrOK p q) (nr p q)), .int .i64 (pick1 (nrOK r s) (nr r s))] 55) = w3 at k3 hQ ⊢
  have hS2 := hS2.on k3
  have hB := Below.call hB k3
  have z0 := hS2.c0
  have z1 := hS2.c1
  have f0 := hS2.frozen 0
  have f1 := hS2.frozen 1
  have hO0 := hS2.put2 (.int .i64 0) (.int .i64 0)
  have q0 := hO0.c0
  have q1 := hO0.c1
  have hb0 := Below.put2 hB hw2 (.int .i64 0) (.int .i64 0)
  have y0 := hQ.c0
  have y1 := hQ.c1
  obtain ⟨ok, hok⟩ : ∃ ok, ok = nrOK p q := ⟨_, rfl⟩
  obtain ⟨is_, his⟩ : ∃ is_, is_ = nrOK r s := ⟨_, rfl⟩
  rw [← hok, ← his]
  have HOK := Lib.hid hok
  have HIS := Lib.hid his
  clear hok his hO0
  cases ok
  · have HV : Hid (rdOK p q r s = false) := Lib.hid (by rw [rdOK, ← HOK.out]; simp)
    have HB := Lib.hid hb0
    clear hb0
    go_wp2
    exact bodyPost_ret (v := .tuple #[.agg #[.int .i64 0, .int .i64 0], .int .i64 5]) (by simp [results, Tryz.results27, go_sem, q0, q1]) rfl ⟨by rw [HV.out]; simp [pick0, err5], HB.out⟩
  · cases is_
    · have HV : Hid (rdOK p q r s = false) := Lib.hid (by rw [rdOK, ← HIS.out]; simp)
      have HB := Lib.hid hb0
      clear hb0
      go_wp2
      exact bodyPost_ret (v := .tuple #[.agg #[.int .i64 0, .int .i64 0], .int .i64 5]) (by simp [results, Tryz.results27, go_sem, q0, q1]) rfl ⟨by rw [HV.out]; simp [pick0, err5], HB.out⟩
    · have hp : pick1 (nrOK p q) (nr p q) = nr p q := by rw [← HOK.out]; rfl
      have hr : pick1 (nrOK r s) (nr r s) = nr r s := by rw [← HIS.out]; rfl
      rw [hp] at hQ y0
      rw [hr] at hQ y1
      have HP := Lib.hid hp
      have HR := Lib.hid hr
      clear hp hr hb0 q0 q1
      go_wp2_with fail
      refine (PValid_any (nr p q) (nr r s) _).mono ?_
      rintro e w4 ⟨rfl, k4⟩
      have hS2 := hS2.on k4
      have hQ := hQ.on k4
      have hB := Below.call hB k4
      clear z0 z1 f0 f1 y0 y1
      have z0 := hS2.c0
      have z1 := hS2.c1
      have f0 := hS2.frozen 0
      have f1 := hS2.frozen 1
      have y0 := hQ.c0
      have y1 := hQ.c1
      rcases goodV_cases (nr p q) (nr r s) with hg | hg
      · have HV : Hid (rdOK p q r s = true) := Lib.hid (by rw [rdOK, ← HOK.out, ← HIS.out, hg]; simp)
        rw [hg]
        have hO0 := hS2.put2 (.int .i64 (nr p q)) (.int .i64 (nr r s))
        have q0 := hO0.c0
        have q1 := hO0.c1
        have HB := Lib.hid (Below.put2 hB hw2 (.int .i64 (nr p q)) (.int .i64 (nr r s)))
        clear hg hO0
        go_wp2
        exact bodyPost_ret (v := .tuple #[.agg #[.int .i64 (nr p q), .int .i64 (nr r s)], .int .i64 0]) (by simp [results, Tryz.results27, go_sem, q0, q1]) rfl ⟨by rw [HV.out]; simp [pick0, err5], HB.out⟩
      · have HV : Hid (rdOK p q r s = false) := Lib.hid (by rw [rdOK, ← HOK.out, ← HIS.out, hg]; simp)
        rw [hg]
        have hO0 := hS2.put2 (.int .i64 0) (.int .i64 0)
        have q0 := hO0.c0
        have q1 := hO0.c1
        have HB := Lib.hid (Below.put2 hB hw2 (.int .i64 0) (.int .i64 0))
        clear hg hO0
        go_wp2
        exact bodyPost_ret (v := .tuple #[.agg #[.int .i64 0, .int .i64 0], .int .i64 5]) (by simp [results, Tryz.results27, go_sem, q0, q1]) rfl ⟨by rw [HV.out]; simp [pick0, err5], HB.out⟩
end Go.Proofs.YtfbbnphpapmpcaaGreatDoor
