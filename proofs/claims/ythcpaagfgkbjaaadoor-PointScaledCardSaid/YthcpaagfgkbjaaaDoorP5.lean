/-
  Contracts of package point: integer, Whole.
-/
import Derived.Test.YthcpaagfgkbjaaaDoorP3
import Derived.Test.YthcpaagfgkbjaaaDoorP4
namespace Go.Proofs.YthcpaagfgkbjaaaDoor
open Go.RowKit Mag

/-- A number of 64 bits. -/
def in64 (z : Int) : Prop := -9223372036854775808 ≤ z ∧ z ≤ 9223372036854775807
def small (z : Int) : Bool := decide (-9223372036854775808 ≤ z) && decide (z ≤ 9223372036854775807)
def sm (z : Int) : Int := if small z then z else 0
theorem small_post {x : IV} {w : World} {z : Int} (hx : x.is w z) : Calls Tryd.prog 71 #[.agg #[.bool x.neg, .slice x.A x.n x.c]] w fun e w' => e = .returned (.tuple #[.int .i64 (sm z), .bool (small z)]) ∧ Below w.heap.size w w' := by
  refine (small_iv hx).mono ?_
  rintro e w' ⟨hb, ⟨h1, h2, rfl⟩ | ⟨h1, rfl⟩⟩
  · have h : small z = true := by simp [small, h1, h2]
    exact ⟨by simp [sm, h], hb⟩
  · have h : small z = false := by simp [small]; omega
    exact ⟨by simp [sm, h], hb⟩
def whOK (p q : Int) : Bool := small q && small p && decide (q = 1)
set_option maxRecDepth 100000 in
set_option maxHeartbeats 800000 in
theorem integer_any {f : FV} {p q : Int} {w : World} (hf : f.is w p q) : Calls Tryd.prog 54 #[.agg #[.bool f.p.neg, .slice f.p.A f.p.n f.p.c, .bool f.l.neg, .slice f.l.A f.l.n f.l.c]] w fun e w' => e = .returned (.tuple #[.int .i64 (sm p), .bool (whOK p q)]) ∧ Below w.heap.size w w' := by
  go_enter Tryd.func54, Tryd.ntmps54
  have hO := Own.newF w 29 f
  have hB := below_new w (.cells #[.bool f.p.neg, .slice f.p.A f.p.n f.p.c, .bool f.l.neg, .slice f.l.A f.l.n f.l.c] 29)
  go_upto_region 1 with fail
  generalize w.alloc (.cells #[.bool f.p.neg, .slice f.p.A f.p.n f.p.c, .bool f.l.neg, .slice f.l.A f.l.n f.l.c] 29) = W at hO hB ⊢
  have hf1 := hf.on hB
  have l0 := hO.c0
  have l1 := hO.c1
  have l2 := hO.c2
  have l3 := hO.c3
  go_wp2_with fail
  refine (Den_any hf1).mono ?_
  rintro e w1 ⟨d, rfl, k1, hd⟩
  have hO1 := hO.on k1
  have hf2 := hf1.on k1
  have hB1 := Below.call hB k1
  go_wp2_with fail
  refine (small_post hd).mono ?_
  rintro e w2 ⟨rfl, k2⟩
  have hO2 := hO1.on k2
  have hf3 := hf2.on k2
  have hB2 := Below.call hB1 k2
  clear l0 l1 l2 l3
  have l0 := hO2.c0
  have l1 := hO2.c1
  have l2 := hO2.c2
  have l3 := hO2.c3
  go_wp2_with fail
  refine (Num_any (f := f)).mono ?_
  rintro e w3 ⟨rfl, k3⟩
  have hf4 := hf3.on k3
  have hB3 := Below.call hB2 k3
  go_wp2_with fail
  refine (small_post hf4.num).mono ?_
  rintro e w4 ⟨rfl, k4⟩
  have hB4 := Below.call hB3 k4
  clear l0 l1 l2 l3
  obtain ⟨sq, hsq⟩ : ∃ sq, sq = small q := ⟨_, rfl⟩
  obtain ⟨sp, hsp⟩ : ∃ sp, sp = small p := ⟨_, rfl⟩
  have hwh : whOK p q = (sq && sp && decide (sm q = 1)) := by
    rw [whOK, hsq, hsp]
    cases h : small q
    · simp
    · simp [sm, h]
  have HW := Lib.hid hwh
  rw [← hsq, ← hsp]
  generalize sm q = zq at HW ⊢
  clear hsq hsp hwh
  cases sq
  · go_wp2
    go_returns
    exact ⟨by rw [HW.out]; simp, hB4⟩
  · cases sp
    · go_wp2
      go_returns
      exact ⟨by rw [HW.out]; simp, hB4⟩
    · go_wp2
      go_returns
      exact ⟨by rw [HW.out]; by_cases h : zq = 1 <;> simp [h], hB4⟩

/-- Whether a point is one of the grid. -/
def whPt (p q r s : Int) : Bool := whOK p q && whOK r s && decide (goodV p r = 0)
/-- A number, or 0. -/
def pick0 (b : Bool) (x : Int) : Int := if b then x else 0
theorem pick0_t (x : Int) : pick0 true x = x := rfl
theorem pick0_f (x : Int) : pick0 false x = 0 := rfl
def RetW (w : World) (x y : Int) (b : Bool) (e : Ending) (w' : World) : Prop := e = .returned (.tuple #[.agg #[.int .i64 x, .int .i64 y], .bool b]) ∧ Below w.heap.size w w'
set_option maxRecDepth 100000 in
set_option maxHeartbeats 1600000 in
theorem PWhole_any {a : PV} {p q r s : Int} {w : World} (ha : a.is w p q r s) : Calls Tryd.prog 31 #[.agg #[.bool a.x.p.neg, .slice a.x.p.A a.x.p.n a.x.p.c, .bool a.x.l.neg, .slice a.x.l.A a.x.l.n a.x.l.c, .bool a.y.p.neg, .slice a.y.p.A a.y.p.n a.y.p.c, .bool a.y.l.neg, .slice a.y.l.A a.y.l.n a.y.l.c]] w (RetW w (pick0 (whPt p q r s) p) (pick0 (whPt p q r s) r) (whPt p q r s)) := by
  go_enter Tryd.func31, Tryd.ntmps31
  go_upto_region 1 with fail
  have hS1 := (Own.newPt w 31 a).alloc (.cells #[.int .i64 0, .int .i64 0] 40)
  have hS2 := Own.new2 (w.alloc (.cells #[.bool a.x.p.neg, .slice a.x.p.A a.x.p.n a.x.p.c, .bool a.x.l.neg, .slice a.x.l.A a.x.l.n a.x.l.c, .bool a.y.p.neg, .slice a.y.p.A a.y.p.n a.y.p.c, .bool a.y.l.neg, .slice a.y.l.A a.y.l.n a.y.l.c] 31)) 40 (.int .i64 0) (.int .i64 0)
  have hB : Below w.heap.size w ((w.alloc (.cells #[.bool a.x.p.neg, .slice a.x.p.A a.x.p.n a.x.p.c, .bool a.x.l.neg, .slice a.x.l.A a.x.l.n a.x.l.c, .bool a.y.p.neg, .slice a.y.p.A a.y.p.n a.y.p.c, .bool a.y.l.neg, .slice a.y.l.A a.y.l.n a.y.l.c] 31)).alloc (.cells #[.int .i64 0, .int .i64 0] 40)) := by go_grown
  have hgs : (w.alloc (.cells #[.bool a.x.p.neg, .slice a.x.p.A a.x.p.n a.x.p.c, .bool a.x.l.neg, .slice a.x.l.A a.x.l.n a.x.l.c, .bool a.y.p.neg, .slice a.y.p.A a.y.p.n a.y.p.c, .bool a.y.l.neg, .slice a.y.l.A a.y.l.n a.y.l.c] 31)).heap.size = w.heap.size + 1 := by simp
  rw [hgs] at hS2
  clear hgs
  generalize (w.alloc (.cells #[.bool a.x.p.neg, .slice a.x.p.A a.x.p.n a.x.p.c, .bool a.x.l.neg, .slice a.x.l.A a.x.l.n a.x.l.c, .bool a.y.p.neg, .slice a.y.p.A a.y.p.n a.y.p.c, .bool a.y.l.neg, .slice a.y.l.A a.y.l.n a.y.l.c] 31)).alloc (.cells #[.int .i64 0, .int .i64 0] 40) = W at hS1 hS2 hB ⊢
  have haW := ha.on hB
  obtain ⟨b1, hb1⟩ : ∃ b1, b1 = w.heap.size := ⟨_, rfl⟩
  obtain ⟨b2, hb2⟩ : ∃ b2, b2 = w.heap.size + 1 := ⟨_, rfl⟩
  have hw2 : w.heap.size ≤ b2 := by omega
  rw [← hb2] at hS2 ⊢
  rw [← hb1] at hS1 ⊢
  clear hb1 hb2
  have l0 := hS1.c0
  have l1 := hS1.c1
  have l2 := hS1.c2
  have l3 := hS1.c3
  go_wp2_with fail
  refine (integer_any haW.x).mono ?_
  rintro e w1 ⟨rfl, k1⟩
  have hS1 := hS1.on k1
  have hS2 := hS2.on k1
  have haW := haW.on k1
  have hB := Below.call hB k1
  clear l0 l1 l2 l3
  have l4 := hS1.c4
  have l5 := hS1.c5
  have l6 := hS1.c6
  have l7 := hS1.c7
  go_wp2_with fail
  refine (integer_any haW.y).mono ?_
  rintro e w2 ⟨rfl, k2⟩
  have hS1 := hS1.on k2
  have hS2 := hS2.on k2
  have hB := Below.call hB k2
  clear l4 l5 l6 l7
  go_upto_region 4 with fail
  have k3 := below_new w2 (.cells #[.int .i64 (sm p), .int .i64 (sm r)] 40)
  have hQ := Own.new2 w2 40 (.int .i64 (sm p)) (.int .i64 (sm r))
  generalize w2.alloc (.cells #[.int .i64 (sm p), .int .i64 (sm r)] 40) = w3 at k3 hQ ⊢
  have hS2 := hS2.on k3
  have hB := Below.call hB k3
  have z0 := hS2.c0
  have z1 := hS2.c1
  have f0 := hS2.frozen 0
  have f1 := hS2.frozen 1
  have hO0 := hS2.put2 (.int .i64 0) (.int .i64 0)
  have q0 := hO0.c0
  have q1 := hO0.c1
  have hb0 := Below.put2 hB hw2 (.int .i64 0) (.int .i64 0)
  have y0 := hQ.c0
  have y1 := hQ.c1
  obtain ⟨ok, hok⟩ : ∃ ok, ok = whOK p q := ⟨_, rfl⟩
  obtain ⟨is_, his⟩ : ∃ is_, is_ = whOK r s := ⟨_, rfl⟩
  rw [← hok, ← his]
  have HOK := Lib.hid hok
  have HIS := Lib.hid his
  clear hok his hO0
  cases ok
  · have HV : Hid (whPt p q r s = false) := Lib.hid (by rw [whPt, ← HOK.out]; simp)
    have HB := Lib.hid hb0
    clear hb0
    go_wp2
    exact bodyPost_ret (v := .tuple #[.agg #[.int .i64 0, .int .i64 0], .bool false]) (by simp [results, Tryd.results31, go_sem, q0, q1]) rfl ⟨by rw [HV.out]; simp [pick0], HB.out⟩
  · cases is_
    · have HV : Hid (whPt p q r s = false) := Lib.hid (by rw [whPt, ← HIS.out]; simp)
      have HB := Lib.hid hb0
      clear hb0
      go_wp2
      exact bodyPost_ret (v := .tuple #[.agg #[.int .i64 0, .int .i64 0], .bool false]) (by simp [results, Tryd.results31, go_sem, q0, q1]) rfl ⟨by rw [HV.out]; simp [pick0], HB.out⟩
    · have hp : sm p = p := by
        have := HOK.out
        simp [whOK] at this
        simp [sm, this]
      have hr : sm r = r := by
        have := HIS.out
        simp [whOK] at this
        simp [sm, this]
      rw [hp] at hQ y0
      rw [hr] at hQ y1
      have HP := Lib.hid hp
      have HR := Lib.hid hr
      clear hp hr hb0 q0 q1
      go_wp2_with fail
      refine (PValid_any p r _).mono ?_
      rintro e w4 ⟨rfl, k4⟩
      have hS2 := hS2.on k4
      have hQ := hQ.on k4
      have hB := Below.call hB k4
      clear z0 z1 f0 f1 y0 y1
      have z0 := hS2.c0
      have z1 := hS2.c1
      have f0 := hS2.frozen 0
      have f1 := hS2.frozen 1
      have y0 := hQ.c0
      have y1 := hQ.c1
      rcases goodV_cases p r with hg | hg
      · have HV : Hid (whPt p q r s = true) := Lib.hid (by rw [whPt, ← HOK.out, ← HIS.out, hg]; simp)
        rw [hg]
        have hO0 := hS2.put2 (.int .i64 p) (.int .i64 r)
        have q0 := hO0.c0
        have q1 := hO0.c1
        have HB := Lib.hid (Below.put2 hB hw2 (.int .i64 p) (.int .i64 r))
        clear hg hO0
        go_wp2
        exact bodyPost_ret (v := .tuple #[.agg #[.int .i64 p, .int .i64 r], .bool true]) (by simp [results, Tryd.results31, go_sem, q0, q1]) rfl ⟨by rw [HV.out]; simp [pick0], HB.out⟩
      · have HV : Hid (whPt p q r s = false) := Lib.hid (by rw [whPt, ← HOK.out, ← HIS.out, hg]; simp)
        rw [hg]
        have hO0 := hS2.put2 (.int .i64 0) (.int .i64 0)
        have q0 := hO0.c0
        have q1 := hO0.c1
        have HB := Lib.hid (Below.put2 hB hw2 (.int .i64 0) (.int .i64 0))
        clear hg hO0
        go_wp2
        exact bodyPost_ret (v := .tuple #[.agg #[.int .i64 0, .int .i64 0], .bool false]) (by simp [results, Tryd.results31, go_sem, q0, q1]) rfl ⟨by rw [HV.out]; simp [pick0], HB.out⟩
end Go.Proofs.YthcpaagfgkbjaaaDoor
