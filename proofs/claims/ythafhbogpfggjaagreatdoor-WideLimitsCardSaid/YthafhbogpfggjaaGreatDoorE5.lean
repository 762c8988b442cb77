/-
  Chapter 03's reference: Mul.
-/
import Derived.Test.YthafhbogpfggjaaGreatDoorE4
namespace Go.Proofs.YthafhbogpfggjaaGreatDoor
open Go.RowKit
open Dig (val Ws Nz)

theorem make_int (n : Nat) (hn : n ≤ 1099511627776) (m : Int) (hm : m = (n : Int)) (u : World) :
    (Instr.makeSlice 41 (.int .i64 m) (.int .i64 m)).run Tryz.prog u = .ok (.slice (some ⟨u.heap.size, 0, none⟩) n n) (u.alloc (.cells (List.replicate n (d64 0)).toArray 3)) := by
  obtain ⟨i0, hi, hz0, hz1, hz2⟩ := info_parts int_info
  exact run_make1 _ _ i0 _ Tryz.underlying41 hi hz0 hz1 rfl (by rw [hz2]; decide) n hn m hm u
/-- The state of a product: S is what the result holds. -/
structure MSt (w : World) (go : Nat) (n : Nat) (z : Nat) (S : List Nat) (wr : World) : Prop where
  len : S.length = n
  ws : Ws S
  zero : ∀ j, z ≤ j → S.getD j 0 = 0
  out : Own wr go 3 (S.map d64)
  bel : Below w.heap.size w wr
theorem MSt.cell {w : World} {go n z : Nat} {S : List Nat} {wr : World} (h : MSt w go n z S wr) {j : Nat} (hj : j < n) : wr.cell? ⟨go, j, none⟩ = some (.int .i64 (S.getD j 0 : Nat)) := by
  have hl := h.len
  rw [h.out.cell, List.getElem?_map, List.getElem?_eq_getElem (by omega), Dig.getD_lt (by omega)]; rfl
theorem MSt.on {w : World} {go n z : Nat} {S : List Nat} {wr w' : World} (h : MSt w go n z S wr) (hb : Below wr.heap.size wr w') : MSt w go n z S w' :=
  ⟨h.len, h.ws, h.zero, h.out.on hb, h.bel.trans (hb.mono h.bel.size)⟩
theorem MSt.set_ {w : World} {go n z : Nat} {S : List Nat} {wr : World} (h : MSt w go n z S wr) (hB : w.heap.size ≤ go) {j x z' : Nat} (hx : x < 10000) (hz : z ≤ z') (hj : j < z') {s : Int} (hs : s = (x : Int)) :
    MSt w go n z' (S.set j x) (wr.setCell ⟨go, j, none⟩ (.int .i64 s)) := by
  subst hs
  refine ⟨by simp [h.len], h.ws.set j hx, fun i hi => ?_, ?_, h.bel.setCell hB _⟩
  · have := h.zero i (by omega)
    rw [List.getD_eq_getElem?_getD, List.getElem?_set_ne (by omega), ← List.getD_eq_getElem?_getD, this]
  · have := h.out.set_ j (d64 x)
    rw [← List.map_set] at this
    exact this
theorem MSt.dv {w : World} {go n z : Nat} {S : List Nat} {wr : World} (h : MSt w go n z S wr) (hn : n ≤ many) {m : Nat} (hv : val S = m) : (⟨some ⟨go, 0, none⟩, n, n⟩ : DV).is wr fun l => val l = m ∧ l.length ≤ many := by
  have hm : many = 65536 := rfl
  exact ⟨S, h.len, ⟨h.out.sl h.out.lt, h.ws, by rw [h.len]; exact Nat.le_refl _, by show n ≤ maxLen; unfold maxLen; omega⟩, hv, by rw [h.len]; exact hn⟩
theorem mul_lim4 {x y : Nat} (hx : x < 10000) (hy : y < 10000) : x * y ≤ 99980001 := by
  have : x * y ≤ 9999 * 9999 := Nat.mul_le_mul (by omega) (by omega)
  omega
theorem sgn_mul4 {p q : Bool} {a b : Int} (ha : a = sgn p a.natAbs) (hb : b = sgn q b.natAbs) : sgn (p != q) (a.natAbs * b.natAbs) = a * b := by
  rw [ha, hb, rsgn_abs, rsgn_abs]
  unfold sgn
  cases p <;> cases q <;> simp [Int.mul_neg, Int.neg_mul]
set_option maxRecDepth 100000 in
set_option maxHeartbeats 3200000 in
theorem rMul_any {x y : IV} {w : World} {p q : Int} (hx : NI x w p) (hy : NI y w q) (hn : x.n + y.n ≤ many) :
    Calls Tryz.prog 44 #[.agg #[.bool x.neg, .slice x.A x.n x.c], .agg #[.bool y.neg, .slice y.A y.n y.c]] w (RetN w (p * q)) := by
  have HZ := Lib.hid (sgn_mul4 hx.val hy.val)
  obtain ⟨a, e1, e2, e3, e4, e5, e6⟩ := hx.abs
  obtain ⟨b, f1, f2, f3, f4, f5, f6⟩ := hy.abs
  obtain ⟨xneg, A, xn, ca⟩ := x
  obtain ⟨yneg, B, yn, cb⟩ := y
  simp only at e1 e2 e3 f1 f2 f3 hn HZ
  subst e1 f1
  have hA0 := e3.sl
  have hB0 := f3.sl
  have hwa := e3.ws
  have hwb := f3.ws
  have ca1 := e3.cap
  have cb1 := f3.cap
  have ca2 := e3.mx
  have cb2 := f3.mx
  unfold maxLen at ca2 cb2
  rw [← e5, ← f5] at HZ
  have hnm := hn
  unfold many at hn
  clear hx hy e2 e3 e4 e5 e6 f2 f3 f4 f5 f6
  have hmk := make_int (a.length + b.length) (by omega) ((a.length : Int) + (b.length : Int)) (by omega)
  go_enter Tryz.func44, Tryz.ntmps44
  go_upto_region 1 with fail
  refine wp_new3 fun W hA hB hO hBel => ?_
  replace hA0 := hA0.on hBel
  replace hB0 := hB0.on hBel
  obtain ⟨r0, r1⟩ := hA.rules2
  obtain ⟨s0, s1⟩ := hB.rules2
  have hW := Below.refl W.heap.size W
  go_wp2
  clear hW
  go_loopw [6] (fun i wr => ∃ (k : Nat) (S : List Nat), k ≤ a.length ∧ i = .int .i64 k ∧ Hid (val S = val (a.take k) * val b) ∧ MSt W W.heap.size (a.length + b.length) (k + b.length) S wr)
    (fun i _ => a.length - (intOf i).toNat)
  case atStart => exact ⟨0, List.replicate (a.length + b.length) 0, by omega, rfl, Lib.hid (by simp [val, Dig.val_replicate]), by simp, Ws.replicate _, fun j _ => by simp [List.getD_eq_getElem?_getD, List.getElem?_replicate]; split <;> rfl, by simpa using Own.rep W 3 (a.length + b.length) (d64 0), by go_grown⟩
  case round =>
    obtain ⟨i, S, hi, rfl, hv, hst⟩ := hrel
    have hbr := hst.bel
    by_cases hlt : i < a.length
    · obtain ⟨g1, o1, rfl, hg1, hc1⟩ := hA0.d64at (i := i) hlt
      have ba := hwa.get hlt
      have hgx := Dig.getD_lt hlt
      obtain ⟨x, hx⟩ : ∃ x, x = a[i] := ⟨_, rfl⟩
      rw [← hx] at hc1 ba hgx
      have HEA := Lib.hid hgx
      clear hx hgx
      obtain ⟨wo, rfl⟩ : ∃ wo : World, wo = wr := ⟨_, rfl⟩
      go_wp2
      clear hbr
      go_loopw [8, 7] (fun ki cy wi => ∃ (k : Nat) (S2 : List Nat) (cc : Nat), k ≤ b.length ∧ ki = .int .i64 k ∧ cy = .int .i64 (cc : Nat) ∧ cc < 10000 ∧
          Hid (val S2 + cc * 10000 ^ (i + k) = val S + x * val (b.take k) * 10000 ^ i) ∧ MSt W W.heap.size (a.length + b.length) (i + b.length) S2 wi)
        (fun ki _ _ => b.length - (intOf ki).toNat)
      case atStart => exact ⟨0, S, 0, by omega, rfl, rfl, by omega, Lib.hid (by simp [val]), hst⟩
      case round =>
        obtain ⟨k, S2, cc, hk, rfl, rfl, hcc, hv2, hs2⟩ := hrel
        have hbr := hs2.bel
        by_cases hkl : k < b.length
        · obtain ⟨g2, o2, rfl, hg2, hc2⟩ := hB0.d64at (i := k) hkl
          have bb := hwb.get hkl
          have hgy := Dig.getD_lt hkl
          obtain ⟨y, hy⟩ : ∃ y, y = b[k] := ⟨_, rfl⟩
          rw [← hy] at hc2 bb hgy
          have hj : i + k < a.length + b.length := by omega
          have hsc := hs2.cell hj
          have hsf := hs2.out.frozen (i + k)
          have hsw := hs2.ws.getD (i + k)
          obtain ⟨s, hs⟩ : ∃ s, s = S2.getD (i + k) 0 := ⟨_, rfl⟩
          have hm := Dig.mul_step (b := b) (x := x) (by rw [hs2.len]; exact hj) hv2.out (t := x * y + s + cc) (by rw [hgy, ← hs])
          rw [← hs] at hsc hsw
          clear hs hy hgy
          have e : ((x * y : Nat) : Int) = (x : Int) * (y : Int) := Int.natCast_mul _ _
          have hp1 := mul_lim4 ba bb
          obtain ⟨t, ht⟩ : ∃ t, t = x * y + s + cc := ⟨_, rfl⟩
          rw [← ht] at hm
          have HT := Lib.hid (show (t : Int) = (s : Int) + (x : Int) * (y : Int) + (cc : Int) by omega)
          have hp0 : (0 : Int) ≤ (x : Int) * (y : Int) := by omega
          have hp2 : (x : Int) * (y : Int) ≤ 99980001 := by omega
          have ht1 : t ≤ 99999999 := by omega
          have HM := Lib.hid hm
          clear hm e hp1 ht
          have hAi := hA.on hs2.bel
          have hBi := hB.on hs2.bel
          have hCs : ∀ wz, Below wr.heap.size wr wz → wz.cell? ⟨W.heap.size, i + k, none⟩ = some (.int .i64 (s : Int)) := fun wz hz => (hz.cell (World.block_lt_of_cell? _ _ hsc)).trans hsc
          have hCx : ∀ wz, Below wr.heap.size wr wz → wz.cell? ⟨g1, o1 + i, none⟩ = some (.int .i64 (x : Int)) := fun wz hz => ((hbr.trans (hz.mono hbr.size)).cell (p := ⟨g1, o1 + i, none⟩) hg1).trans hc1
          have hCy : ∀ wz, Below wr.heap.size wr wz → wz.cell? ⟨g2, o2 + k, none⟩ = some (.int .i64 (y : Int)) := fun wz hz => ((hbr.trans (hz.mono hbr.size)).cell (p := ⟨g2, o2 + k, none⟩) hg2).trans hc2
          go_upto_region 9 with fail
          refine wp_region_specs wr [Spec.eq (.slice (some ⟨W.heap.size, 0, none⟩) (a.length + b.length) (a.length + b.length)), Spec.eq (.int .i64 (i : Int)), Spec.eq (.int .i64 (k : Int)), Spec.eq (.int .i64 ((i : Int) + (k : Int))), Spec.eq (.pointer (some ⟨W.heap.size, i + k, none⟩)), Spec.eq (.int .i64 (s : Int)), Spec.eq (.pointer (some ⟨w.heap.size, 1, none⟩)), Spec.eq (.slice (some ⟨g1, o1, none⟩) a.length ca), Spec.eq (.int .i64 (i : Int)), Spec.eq (.pointer (some ⟨g1, o1 + i, none⟩)), Spec.eq (.int .i64 (x : Int)), Spec.eq (.pointer (some ⟨w.heap.size + 1, 1, none⟩)), Spec.eq (.slice (some ⟨g2, o2, none⟩) b.length cb), Spec.eq (.int .i64 (k : Int)), Spec.eq (.pointer (some ⟨g2, o2 + k, none⟩)), Spec.eq (.int .i64 (y : Int)), Spec.eq (.int .i64 ((x : Int) * (y : Int))), Spec.eq (.int .i64 ((s : Int) + (x : Int) * (y : Int))), Spec.eq (.int .i64 (cc : Int)), Spec.eq (.int .i64 (t : Int)), Spec.eq (.int .i64 (t : Int))]
              (by kernel_rfl) (by kernel_rfl) rfl (by kernel_rfl) (Below.drew (Below.refl _ _)) ?_ ?_
          ·
            refine RegSteps.cons ?_ ?_
            · intro _ az wz hC hF hD _ K hK
              have q5 : az.tmps[5]? = some (.slice (some ⟨W.heap.size, 0, none⟩) (a.length + b.length) (a.length + b.length)) := hF 5 rfl
              clear hF hD
              refine want_none rfl ?_
              go_simp
              exact hK _ _ hC (Below.refl _ _) rfl
            refine RegSteps.cons ?_ ?_
            · intro _ az wz hC hF hD _ K hK
              have q6 : az.tmps[6]? = some (.int .i64 (i : Int)) := hF 6 rfl
              clear hF hD
              refine want_none rfl ?_
              go_simp
              exact hK _ _ hC (Below.refl _ _) rfl
            refine RegSteps.cons ?_ ?_
            · intro _ az wz hC hF hD _ K hK
              have q8 : az.tmps[8]? = some (.int .i64 (k : Int)) := hF 8 rfl
              clear hF hD
              refine want_none rfl ?_
              go_simp
              exact hK _ _ hC (Below.refl _ _) rfl
            refine RegSteps.cons ?_ ?_
            · intro _ az wz hC hF hD _ K hK
              obtain ⟨_, q33, rfl⟩ := dep hD 1 rfl rfl rfl rfl
              obtain ⟨_, q34, rfl⟩ := dep hD 2 rfl rfl rfl rfl
              clear hF hD
              refine want_none rfl ?_
              go_simp
              try go_ints
              exact hK _ _ hC (Below.refl _ _) rfl
            refine RegSteps.cons ?_ ?_
            · intro _ az wz hC hF hD _ K hK
              obtain ⟨_, q32, rfl⟩ := dep hD 0 rfl rfl rfl rfl
              obtain ⟨_, q35, rfl⟩ := dep hD 3 rfl rfl rfl rfl
              have j1 : (0 : Int) ≤ (i : Int) + (k : Int) := by omega
              have j2 : (i : Int) + (k : Int) < (a.length : Int) + (b.length : Int) := by omega
              have j3 : ((i : Int) + (k : Int)).toNat = i + k := by omega
              clear hF hD
              refine want_none rfl ?_
              go_simp
              exact hK _ _ hC (Below.refl _ _) rfl
            refine RegSteps.cons ?_ ?_
            · intro _ az wz hC hF hD _ K hK
              obtain ⟨_, q36, rfl⟩ := dep hD 4 rfl rfl rfl rfl
              have lc := hCs wz hC
              clear hF hD
              refine want_none rfl ?_
              go_simp
              exact hK _ _ hC (Below.refl _ _) rfl
            refine RegSteps.cons ?_ ?_
            · intro _ az wz hC hF hD _ K hK
              have q2 : az.tmps[2]? = some (.pointer (some ⟨w.heap.size, 0, none⟩)) := hF 2 rfl
              clear hF hD
              refine want_none rfl ?_
              go_simp
              exact hK _ _ hC (Below.refl _ _) rfl
            refine RegSteps.cons ?_ ?_
            · intro _ az wz hC hF hD _ K hK
              obtain ⟨_, q38, rfl⟩ := dep hD 6 rfl rfl rfl rfl
              obtain ⟨l0, l1, _⟩ := (hAi.on hC).all2
              clear hF hD
              refine want_none rfl ?_
              go_simp
              exact hK _ _ hC (Below.refl _ _) rfl
            refine RegSteps.cons ?_ ?_
            · intro _ az wz hC hF hD _ K hK
              have q6 : az.tmps[6]? = some (.int .i64 (i : Int)) := hF 6 rfl
              clear hF hD
              refine want_none rfl ?_
              go_simp
              exact hK _ _ hC (Below.refl _ _) rfl
            refine RegSteps.cons ?_ ?_
            · intro _ az wz hC hF hD _ K hK
              obtain ⟨_, q39, rfl⟩ := dep hD 7 rfl rfl rfl rfl
              obtain ⟨_, q40, rfl⟩ := dep hD 8 rfl rfl rfl rfl
              clear hF hD
              refine want_none rfl ?_
              go_simp
              exact hK _ _ hC (Below.refl _ _) rfl
            refine RegSteps.cons ?_ ?_
            · intro _ az wz hC hF hD _ K hK
              obtain ⟨_, q41, rfl⟩ := dep hD 9 rfl rfl rfl rfl
              have lc := hCx wz hC
              clear hF hD
              refine want_none rfl ?_
              go_simp
              exact hK _ _ hC (Below.refl _ _) rfl
            refine RegSteps.cons ?_ ?_
            · intro _ az wz hC hF hD _ K hK
              have q3 : az.tmps[3]? = some (.pointer (some ⟨w.heap.size + 1, 0, none⟩)) := hF 3 rfl
              clear hF hD
              refine want_none rfl ?_
              go_simp
              exact hK _ _ hC (Below.refl _ _) rfl
            refine RegSteps.cons ?_ ?_
            · intro _ az wz hC hF hD _ K hK
              obtain ⟨_, q43, rfl⟩ := dep hD 11 rfl rfl rfl rfl
              obtain ⟨l0, l1, _⟩ := (hBi.on hC).all2
              clear hF hD
              refine want_none rfl ?_
              go_simp
              exact hK _ _ hC (Below.refl _ _) rfl
            refine RegSteps.cons ?_ ?_
            · intro _ az wz hC hF hD _ K hK
              have q8 : az.tmps[8]? = some (.int .i64 (k : Int)) := hF 8 rfl
              clear hF hD
              refine want_none rfl ?_
              go_simp
              exact hK _ _ hC (Below.refl _ _) rfl
            refine RegSteps.cons ?_ ?_
            · intro _ az wz hC hF hD _ K hK
              obtain ⟨_, q44, rfl⟩ := dep hD 12 rfl rfl rfl rfl
              obtain ⟨_, q45, rfl⟩ := dep hD 13 rfl rfl rfl rfl
              clear hF hD
              refine want_none rfl ?_
              go_simp
              exact hK _ _ hC (Below.refl _ _) rfl
            refine RegSteps.cons ?_ ?_
            · intro _ az wz hC hF hD _ K hK
              obtain ⟨_, q46, rfl⟩ := dep hD 14 rfl rfl rfl rfl
              have lc := hCy wz hC
              clear hF hD
              refine want_none rfl ?_
              go_simp
              exact hK _ _ hC (Below.refl _ _) rfl
            refine RegSteps.cons ?_ ?_
            · intro _ az wz hC hF hD _ K hK
              obtain ⟨_, q42, rfl⟩ := dep hD 10 rfl rfl rfl rfl
              obtain ⟨_, q47, rfl⟩ := dep hD 15 rfl rfl rfl rfl
              clear hF hD
              refine want_none rfl ?_
              go_simp
              try go_ints
              exact hK _ _ hC (Below.refl _ _) rfl
            refine RegSteps.cons ?_ ?_
            · intro _ az wz hC hF hD _ K hK
              obtain ⟨_, q37, rfl⟩ := dep hD 5 rfl rfl rfl rfl
              obtain ⟨_, q48, rfl⟩ := dep hD 16 rfl rfl rfl rfl
              clear hF hD
              refine want_none rfl ?_
              go_simp
              try go_ints
              exact hK _ _ hC (Below.refl _ _) rfl
            refine RegSteps.cons ?_ ?_
            · intro _ az wz hC hF hD _ K hK
              have q7 : az.tmps[7]? = some (.int .i64 (cc : Int)) := hF 7 rfl
              clear hF hD
              refine want_none rfl ?_
              go_simp
              exact hK _ _ hC (Below.refl _ _) rfl
            refine RegSteps.cons ?_ ?_
            · intro _ az wz hC hF hD _ K hK
              obtain ⟨_, q49, rfl⟩ := dep hD 17 rfl rfl rfl rfl
              obtain ⟨_, q50, rfl⟩ := dep hD 18 rfl rfl rfl rfl
              clear hF hD
              refine want_none rfl ?_
              go_simp
              try go_ints
              exact hK _ _ hC (Below.refl _ _) (by rw [HT.out]; rfl)
            refine RegSteps.cons ?_ ?_
            · intro _ az wz hC hF hD _ K hK
              obtain ⟨_, q51, rfl⟩ := dep hD 19 rfl rfl rfl rfl
              clear hF hD
              refine want_none rfl ?_
              go_simp
              exact hK _ _ hC (Below.refl _ _) rfl
            exact RegSteps.nil
          intro w7 hC7
          rintro _ rfl _ rfl _ rfl _ rfl _ rfl _ rfl _ rfl _ rfl _ rfl _ rfl _ rfl _ rfl _ rfl _ rfl _ rfl _ rfl _ rfl _ rfl _ rfl _ rfl _ rfl
          simp only [FinOK, Act.put, List.setIfInBounds_toArray, List.set_cons_zero, List.set_cons_succ]
          have hs3 := hs2.on hC7
          clear hs2 hbr hAi hBi hCs hCx hCy hsc hsf r0 r1 s0 s1
          have hn := fun (s' : Int) (h' : s' = (t % 10000 : Nat)) => hs3.set_ (Nat.le_refl _) (j := i + k) (x := t % 10000) (by omega) (Nat.le_refl _) (by omega) h'
          have HN := Lib.hid hn
          have hsc := hs3.cell hj
          have hsf := hs3.out.frozen (i + k)
          clear hn hs3 hC7
          have ht0 : (0 : Int) ≤ (t : Int) := by omega
          go_wp2
          go_roundw
          case rel => exact ⟨k + 1, _, t / 10000, by omega, by go_num, by go_num, by omega, HM, HN.out _ (by omega)⟩
          case measure => simp [intOf] <;> omega
        · obtain rfl : k = b.length := by omega
          have hj : i + b.length < a.length + b.length := by omega
          have hsc := hs2.cell hj
          have hz0 := hs2.zero (i + b.length) (Nat.le_refl _)
          rw [hz0] at hsc
          have hsf := hs2.out.frozen (i + b.length)
          have hn := fun (s' : Int) (h' : s' = (cc : Nat)) => hs2.set_ (z' := i + 1 + b.length) (Nat.le_refl _) (j := i + b.length) (x := cc) hcc (by omega) (by omega) h'
          have hm := Dig.mul_row (by rw [hs2.len]; exact hj) hz0 rfl hv2.out
          have hm2 : val (S2.set (i + b.length) cc) = val (a.take (i + 1)) * val b := by
            rw [hm, hv.out, Dig.val_take_succ, HEA.out]; grind
          have HN := Lib.hid hn
          have HM := Lib.hid hm2
          clear hn hm hm2 hz0
          go_wp2
          go_roundw
          case rel => exact ⟨i + 1, _, by omega, by go_num, HM, HN.out _ (by omega)⟩
          case measure => simp [intOf] <;> omega
    · obtain rfl : i = a.length := by omega
      have hd := hst.dv hnm (m := val a * val b) (by rw [hv.out, List.take_of_length_le (Nat.le_refl _)])
      go_wp2_with fail
      refine (nnormal (d := ⟨some ⟨W.heap.size, 0, none⟩, a.length + b.length, a.length + b.length⟩) _ hd HZ.out).mono ?_
      rintro e w5 ⟨y, rfl, k5, hy⟩
      have hO5 := (hO.on hbr).on k5
      obtain ⟨z0, z1, f0, f1⟩ := hO5.all2
      have HF := Lib.hid (retN_end (Below.call (Below.call hBel hbr) k5) (by omega) hO5 (by simp) (by simp) hy)
      have hO6 := hO5.put2 (.bool y.neg) (.slice y.A y.n y.c)
      obtain ⟨q0, q1, _⟩ := hO6.all2
      clear hO5 hO6 hO hA hB r0 r1 s0 s1 hbr hy hd hst
      go_wp2
      exact bodyPost_ret (v := .agg #[.bool y.neg, .slice y.A y.n y.c]) (by simp [results, Tryz.results44, go_sem, q0, q1]) rfl HF.out
end Go.Proofs.YthafhbogpfggjaaGreatDoor

/-
  (second part)
-/
namespace Go.Proofs.YthafhbogpfggjaaGreatDoor
open Go.RowKit
open Dig (val Ws Nz)

theorem sgn_neg {s : Bool} {a : Int} (ha : a = sgn s a.natAbs) : sgn (!s) a.natAbs = -a := by
  cases s <;> simp only [sgn] at * <;> simp at * <;> omega
theorem NI.len_eq {x y : IV} {w w' : World} {a b : Int} (hx : NI x w a) (hy : NI y w' b) (h : a.natAbs = b.natAbs) : x.n ≤ y.n := by
  obtain ⟨l, e1, e2, e3, e4, e5, e6⟩ := hx.abs
  obtain ⟨m, f1, f2, f3, f4, f5, f6⟩ := hy.abs
  rw [← e1, ← f1, Dig.norm_eq e3.ws f3.ws e4 f4 (by omega)]
  exact Nat.le_refl _
set_option maxRecDepth 100000 in
set_option maxHeartbeats 800000 in
theorem rNeg_any {x : IV} {w : World} {a : Int} (hx : NI x w a) : Calls Tryz.prog 52 #[.agg #[.bool x.neg, .slice x.A x.n x.c]] w (RetN w (-a)) := by
  go_enter Tryz.func52, Tryz.ntmps52
  go_upto_region 1 with fail
  refine wp_new2 fun W hA hO hBel => ?_
  obtain ⟨r0, r1⟩ := hA.rules2
  have hW := Below.refl W.heap.size W
  have va := hx.val
  have HZ := Lib.hid (sgn_neg va)
  replace hx := hx.on hBel
  have hd := hx.dv
  clear va
  go_wp2_with fail
  refine (nnormal (d := ⟨x.A, x.n, x.c⟩) _ hd HZ.out).mono ?_
  rintro e w5 ⟨y, rfl, k5, hy⟩
  have hO5 := hO.on k5
  obtain ⟨z0, z1, f0, f1⟩ := hO5.all2
  have HF := Lib.hid (retN_end (Below.call hBel k5) (by omega) hO5 (by simp) (by simp) hy)
  have hO6 := hO5.put2 (.bool y.neg) (.slice y.A y.n y.c)
  obtain ⟨q0, q1, _⟩ := hO6.all2
  clear hO5 hO6 hO hA r0 r1 hW hy hd hx
  go_wp2
  exact bodyPost_ret (v := .agg #[.bool y.neg, .slice y.A y.n y.c]) (by simp [results, Tryz.results52, go_sem, q0, q1]) rfl HF.out
set_option maxRecDepth 100000 in
set_option maxHeartbeats 800000 in
theorem rSub_any {x y : IV} {w : World} {a b : Int} (hx : NI x w a) (hy : NI y w b) (h1 : x.n < many) (h2 : y.n < many) :
    Calls Tryz.prog 50 #[.agg #[.bool x.neg, .slice x.A x.n x.c], .agg #[.bool y.neg, .slice y.A y.n y.c]] w (RetN w (a - b)) := by
  rw [Int.sub_eq_add_neg]
  go_enter Tryz.func50, Tryz.ntmps50
  go_upto_region 1 with fail
  refine wp_new3 fun W hA hB hO hBel => ?_
  replace hx := hx.on hBel
  replace hy := hy.on hBel
  refine wp_region_last W [Spec.eq (.agg #[.bool x.neg, .slice x.A x.n x.c]), Spec.eq (.agg #[.bool y.neg, .slice y.A y.n y.c]), sN (-b), sN (a + -b)]
      rfl (by kernel_rfl) (by kernel_rfl) rfl (by kernel_rfl) (by kernel_rfl) (Below.drew (Below.refl _ _)) ?_ ?_
  ·
    refine RegSteps.cons ?_ ?_
    · intro _ az wz hC hF hD _ K hK
      have q2 : az.tmps[2]? = some (.pointer (some ⟨w.heap.size, 0, none⟩)) := hF 2 rfl
      obtain ⟨l0, l1, _⟩ := (hA.on hC).all2
      clear hF hD
      refine want_none rfl ?_
      go_simp
      exact hK _ _ hC (Below.refl _ _) rfl
    refine RegSteps.cons ?_ ?_
    · intro _ az wz hC hF hD _ K hK
      have q3 : az.tmps[3]? = some (.pointer (some ⟨w.heap.size + 1, 0, none⟩)) := hF 3 rfl
      obtain ⟨l0, l1, _⟩ := (hB.on hC).all2
      clear hF hD
      refine want_none rfl ?_
      go_simp
      exact hK _ _ hC (Below.refl _ _) rfl
    refine RegSteps.cons ?_ ?_
    · intro _ az wz hC hF hD _ K hK
      obtain ⟨_, q6, rfl⟩ := dep hD 1 rfl rfl rfl rfl
      clear hF hD
      refine want_none rfl ?_
      go_simp
      refine (rNeg_any (hy.on hC)).mono ?_
      rintro e wy ⟨x, rfl, k, hx⟩
      exact hK _ _ (Below.call hC k) k ⟨x, rfl, hx⟩
    refine RegSteps.cons ?_ ?_
    · intro _ az wz hC hF hD _ K hK
      obtain ⟨_, q5, rfl⟩ := dep hD 0 rfl rfl rfl rfl
      obtain ⟨_, q7, x7, rfl, hx7⟩ := dep hD 2 rfl rfl rfl rfl
      clear hF hD
      refine want_none rfl ?_
      go_simp
      refine (rAdd_any (hx.on hC) hx7 h1 (Nat.lt_of_le_of_lt (NI.len_eq hx7 (hy.on hC) (by omega)) h2)).mono ?_
      rintro e wy ⟨x, rfl, k, hx⟩
      exact hK _ _ (Below.call hC k) k ⟨x, rfl, hx⟩
    exact RegSteps.nil
  intro w5 hC5
  rintro _ rfl _ rfl _ ⟨y7, rfl, _⟩ _ ⟨y8, rfl, hy8⟩
  simp only [List.dropLast, FinOK, Act.put, List.setIfInBounds_toArray, List.set_cons_zero, List.set_cons_succ]
  intro K hK
  refine want_none rfl ?_
  obtain ⟨z0, z1, f0, f1⟩ := (hO.on hC5).all2
  go_simp
  refine hK _ _ ?_
  clear hK K
  have hO5 := (hO.on hC5).put2 (.bool y8.neg) (.slice y8.A y8.n y8.c)
  obtain ⟨q0, q1, _⟩ := hO5.all2
  have HF := Lib.hid (retN_end (Below.call hBel hC5) (by omega) (hO.on hC5) (by simp) (by simp) hy8)
  clear hO5 hO hA hB
  go_wp2
  exact bodyPost_ret (v := .agg #[.bool y8.neg, .slice y8.A y8.n y8.c]) (by simp [results, Tryz.results50, go_sem, q0, q1]) rfl HF.out
theorem cmp_nat {a b : Nat} : (a < b ∧ cmpI a b = -1) ∨ (a = b ∧ cmpI a b = 0) ∨ (b < a ∧ cmpI a b = 1) := by
  rcases Nat.lt_trichotomy a b with h | h | h
  · exact .inl ⟨h, cmpI_lt (by exact_mod_cast h)⟩
  · exact .inr (.inl ⟨h, cmpI_eq (by exact_mod_cast h)⟩)
  · exact .inr (.inr ⟨h, cmpI_gt (by exact_mod_cast h)⟩)
theorem cmp_pos {a b : Int} (ha : a = sgn false a.natAbs) (hb : b = sgn false b.natAbs) : cmpI a.natAbs b.natAbs = cmpI a b := by
  have h1 : (a.natAbs : Int) = a := by simp [sgn] at ha; omega
  have h2 : (b.natAbs : Int) = b := by simp [sgn] at hb; omega
  rw [h1, h2]
theorem cmp_neg {a b : Int} (ha : a = sgn true a.natAbs) (hb : b = sgn true b.natAbs) : cmpI b.natAbs a.natAbs = cmpI a b := by
  have h1 : (a.natAbs : Int) = -a := by simp [sgn] at ha; omega
  have h2 : (b.natAbs : Int) = -b := by simp [sgn] at hb; omega
  rw [h1, h2]
  rcases Int.lt_trichotomy a b with h | h | h
  · rw [cmpI_lt h, cmpI_lt (by omega)]
  · rw [cmpI_eq h, cmpI_eq (by omega)]
  · rw [cmpI_gt h, cmpI_gt (by omega)]
set_option maxRecDepth 100000 in
set_option maxHeartbeats 800000 in
theorem rCompare_any {x y : IV} {w : World} {a b : Int} (hx : NI x w a) (hy : NI y w b) :
    Calls Tryz.prog 54 #[.agg #[.bool x.neg, .slice x.A x.n x.c], .agg #[.bool y.neg, .slice y.A y.n y.c]] w (RetInt w (cmpI a b)) := by
  have xa := hx.abs
  have ya := hy.abs
  obtain ⟨_, _, _, _, _, _, na⟩ := xa
  obtain ⟨_, _, _, _, _, _, nb⟩ := ya
  have va := hx.val
  have vb := hy.val
  obtain ⟨xn, xA, xl, xc⟩ := x
  obtain ⟨yn, yA, yl, yc⟩ := y
  cases xn <;> cases yn
  · have HC := Lib.hid (cmp_pos va vb)
    clear va vb na nb
    go_enter Tryz.func54, Tryz.ntmps54
    go_upto_region 1 with fail
    refine wp_new2 fun W hA hB hBel => ?_
    obtain ⟨r0, r1⟩ := hA.rules2
    obtain ⟨s0, s1⟩ := hB.rules2
    have hW := Below.refl W.heap.size W
    replace hx := hx.on hBel
    replace hy := hy.on hBel
    go_wp2_with fail
    refine (ncompared hx hy).mono ?_
    rintro e w4 ⟨rfl, k4⟩
    have HB := Lib.hid (Below.call hBel k4)
    go_wp2
    go_returns
    exact ⟨by rw [← HC.out]; rfl, HB.out⟩
  · have HC := Lib.hid (show cmpI a b = 1 by
      simp at na nb
      exact cmpI_gt (by omega))
    clear va vb na nb
    go_enter Tryz.func54, Tryz.ntmps54
    go_upto_region 1 with fail
    refine wp_new2 fun W hA hB hBel => ?_
    obtain ⟨r0, r1⟩ := hA.rules2
    obtain ⟨s0, s1⟩ := hB.rules2
    have hW := Below.refl W.heap.size W
    go_wp2
    go_returns
    exact ⟨by rw [HC.out]; rfl, hBel⟩
  · have HC := Lib.hid (show cmpI a b = -1 by
      simp at na nb
      exact cmpI_lt (by omega))
    clear va vb na nb
    go_enter Tryz.func54, Tryz.ntmps54
    go_upto_region 1 with fail
    refine wp_new2 fun W hA hB hBel => ?_
    obtain ⟨r0, r1⟩ := hA.rules2
    obtain ⟨s0, s1⟩ := hB.rules2
    have hW := Below.refl W.heap.size W
    go_wp2
    go_returns
    exact ⟨by rw [HC.out]; rfl, hBel⟩
  · have HC := Lib.hid (cmp_neg va vb)
    clear va vb na nb
    go_enter Tryz.func54, Tryz.ntmps54
    go_upto_region 1 with fail
    refine wp_new2 fun W hA hB hBel => ?_
    obtain ⟨r0, r1⟩ := hA.rules2
    obtain ⟨s0, s1⟩ := hB.rules2
    have hW := Below.refl W.heap.size W
    replace hx := hx.on hBel
    replace hy := hy.on hBel
    go_wp2_with fail
    refine (ncompared hy hx).mono ?_
    rintro e w4 ⟨rfl, k4⟩
    have HB := Lib.hid (Below.call hBel k4)
    go_wp2
    go_returns
    exact ⟨by rw [← HC.out]; rfl, HB.out⟩
end Go.Proofs.YthafhbogpfggjaaGreatDoor
