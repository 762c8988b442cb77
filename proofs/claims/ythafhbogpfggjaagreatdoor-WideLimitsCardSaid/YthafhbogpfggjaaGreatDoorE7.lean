/-
  Chapter 03's reference: divided.
-/
import Derived.Test.YthafhbogpfggjaaGreatDoorE5
import Derived.Deep.Upon
namespace Go.Proofs.YthafhbogpfggjaaGreatDoor
open Go.RowKit
open Dig (val Ws Nz)

/-- append([]int{y}, d...). -/
theorem join_int {ops : Array Oper} {rest : List Oper} {o : Oper} {a : Act} {w : World} {Q : Exit → Act → World → Prop} (hgd : o.guard = none) (s x : Operand) (ho : o.op = .call { callee := .builtin .append, args := #[s, x], argTypes := #[41, 41] })
    (y : Nat) (hy : y < 10000) (d : DV) (l : List Nat) (hs : a.eval s = .slice (some ⟨w.heap.size, 0, none⟩) 1 1) (hx : a.eval x = .slice d.A d.n d.c) (hd : DigIs w d.A l d.c) (hl : l.length = d.n) (hn : d.n ≤ many)
    (h : ∀ (z : DV) w', Below w.heap.size w w' → z.is w' (fun k => k = y :: l) → wpList Tryz.prog ops Q rest (a.put o.dst (.slice z.A z.n z.c)) w') : wpList Tryz.prog ops Q (o :: rest) a (w.alloc (.cells #[.int .i64 (y : Int)] 3)) := by
  have hO := Own.new w 3 [.int .i64 (y : Int)]
  unfold many at hn
  obtain ⟨i0, hi, hz0, hz1, hz2⟩ := info_parts int_info
  by_cases h0 : d.n = 0
  · have hl0 : l = [] := List.eq_nil_of_length_eq_zero (by omega)
    subst hl0
    refine wpList_plain hgd fun K hK => ?_
    have hsrc : Src Tryz.prog i0.size 41 (.slice d.A d.n d.c) 0 [] (w.alloc (.cells #[.int .i64 (y : Int)] 3)) := by
      rw [h0]
      cases d.A with
      | none => exact Src.ofNil _ Tryz.underlying41 d.c
      | some ad => exact Src.ofSlice _ Tryz.underlying41 ad 0 d.c [] (by simp) (by simp) (by simp)
    have hrun := run_append_nothing (P := Tryz.prog) (w.alloc (.cells #[.int .i64 (y : Int)] 3)) 41 41 o.type 3 i0 Tryz.underlying41 hi (some ⟨w.heap.size, 0, none⟩) 1 1 (Nat.le_refl _) _ hsrc
    unfold Oper.wp
    simp [execOp, ho, resolve, invoke, builtin, hs, hx, hrun, Result.andThen]
    exact hK _ _ (h ⟨some ⟨w.heap.size, 0, none⟩, 1, 1⟩ _ (below_new w _) ⟨[y], rfl, ⟨hO.sl hO.lt, Ws.cons hy Ws.nil, by simp, by show 1 ≤ maxLen; unfold maxLen; omega⟩, rfl⟩)
  · obtain ⟨g, off, hA, hg, hc⟩ := hd.sl (by intro e; rw [List.map_eq_nil_iff] at e; subst e; exact h0 hl.symm)
    refine wpList_append_own _ hgd s x 41 ho w.heap.size 3 i0 (.int .i64 0) 1 8 Tryz.underlying41 hi hz0 hz1 hz2 rfl (by decide) (.slice (some ⟨w.heap.size, 0, none⟩) 1 1) 1 [.int .i64 (y : Int)] hs
      (World.ownsRow_lit w #[.int .i64 (y : Int)] 1 (Nat.le_refl _) (by unfold maxLen; omega) rfl) ⟨g, off, none⟩ d.n d.c (l.map d64) (by rw [hx, hA]) (by simp [hl]) ?_ ?_ (by unfold maxLen; omega) (by omega) (by simp) ?_
    · intro j u hu
      rw [show (⟨g, off, none⟩ : Addr).add j = ⟨g, off + j, none⟩ by cases j <;> rfl, World.cell?_alloc_lt _ _ _ hg]
      exact hc j u hu
    · intro u hu
      obtain ⟨k, _, rfl⟩ := List.mem_map.1 hu
      rfl
    · intro v' w' hown hgrow _
      have e : [Value.int .i64 (y : Int)] ++ l.map d64 = (y :: l).map d64 := rfl
      rw [e] at hown
      obtain ⟨A, c, hv, hdd, _⟩ := owns_dig hown (Ws.cons hy hd.ws)
      rw [hv]
      exact h ⟨A, (y :: l).length, c⟩ w' ((below_new w _).grown hgrow (by simp) (fun k hk => by simp [Value.ownBlock] at hk; omega)) ⟨y :: l, rfl, hdd, rfl⟩

/-- Digits without zeros at the end, of the value m. -/
def ND (d : DV) (w : World) (m : Nat) : Prop := d.is w fun l => Nz l ∧ val l = m ∧ l.length ≤ many
theorem ND.on {d : DV} {w w' : World} {m : Nat} (h : ND d w m) (hb : Below w.heap.size w w') : ND d w' m := DV.is.on h hb
theorem NI.nd {x : IV} {w : World} {z : Int} (h : NI x w z) {m : Nat} (hm : z.natAbs = m) : ND ⟨x.A, x.n, x.c⟩ w m := by
  obtain ⟨l, e1, e2, e3, e4, e5, e6⟩ := h.abs
  exact ⟨l, e1, e3, e4, by omega, by omega⟩
theorem ND.ni {d : DV} {w : World} {m : Nat} (h : ND d w m) : NI ⟨false, d.A, d.n, d.c⟩ w (m : Int) := by
  obtain ⟨l, e1, e2, e3, e4, e5⟩ := h
  exact ⟨l, e1, by show d.n ≤ many; omega, e2, e3, by simp, by rw [e4]; simp [sgn]⟩
theorem ND.nil (w : World) : ND ⟨none, 0, 0⟩ w 0 := ⟨[], rfl, DigIs.nil w, Nz.nil, rfl, by simp⟩
set_option maxRecDepth 100000 in
set_option maxHeartbeats 1600000 in
theorem rsmall_any {d : DV} {w : World} {m k : Nat} (hd : ND d w m) (hk : k < 10000) (hn : d.n < many) :
    Calls Tryz.prog 174 #[.slice d.A d.n d.c, .int .i64 (k : Int)] w (fun e w' => ∃ x : DV, e = .returned (.slice x.A x.n x.c) ∧ Below w.heap.size w w' ∧ ND x w' (m * k)) := by
  have HO : Hid (∀ u, Calls Tryz.prog 39 #[.int .i64 (k : Int)] u (RetN u k)) := Lib.hid fun u => rOf_any k u (by omega) (by omega)
  have e : ((m : Int) * (k : Int)).natAbs = m * k := by rw [Int.natAbs_mul]; simp
  have HE := Lib.hid e
  clear e
  go_enter Tryz.func174, Tryz.ntmps174
  go_wp2_with fail
  refine (HO.out _).mono ?_
  rintro e w1 ⟨x, rfl, k1, hx⟩
  have hx1 : x.n ≤ 1 := NI.len hx (by simp; omega)
  have hd1 := hd.on k1
  have hni := hd1.ni
  go_wp2_with fail
  refine (rMul_any hni hx (by show d.n + x.n ≤ many; omega)).mono ?_
  rintro e w2 ⟨y, rfl, k2, hy⟩
  have hB := Below.call k1 k2
  have hnd := hy.nd HE.out
  have hnd3 := hnd.on (below_new w2 (.cells #[.bool y.neg, .slice y.A y.n y.c] 44))
  have HF := Lib.hid (And.intro (Below.call hB (below_new w2 (.cells #[.bool y.neg, .slice y.A y.n y.c] 44))) hnd3)
  clear hnd hnd3 hy hx hd1 hni
  go_wp2
  go_returns
  exact ⟨⟨y.A, y.n, y.c⟩, rfl, HF.out.1, HF.out.2⟩
end Go.Proofs.YthafhbogpfggjaaGreatDoor
/-
  (second part)
-/
namespace Go.Proofs.YthafhbogpfggjaaGreatDoor
open Go.RowKit
open Dig (val Ws Nz)

theorem dcompared {d e : DV} {w : World} {m k : Nat} (hd : ND d w m) (he : ND e w k) : Calls Tryz.prog 128 #[.slice d.A d.n d.c, .slice e.A e.n e.c] w (RetInt w (cmpI (m : Int) (k : Int))) := by
  have := ncompared hd.ni he.ni
  simpa using this
theorem dminus {d e : DV} {w : World} {m k : Nat} (hd : ND d w m) (he : ND e w k) (h : k ≤ m) : Calls Tryz.prog 129 #[.slice d.A d.n d.c, .slice e.A e.n e.c] w (RetDV w (fun l => val l = m - k ∧ l.length ≤ many)) := by
  have := nminus hd.ni he.ni (by simpa using h)
  simpa using this
theorem ND.len {d e : DV} {w w' : World} {m k : Nat} (hd : ND d w m) (he : ND e w' k) (h : m ≤ k) : d.n ≤ e.n := by
  obtain ⟨l, e1, e2, e3, e4, e5⟩ := hd
  obtain ⟨j, f1, f2, f3, f4, f5⟩ := he
  rw [← e1, ← f1]
  rcases Nat.lt_or_ge j.length l.length with h1 | h1
  · have := Dig.lt_of_length f2.ws e3 h1
    omega
  · exact h1
/-- The state of a division at a round's head. -/
structure RDivSt (w : World) (go n : Nat) (a : List Nat) (B i : Nat) (ds : List Nat) (R : Nat) (rest : DV) (wr : World) : Prop where
  len : ds.length + i = n
  ws : Ws ds
  eq : val (a.drop i) = val ds * B + R
  lt : R < B
  out : Own wr go 3 ((List.replicate i 0 ++ ds).map d64)
  bel : Below w.heap.size w wr
  rest : ND rest wr R
theorem RDivSt.step {w : World} {go n : Nat} {a : List Nat} {B m : Nat} {ds : List Nat} {R : Nat} {rest : DV} {wr : World} (h : RDivSt w go n a B (m + 1) ds R rest wr) (hg : w.heap.size ≤ go) (hm : m < a.length) {w' : World} (hb : Below wr.heap.size wr w')
    {q : Nat} (hq : q < 10000) {y : DV} (hy : ND y w' (a[m] + 10000 * R - B * q)) (h1 : B * q ≤ a[m] + 10000 * R) (h2 : a[m] + 10000 * R < B * (q + 1)) {s : Int} (hs : s = (q : Int)) (hgy : ∀ g off, y.A = some ⟨g, off, none⟩ → y.n ≠ 0 → g ≠ go) :
    RDivSt w go n a B m (q :: ds) (a[m] + 10000 * R - B * q) y (w'.setCell ⟨go, m, none⟩ (.int .i64 s)) := by
  subst hs
  refine ⟨by have := h.len; simp; omega, Ws.cons hq h.ws, ?_, ?_, ?_, ?_, ?_⟩
  · rw [Dig.val_drop_cons hm, Dig.getD_lt hm, h.eq, Dig.val_cons]
    have : (q + 10000 * val ds) * B = B * q + 10000 * (val ds * B) := by grind
    rw [this]
    omega
  · rw [Nat.mul_add, Nat.mul_one] at h2
    omega
  · have := (h.out.on hb).set_ m (d64 q)
    rw [← List.map_set] at this
    have e : (List.replicate (m + 1) 0 ++ ds).set m q = List.replicate m 0 ++ q :: ds := by
      rw [List.replicate_succ', List.append_assoc, List.set_append_right _ _ (by simp)]
      simp
    rw [e] at this
    exact this
  · exact (h.bel.trans (hb.mono h.bel.size)).setCell hg _
  · obtain ⟨l, k1, k2, k3, k4, k5⟩ := hy
    refine ⟨l, k1, ⟨fun hn => ?_, k2.ws, k2.cap, k2.mx⟩, k3, k4, k5⟩
    obtain ⟨g, off, e, hg', hc⟩ := k2.sl hn
    refine ⟨g, off, e, by simpa [World.setCell] using hg', fun i x hx => ?_⟩
    rw [World.cell?_setCell_other]
    · exact hc i x hx
    · intro ee
      injection ee with e1 e2
      have hne : y.n ≠ 0 := by
        intro h0
        rw [h0] at k1
        exact hn (by simp [List.eq_nil_of_length_eq_zero k1])
      exact hgy g off e hne e1.symm
theorem dminusF {d e : DV} {w : World} {m k : Nat} (hd : ND d w m) (he : ND e w k) (h : k ≤ m) :
    Calls Tryz.prog 129 #[.slice d.A d.n d.c, .slice e.A e.n e.c] w (fun r w' => ∃ x : DV, r = .returned (.slice x.A x.n x.c) ∧ Below w.heap.size w w' ∧ x.is w' (fun l => val l = m - k ∧ l.length ≤ many) ∧ Hid (Fr w.heap.size x.A)) := by
  have hlen := ND.len he hd h
  obtain ⟨l, e1, e2, e3, e4, e5⟩ := hd
  obtain ⟨j, f1, f2, f3, f4, f5⟩ := he
  rw [← e1, ← f1] at hlen
  rw [← e4, ← f4] at h
  rw [← e1, ← f1, ← e4, ← f4]
  refine (rminus_any e2 f2 e5 hlen h).mono ?_
  rintro r w' ⟨A, c, i, rfl, k1, k2, ⟨k3, k4⟩, k5⟩
  exact ⟨⟨A, i.length, c⟩, rfl, k1, ⟨i, rfl, k2, k3, by omega⟩, Lib.hid k5⟩
theorem dnormalA {d : DV} {w : World} {m : Nat} (h : d.is w fun l => val l = m ∧ l.length ≤ many) :
    Calls Tryz.prog 120 #[.bool false, .slice d.A d.n d.c] w (fun r w' => ∃ x : IV, r = .returned (.agg #[.bool x.neg, .slice x.A x.n x.c]) ∧ Below w.heap.size w w' ∧ ND ⟨x.A, x.n, x.c⟩ w' m ∧ Hid (x.A = d.A)) := by
  refine (nnormalA false h rfl).mono ?_
  rintro r w' ⟨x, rfl, h1, h2, h3⟩
  exact ⟨x, rfl, h1, h2.nd (by simp [sgn]), Lib.hid h3⟩
theorem ND.parts {d : DV} {w : World} {m : Nat} (h : ND d w m) : ∃ l, DigIs w d.A l d.c ∧ l.length = d.n ∧ val l = m := by
  obtain ⟨l, e1, e2, e3, e4, e5⟩ := h
  exact ⟨l, e2, e1, e4⟩
set_option maxRecDepth 100000 in
set_option maxHeartbeats 3200000 in
theorem rdivided_any {d e : DV} {w : World} {p q : Nat} (hd : ND d w p) (he : ND e w q) (hq : 0 < q) (hn : e.n < many) :
    Calls Tryz.prog 132 #[.slice d.A d.n d.c, .slice e.A e.n e.c] w (fun r w' => ∃ x y : DV, r = .returned (.tuple #[.slice x.A x.n x.c, .slice y.A y.n y.c]) ∧ Below w.heap.size w w' ∧ x.is w' (fun l => val l = p / q ∧ l.length ≤ many) ∧ ND y w' (p % q)) := by
  obtain ⟨a, e1, e2, e3, e4, e5⟩ := hd
  obtain ⟨A, n, ca⟩ := d
  simp only at e1 e2
  subst e1 e4
  have hwa := e2.ws
  have hA0 := e2.sl
  have ca1 := e2.cap
  have ca2 := e2.mx
  have hnm := hn
  unfold maxLen at ca2
  unfold many at e5 hn
  clear e2 e3
  have hmk := make_int a.length (by omega) (a.length : Int) rfl
  go_enter Tryz.func132, Tryz.ntmps132
  go_wp2
  go_loopw [7, 8] (fun rv i wr => ∃ (k R : Nat) (ds : List Nat) (rest : DV), i = .int .i64 ((k : Int) - 1) ∧ rv = .slice rest.A rest.n rest.c ∧ k ≤ a.length ∧ RDivSt w w.heap.size a.length a q k ds R rest wr) (fun _ i _ => (intOf i + 1).toNat)
  case atStart => exact ⟨a.length, 0, [], ⟨none, 0, 0⟩, rfl, rfl, Nat.le_refl _, by simp, Ws.nil, by rw [List.drop_of_length_le (Nat.le_refl _)]; simp [val], hq, by simpa using Own.rep w 3 a.length (d64 0), by go_grown, ND.nil _⟩
  case round =>
    obtain ⟨k, R, ds, rest, rfl, hv, hk, hst⟩ := hrel
    have hv' := hv.symm
    subst hv'
    have hbel := hst.bel
    rcases Nat.eq_zero_or_pos k with h0 | h0
    · subst h0
      have hlen := hst.len
      have heq := hst.eq
      have hO := hst.out
      rw [List.replicate_zero, List.nil_append] at hO
      rw [List.drop_zero] at heq
      have hdm := (Nat.div_mod_unique hq).2 ⟨show R + q * val ds = val a by rw [heq, Nat.mul_comm]; omega, hst.lt⟩
      have hx : (⟨some ⟨w.heap.size, 0, none⟩, a.length, a.length⟩ : DV).is wr fun l => val l = val a / q ∧ l.length ≤ many :=
        ⟨ds, by simp at hlen; exact hlen, ⟨hO.sl hO.lt, hst.ws, by show ds.length ≤ a.length; omega, by show a.length ≤ maxLen; unfold maxLen; omega⟩, hdm.1.symm, by unfold many; omega⟩
      have hy := hst.rest
      rw [← hdm.2] at hy
      have HF := Lib.hid (And.intro hx hy)
      clear hx hy hdm heq hlen hO hst
      go_wp2
      go_returns
      exact ⟨⟨some ⟨w.heap.size, 0, none⟩, a.length, a.length⟩, rest, rfl, hbel, HF.out.1, HF.out.2⟩
    · obtain ⟨m, rfl⟩ : ∃ m, k = m + 1 := ⟨k - 1, by omega⟩
      rw [show (((m + 1 : Nat) : Int) - 1) = (m : Int) by omega]
      obtain ⟨g1, o1, rfl, hg1, hc1⟩ := (hA0.below hst.bel).d64at (i := m) (by omega)
      have hxa := hwa.get (i := m) (by omega)
      have hm : m < a.length := by omega
      have hrn : rest.n ≤ e.n := hst.rest.len he (Nat.le_of_lt hst.lt)
      have HSTEP := fun (w' : World) (hb : Below wr.heap.size wr w') (q' : Nat) (hq : q' < 10000) (y : DV) => hst.step (Nat.le_refl _) hm hb hq (y := y)
      obtain ⟨l, l1, l2, l3⟩ := hst.rest.parts
      have hlt := hst.lt
      have hOut := hst.out
      obtain ⟨x, hx⟩ : ∃ x, x = a[m] := ⟨_, rfl⟩
      rw [← hx] at hc1 hxa HSTEP
      obtain ⟨R', hR'⟩ : ∃ R', R' = x + 10000 * R := ⟨_, rfl⟩
      rw [← hR'] at HSTEP
      have hR0 : R' < q * (9999 + 1) := by omega
      have HS := Lib.hid HSTEP
      have HR := Lib.hid hR'
      have HL3 := Lib.hid l3
      clear HSTEP hx hR' l3 hst
      have hi1 : (m : Int) < (a.length : Int) := by omega
      have hi3 : (0 : Int) ≤ (m : Int) := by omega
      go_wp2_with (at_builtin; refine join_int rfl _ _ rfl x hxa rest l rfl rfl l1 l2 (by omega) ?_)
      intro z w4 hb4 hz
      have hz' : z.is w4 fun l => val l = R' ∧ l.length ≤ many := by
        obtain ⟨_, z1, z2, rfl⟩ := hz
        exact ⟨_, z1, z2, by rw [Dig.val_cons, HL3.out, HR.out], by simp only [List.length_cons, l2]; omega⟩
      clear hz l1 l2 hc1
      go_wp2_with fail
      refine (dnormalA hz').mono ?_
      rintro e w5 ⟨xr, rfl, k5, hxr, _⟩
      have hb5 := Below.call hb4 k5
      clear hz' hb4 k5
      go_upto_region 8 with fail
      refine wp_new1 fun W6 hO6 hB6 => ?_
      replace hb5 := Below.call hb5 hB6
      replace hxr := hxr.on hB6
      have he6 := he.on (Below.call hbel hb5)
      have hO7 := hOut.on hb5
      obtain ⟨r0, r1⟩ := hO6.rules2
      have hW := Below.refl W6.heap.size W6
      have hRX := Lib.hid (And.intro hxr hO6)
      go_wp2
      clear hW
      go_loopw [10, 11] (fun lo hi wr => ∃ L H : Nat, lo = .int .i64 L ∧ hi = .int .i64 H ∧ L ≤ H ∧ H ≤ 9999 ∧ Hid (q * L ≤ R' ∧ R' < q * (H + 1)) ∧ Below W6.heap.size W6 wr) (fun lo hi _ => (intOf hi).toNat - (intOf lo).toNat)
      case atStart => exact ⟨0, 9999, rfl, rfl, by omega, by omega, Lib.hid ⟨by omega, hR0⟩, Below.refl _ _⟩
      case round =>
        obtain ⟨L, H, rfl, rfl, hLH, hH, hinv, hb7⟩ := hrel
        have he7 := he6.on hb7
        have hxr7 := hxr.on hb7
        by_cases hlt2 : L < H
        · obtain ⟨M, hM⟩ : ∃ M, M = (L + H + 1) / 2 := ⟨_, rfl⟩
          have hM1 : L < M := by omega
          have hM2 : M ≤ H := by omega
          have HM : Hid (((L : Int) + (H : Int) + 1) / 2 = (M : Int)) := Lib.hid (by omega)
          obtain ⟨P, hP⟩ : ∃ P, P = q * M := ⟨_, rfl⟩
          have HP := Lib.hid hP
          have HSM : Hid (∀ u, ND e u q → Calls Tryz.prog 174 #[.slice e.A e.n e.c, .int .i64 (((L : Int) + (H : Int) + 1) / 2)] u (fun r w' => ∃ x : DV, r = .returned (.slice x.A x.n x.c) ∧ Below u.heap.size u w' ∧ ND x w' P)) := Lib.hid fun u hu => by
            rw [HM.out, HP.out]
            exact rsmall_any hu (by omega) hnm
          have hsum : (0 : Int) ≤ (L : Int) + (H : Int) + 1 := by omega
          clear hM hP
          go_wp2_with fail
          refine (HSM.out _ he7).mono ?_
          rintro e w8 ⟨y, rfl, k8, hy⟩
          have hxr8 := hxr7.on k8
          have hb8 := Below.call hb7 k8
          rcases Nat.lt_or_ge R' P with hc | hc
          · have hcc : ¬ cmpI (P : Int) (R' : Int) ≤ 0 := by rw [cmpI_gt (by omega)]; omega
            have HC := Lib.hid hc
            clear hc k8
            go_wp2_with fail
            refine (dcompared hy hxr8).mono ?_
            rintro e w9 ⟨rfl, k9⟩
            have hb9 := Below.call hb8 k9
            go_wp2_with fail
            go_roundw
            case rel => exact ⟨L, M - 1, by go_num, by have := HM.out; go_num, by omega, by omega, Lib.hid ⟨hinv.out.1, by rw [Nat.sub_add_cancel (by omega), ← HP.out]; exact HC.out⟩, hb9⟩
            case measure => have := HM.out; simp [intOf] <;> omega
          · have hcc : cmpI (P : Int) (R' : Int) ≤ 0 := by
              rcases Nat.eq_or_lt_of_le hc with h | h
              · rw [cmpI_eq (by omega)]; omega
              · rw [cmpI_lt (by omega)]; omega
            have HC := Lib.hid hc
            clear hc k8
            go_wp2_with fail
            refine (dcompared hy hxr8).mono ?_
            rintro e w9 ⟨rfl, k9⟩
            have hb9 := Below.call hb8 k9
            go_wp2_with fail
            go_roundw
            case rel => exact ⟨M, H, by have := HM.out; go_num, by go_num, by omega, by omega, Lib.hid ⟨by rw [← HP.out]; exact HC.out, hinv.out.2⟩, hb9⟩
            case measure => have := HM.out; simp [intOf] <;> omega
        · obtain rfl : L = H := by omega
          have hL : L < 10000 := by omega
          obtain ⟨P, hP⟩ : ∃ P, P = q * L := ⟨_, rfl⟩
          have HP := Lib.hid hP
          have HSM : Hid (∀ u, ND e u q → Calls Tryz.prog 174 #[.slice e.A e.n e.c, .int .i64 (L : Int)] u (fun r w' => ∃ x : DV, r = .returned (.slice x.A x.n x.c) ∧ Below u.heap.size u w' ∧ ND x w' P)) := Lib.hid fun u hu => by
            rw [HP.out]
            exact rsmall_any hu hL hnm
          have hPR : P ≤ R' := by rw [hP]; exact hinv.out.1
          clear hP
          go_wp2_with fail
          refine (HSM.out _ he7).mono ?_
          rintro e w8 ⟨y, rfl, k8, hy⟩
          have hxr8 := hxr7.on k8
          have hb8 := Below.call hb7 k8
          clear k8
          go_wp2_with fail
          refine (dminusF hxr8 hy hPR).mono ?_
          rintro e w9 ⟨z, rfl, k9, hz, hfr⟩
          have hb9 := Below.call hb8 k9
          clear k9
          go_wp2_with fail
          refine (dnormalA hz).mono ?_
          rintro e w10 ⟨yr, rfl, k10, hyr, hsame⟩
          have hb10 := Below.call hb9 k10
          clear k10
          go_upto_region 16 with fail
          refine wp_new1 fun W11 hO11 hB11 => ?_
          have hb11 := Below.call hb10 hB11
          have hyr11 := hyr.on hB11
          have hO12 := hO7.on hb11
          have hcm := hO12.cell m
          rw [List.getElem?_map, List.getElem?_append_left (by simp), List.getElem?_replicate, if_pos (by omega)] at hcm
          have hcm' : W11.cell? ⟨w.heap.size, m, none⟩ = some (.int .i64 0) := hcm
          have hcf := hO12.frozen m
          obtain ⟨z0, z1, _, _⟩ := hO11.all2
          have hne : w10.heap.size ≠ w.heap.size := by have := hO7.lt; have := hb10.size; omega
          have z1' : ∀ u, (W11.setCell ⟨w.heap.size, m, none⟩ u).cell? ⟨w10.heap.size, 1, none⟩ = some (.slice yr.A yr.n yr.c) := fun u => (World.cell?_setCell_other W11 ⟨w.heap.size, m, none⟩ ⟨w10.heap.size, 1, none⟩ u (by intro e; injection e with e; exact hne e.symm)).trans z1
          have hN := HS.out W11 (Below.call hb5 hb11) L hL ⟨yr.A, yr.n, yr.c⟩ (by rw [← HP.out]; exact hyr11) hinv.out.1 hinv.out.2 (s := (L : Int)) rfl (fun g off e _ => by
            have h1 := hfr.out ⟨g, off, none⟩ (hsame.out.symm.trans e)
            have h2 := hO7.lt
            have h3 := hb8.size
            simp only at h1
            omega)
          have HN := Lib.hid hN
          clear hN hyr11 hyr hz hy hxr8 hxr7 hxr he7 he6 hO12 hcm hO11 hfr hsame hO7 hRX hOut
          go_wp2_with fail
          go_roundw
          case rel => exact ⟨m, R' - q * L, L :: ds, ⟨yr.A, yr.n, yr.c⟩, by go_num, rfl, by omega, HN.out⟩
          case measure => simp [intOf] <;> omega
end Go.Proofs.YthafhbogpfggjaaGreatDoor
