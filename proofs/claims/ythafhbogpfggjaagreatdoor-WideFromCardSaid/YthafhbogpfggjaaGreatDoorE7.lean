/-
  Chapter 03's reference: small; a digit ahead of others.
-/
import Derived.Test.YthafhbogpfggjaaGreatDoorE6
import Derived.Deep.Upon
namespace Go.Proofs.YthafhbogpfggjaaGreatDoor
open Go.RowKit
open Dig (val Ws Nz)

/-- append([]int{y}, d...). -/
theorem join_int {ops : Array Oper} {rest : List Oper} {o : Oper} {a : Act} {w : World} {Q : Exit → Act → World → Prop} (hgd : o.guard = none) (s x : Operand) (ho : o.op = .call { callee := .builtin .append, args := #[s, x], argTypes := #[41, 41] })
    (y : Nat) (hy : y < 10000) (d : DV) (l : List Nat) (hs : a.eval s = .slice (some ⟨w.heap.size, 0, none⟩) 1 1) (hx : a.eval x = .slice d.A d.n d.c) (hd : DigIs w d.A l d.c) (hl : l.length = d.n) (hn : d.n ≤ many)
    (h : ∀ (z : DV) w', Below w.heap.size w w' → z.is w' (fun k => k = y :: l) → wpList Tryz.prog ops Q rest (a.put o.dst (.slice z.A z.n z.c)) w') : wpList Tryz.prog ops Q (o :: rest) a (w.alloc (.cells #[.int .i64 (y : Int)] 3)) := by
  have hO := Own.new w 3 [.int .i64 (y : Int)]
  unfold many at hn
  obtain ⟨i0, hi, hz0, hz1, hz2⟩ := info_parts int_info
  by_cases h0 : d.n = 0
  · have hl0 : l = [] := List.eq_nil_of_length_eq_zero (by omega)
    subst hl0
    refine wpList_plain hgd fun K hK => ?_
    have hsrc : Src Tryz.prog i0.size 41 (.slice d.A d.n d.c) 0 [] (w.alloc (.cells #[.int .i64 (y : Int)] 3)) := by
      rw [h0]
      cases d.A with
      | none => exact Src.ofNil _ Tryz.underlying41 d.c
      | some ad => exact Src.ofSlice _ Tryz.underlying41 ad 0 d.c [] (by simp) (by simp) (by simp)
    have hrun := run_append_nothing (P := Tryz.prog) (w.alloc (.cells #[.int .i64 (y : Int)] 3)) 41 41 o.type 3 i0 Tryz.underlying41 hi (some ⟨w.heap.size, 0, none⟩) 1 1 (Nat.le_refl _) _ hsrc
    unfold Oper.wp
    simp [execOp, ho, resolve, invoke, builtin, hs, hx, hrun, Result.andThen]
    exact hK _ _ (h ⟨some ⟨w.heap.size, 0, none⟩, 1, 1⟩ _ (below_new w _) ⟨[y], rfl, ⟨hO.sl hO.lt, Ws.cons hy Ws.nil, by simp, by show 1 ≤ maxLen; unfold maxLen; omega⟩, rfl⟩)
  · obtain ⟨g, off, hA, hg, hc⟩ := hd.sl (by intro e; rw [List.map_eq_nil_iff] at e; subst e; exact h0 hl.symm)
    refine wpList_append_own _ hgd s x 41 ho w.heap.size 3 i0 (.int .i64 0) 1 8 Tryz.underlying41 hi hz0 hz1 hz2 rfl (by decide) (.slice (some ⟨w.heap.size, 0, none⟩) 1 1) 1 [.int .i64 (y : Int)] hs
      (World.ownsRow_lit w #[.int .i64 (y : Int)] 1 (Nat.le_refl _) (by unfold maxLen; omega) rfl) ⟨g, off, none⟩ d.n d.c (l.map d64) (by rw [hx, hA]) (by simp [hl]) ?_ ?_ (by unfold maxLen; omega) (by omega) (by simp) ?_
    · intro j u hu
      rw [show (⟨g, off, none⟩ : Addr).add j = ⟨g, off + j, none⟩ by cases j <;> rfl, World.cell?_alloc_lt _ _ _ hg]
      exact hc j u hu
    · intro u hu
      obtain ⟨k, _, rfl⟩ := List.mem_map.1 hu
      rfl
    · intro v' w' hown hgrow _
      have e : [Value.int .i64 (y : Int)] ++ l.map d64 = (y :: l).map d64 := rfl
      rw [e] at hown
      obtain ⟨A, c, hv, hdd, _⟩ := owns_dig hown (Ws.cons hy hd.ws)
      rw [hv]
      exact h ⟨A, (y :: l).length, c⟩ w' ((below_new w _).grown hgrow (by simp) (fun k hk => by simp [Value.ownBlock] at hk; omega)) ⟨y :: l, rfl, hdd, rfl⟩

/-- Digits without zeros at the end, of the value m. -/
def ND (d : DV) (w : World) (m : Nat) : Prop := d.is w fun l => Nz l ∧ val l = m ∧ l.length ≤ many
theorem ND.on {d : DV} {w w' : World} {m : Nat} (h : ND d w m) (hb : Below w.heap.size w w') : ND d w' m := DV.is.on h hb
theorem NI.nd {x : IV} {w : World} {z : Int} (h : NI x w z) {m : Nat} (hm : z.natAbs = m) : ND ⟨x.A, x.n, x.c⟩ w m := by
  obtain ⟨l, e1, e2, e3, e4, e5, e6⟩ := h.abs
  exact ⟨l, e1, e3, e4, by omega, by omega⟩
theorem ND.ni {d : DV} {w : World} {m : Nat} (h : ND d w m) : NI ⟨false, d.A, d.n, d.c⟩ w (m : Int) := by
  obtain ⟨l, e1, e2, e3, e4, e5⟩ := h
  exact ⟨l, e1, by show d.n ≤ many; omega, e2, e3, by simp, by rw [e4]; simp [sgn]⟩
theorem ND.nil (w : World) : ND ⟨none, 0, 0⟩ w 0 := ⟨[], rfl, DigIs.nil w, Nz.nil, rfl, by simp⟩
set_option maxRecDepth 100000 in
set_option maxHeartbeats 1600000 in
theorem rsmall_any {d : DV} {w : World} {m k : Nat} (hd : ND d w m) (hk : k < 10000) (hn : d.n < many) :
    Calls Tryz.prog 174 #[.slice d.A d.n d.c, .int .i64 (k : Int)] w (fun e w' => ∃ x : DV, e = .returned (.slice x.A x.n x.c) ∧ Below w.heap.size w w' ∧ ND x w' (m * k)) := by
  have HO : Hid (∀ u, Calls Tryz.prog 39 #[.int .i64 (k : Int)] u (RetN u k)) := Lib.hid fun u => rOf_any k u (by omega) (by omega)
  have e : ((m : Int) * (k : Int)).natAbs = m * k := by rw [Int.natAbs_mul]; simp
  have HE := Lib.hid e
  clear e
  go_enter Tryz.func174, Tryz.ntmps174
  go_wp2_with fail
  refine (HO.out _).mono ?_
  rintro e w1 ⟨x, rfl, k1, hx⟩
  have hx1 : x.n ≤ 1 := NI.len hx (by simp; omega)
  have hd1 := hd.on k1
  have hni := hd1.ni
  go_wp2_with fail
  refine (rMul_any hni hx (by show d.n + x.n ≤ many; omega)).mono ?_
  rintro e w2 ⟨y, rfl, k2, hy⟩
  have hB := Below.call k1 k2
  have hnd := hy.nd HE.out
  have hnd3 := hnd.on (below_new w2 (.cells #[.bool y.neg, .slice y.A y.n y.c] 44))
  have HF := Lib.hid (And.intro (Below.call hB (below_new w2 (.cells #[.bool y.neg, .slice y.A y.n y.c] 44))) hnd3)
  clear hnd hnd3 hy hx hd1 hni
  go_wp2
  go_returns
  exact ⟨⟨y.A, y.n, y.c⟩, rfl, HF.out.1, HF.out.2⟩
end Go.Proofs.YthafhbogpfggjaaGreatDoor
