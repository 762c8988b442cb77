/-
  Chapter 03's reference: Gcd. (begun)
-/
import Derived.Test.YthafhbogpfggjaaGreatDoorE11
namespace Go.Proofs.YthafhbogpfggjaaGreatDoor
open Go.RowKit
open Dig (val Ws Nz)

/-- The state of Gcd at a round's head. -/
structure GcdSt (w : World) (g5 g6 X Y G k : Nat) (x y : IV) (wr : World) : Prop where
  bel : Below w.heap.size w wr
  o5 : Own wr g5 44 [.bool x.neg, .slice x.A x.n x.c]
  o6 : Own wr g6 44 [.bool y.neg, .slice y.A y.n y.c]
  hx : NI x wr (X : Int)
  hy : NI y wr (Y : Int)
  eq : Nat.gcd X Y = G
  nx : x.n ≤ k
  ny : y.n ≤ k
theorem gcd_step {X Y G : Nat} (h : Nat.gcd X Y = G) : Nat.gcd Y (X % Y) = G := by
  rw [← h, Nat.gcd_comm X Y, Nat.gcd_comm Y (X % Y), ← Nat.gcd_rec]
theorem NI.len_le {x y : IV} {w w' : World} {a b : Int} (hx : NI x w a) (hy : NI y w' b) (h : a.natAbs ≤ b.natAbs) : x.n ≤ y.n :=
  ND.len (d := ⟨x.A, x.n, x.c⟩) (e := ⟨y.A, y.n, y.c⟩) (hx.nd rfl) (hy.nd rfl) h
set_option maxRecDepth 100000 in
set_option maxHeartbeats 3200000 in
theorem rGcd_any {x y : IV} {w : World} {a b : Int} (hx : NI x w a) (hy : NI y w b) (hn : x.n < many - 2) (hm : y.n < many - 2) :
    Calls Tryz.prog 58 #[.agg #[.bool x.neg, .slice x.A x.n x.c], .agg #[.bool y.neg, .slice y.A y.n y.c]] w (RetN w (Nat.gcd a.natAbs b.natAbs : Nat)) := by
  have hnm : many = 65536 := rfl
  obtain ⟨G, hG⟩ : ∃ G, G = Nat.gcd a.natAbs b.natAbs := ⟨_, rfl⟩
  rw [← hG]
  have HG := Lib.hid hG
  clear hG
  go_enter Tryz.func58, Tryz.ntmps58
  go_upto_region 1 with fail
  refine wp_new3 fun W hA hBx hO hBel => ?_
  obtain ⟨r0, r1⟩ := hA.rules2
  obtain ⟨s0, s1⟩ := hBx.rules2
  replace hx := hx.on hBel
  replace hy := hy.on hBel
  have hW := Below.refl W.heap.size W
  go_wp2_with fail
  refine (nnormal (d := ⟨x.A, x.n, x.c⟩) false hx.dv rfl).mono ?_
  rintro e w1 ⟨u, rfl, k1, hu⟩
  go_upto_region 2 with fail
  refine wp_new1 fun W2 hO5 hB2 => ?_
  have k2 := Below.call k1 hB2
  have hy2 := hy.on k2
  have hu2 := hu.on hB2
  have h15 := k1.size
  clear hu k1 hB2 hW
  go_wp2_with fail
  refine (nnormal (d := ⟨y.A, y.n, y.c⟩) false hy2.dv rfl).mono ?_
  rintro e w3 ⟨v, rfl, k3, hv⟩
  go_wp2_with fail
  refine wp_new1 fun W4 hO6 hB4 => ?_
  have k4 := Below.call k3 hB4
  have hst0 : GcdSt W w1.heap.size w3.heap.size a.natAbs b.natAbs (Nat.gcd a.natAbs b.natAbs) 65533 u v W4 :=
    ⟨Below.call k2 k4, hO5.on k4, hO6, hu2.on k4, hv.on hB4, rfl, by have := NI.len_eq hu2 hx (rsgn_abs _ _); omega, by have := NI.len_eq hv hy (rsgn_abs _ _); omega⟩
  have h56 : w1.heap.size < w3.heap.size := by have := hO5.lt; have := k3.size; omega
  rw [← HG.out] at hst0
  clear k4 hO5 hO6 hu2 hv hy2 k3 hB4 r0 r1 s0 s1 k2
  go_loopg [] (b.natAbs) (fun n wr => ∃ X x y, GcdSt W w1.heap.size w3.heap.size X n G 65533 x y wr)
  case atStart => exact ⟨a.natAbs, u, v, hst0⟩
  case round =>
    obtain ⟨X, p, q, hst⟩ := hrel
    obtain ⟨a0, a1, _, _⟩ := hst.o5.all2
    obtain ⟨b0, b1, _, _⟩ := hst.o6.all2
    have hlp := (hst.hy.nd (m := gk) (by omega)).len_pos
    simp only at hlp
    rcases Nat.eq_zero_or_pos gk with h0 | h0
    · subst h0
      have hOr := hO.on hst.bel
      obtain ⟨z0, z1, f0, f1⟩ := hOr.all2
      have hG := hst.eq
      rw [Nat.gcd_zero_right] at hG
      have hxx := hst.hx
      rw [hG] at hxx
      have hqn : ¬ (0 < q.n) := by omega
      have HF := Lib.hid (retN_end (Below.call hBel hst.bel) (by omega) hOr (by simp) (by simp) hxx)
      have hO6 := hOr.put2 (.bool p.neg) (.slice p.A p.n p.c)
      obtain ⟨q0, q1, _⟩ := hO6.all2
      clear hO6 hOr hxx hG hst hlp hst0
      go_wp2
      exact bodyPost_ret (v := .agg #[.bool p.neg, .slice p.A p.n p.c]) (by simp [results, Tryz.results58, go_sem, q0, q1]) rfl HF.out
    · have hqn : 0 < q.n := by omega
      have hb0 : (gk : Int) ≠ 0 := by omega
      have hst' := Lib.hid hst
      have hx9 := hst.hx
      have hy9 := hst.hy
      have hnx := hst.nx
      have hny := hst.ny
      clear hlp hst0 hst
      go_wp2_with fail
      refine (rDiv_any hx9 hy9 hb0 (by omega) (by omega)).mono ?_
      rintro e w5 ⟨qq, rr, rfl, k5, hq5, hr5⟩
      go_upto_region 5 with fail
      refine wp_new2 fun W6 hO7 hO8 hB6 => ?_
      have k6 := Below.call k5 hB6
      have hr6 := hr5.on hB6
      have o5 := hst'.out.o5.on k6
      have o6 := hst'.out.o6.on k6
      obtain ⟨c0, c1, cf0, cf1⟩ := o5.all2
      obtain ⟨d0, d1, df0, df1⟩ := o6.all2
      obtain ⟨V, hV, v1, v2, v3, v4, v5⟩ := put_beside (Below.call hst'.out.bel k6) (by omega) o5 o6 (by omega) (by simp) (by simp) (hst'.out.hy.on k6) hr6
      have hl5 := hst'.out.o5.lt
      have hs5 := k5.size
      have hO9 := (hO8.far (p := ⟨w1.heap.size, 0, none⟩) (by show _ ≠ w1.heap.size; omega) (.bool q.neg)).far (p := ⟨w1.heap.size, 1, none⟩) (by show _ ≠ w1.heap.size; omega) (.slice q.A q.n q.c)
      rw [hV] at hO9
      obtain ⟨u0, u1, _, _⟩ := hO9.all2
      obtain ⟨m0, m1, mf0, mf1⟩ := v3.all2
      obtain ⟨U, hU, x1, x2, x3, x4, x5⟩ := put_beside v1 (by omega) v3 v2 (by omega) (by simp) (by simp) v5 v4
      have hnr : rr.n ≤ q.n := NI.len_le v5 v4 (by
        rw [← Int.natCast_emod, Int.natAbs_natCast, Int.natAbs_natCast]
        exact Nat.le_of_lt (Nat.mod_lt _ h0))
      have hN := GcdSt.mk (G := G) (k := 65533) (X := gk) (Y := X % gk) x1 x3 x2 x5 (by rw [Int.natCast_emod]; exact x4) (gcd_step hst'.out.eq) hny (by omega)
      have HN := Lib.hid (And.intro hU hN)
      have hlt : X % gk < gk := Nat.mod_lt _ h0
      clear hU hN x1 x2 x3 x4 x5 v1 v2 v3 v4 v5 hO9 hO8 hO7 o5 o6 hr6 hr5 hq5 hx9 hy9 hst' k5 k6 hB6
      go_wp2_with fail
      go_roundg (X % gk)
      case measure => exact hlt
      case rel => exact ⟨gk, q, rr, by rw [HN.out.1]; exact HN.out.2⟩
end Go.Proofs.YthafhbogpfggjaaGreatDoor
