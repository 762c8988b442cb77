/-
  Chapter 38's law QuerySpaces.
-/
import Derived.Test.YtmlpibdincfgbaaDoorQS1
import Derived.Test.YtmlpibdincfgbaaDoorQS2
import Derived.ChangeKeysEq
namespace Go.Proofs.YtmlpibdincfgbaaDoor
open Go.RowKit
set_option linter.unusedSimpArgs false
set_option linter.unusedVariables false

def sQryB (q : Qy.Qry) : Spec Bel := ⟨fun v w => ∃ x : Value, v = x ∧ IsQry w q x, fun ⟨x, e, h⟩ k => ⟨x, e, h.on k⟩⟩
theorem equal2 (a b c d : Int) (w : World) : (Op.equalIn 10000 58 (.agg #[.int .i64 a, .int .i64 b]) (.agg #[.int .i64 c, .int .i64 d])).run Tryd.prog w = .ok (a == c && b == d) w := by
  obtain ⟨i, hi⟩ := info_of_underlying (P := Tryd.prog) Tryd.underlying3
  have hc : Tryd.prog.cellsOf 3 = 1 := by kernel_rfl
  have hp : Tryd.prog.plainKey 3 = true := by kernel_rfl
  rw [show (10000 : Nat) = 9999 + 1 from rfl, run_equalIn_array w 9999 _ _ Tryd.underlying58 hi, hc, show List.range 2 = [0, 1] from rfl]
  have q : ∀ (x y : Value) (k : Nat) (v : Value), #[x, y][k]? = some v → (part 3 #[x, y] k).run Tryd.prog w = .ok v w := fun x y k v h => run_part_plain w hp h
  have e : ∀ x y : Int, (Op.equalIn 9999 3 (.int .i64 x) (.int .i64 y)).run Tryd.prog w = .ok (x == y) w := fun x y => run_equalIn_int w 9998 3 .i64 .i64 x y Tryd.underlying3
  have q1 := q (.int .i64 a) (.int .i64 b) (0 * 1) (.int .i64 a) rfl
  have q2 := q (.int .i64 c) (.int .i64 d) (0 * 1) (.int .i64 c) rfl
  have q3 := q (.int .i64 a) (.int .i64 b) (1 * 1) (.int .i64 b) rfl
  have q4 := q (.int .i64 c) (.int .i64 d) (1 * 1) (.int .i64 d) rfl
  rw [Op.eqItems, Sem.run_bind, q1, Result.andThen_ok, Sem.run_bind, q2, Result.andThen_ok, Sem.run_bind, e, Result.andThen_ok]
  cases hac : a == c
  · rfl
  · rw [if_neg (by simp), Op.eqItems, Sem.run_bind, q3, Result.andThen_ok, Sem.run_bind, q4, Result.andThen_ok, Sem.run_bind, e, Result.andThen_ok]
    cases hbd : b == d
    · rfl
    · rw [if_neg (by simp), Op.eqItems]
      rfl
theorem bs_eta (b : ByteArray) : bs b.data.toList = b := by cases b; rfl
theorem goodQ_len {q : Qy.Qry} (hq : GoodQ q) : (Qy.printT q).length ≤ 4000 := by
  obtain ⟨⟨y, hmp⟩, hk, hd, hs, hvk⟩ := hq
  obtain ⟨h1, h2, _⟩ := view_parts hvk
  exact Qy.made_query hmp ⟨by omega, by omega⟩ ⟨by omega, by omega⟩ ⟨by omega, by omega⟩ ⟨by omega, by omega⟩ ⟨by omega, fun n hn => by have := h2 n hn; omega⟩
theorem parse_small (s : Qy.Bs) : Qy.nodes (Qy.parse s).1.reg ≤ 1000000 ∧ (Qy.parse s).1.offs.length ≤ 1000000 := by
  have := Qy.parse_valid s
  omega
set_option maxRecDepth 100000 in
set_option maxHeartbeats 6400000 in
theorem QuerySpaces_any {w : World} {A B : Option Addr} {l m : List Int} {c d : Nat} {at_ how : Int} (k0 : IntsIs w A l c) (b1 : in64 at_) (b2 : in64 how) (k3 : IntsIs w B m d) :
    Calls Tryd.prog 4 #[.slice A l.length c, .int .i64 at_, .int .i64 how, .slice B m.length d] w (RetB w true) := by
  have HL0 := Lib.hid fun u => lives_any u
  have HSo := Lib.hid (Some_any k0)
  have HSp := Lib.hid fun (s : Qy.Bs) (hs : s.length ≤ 100000) u (k : Below w.heap.size w u) => Spaced_any s hs (k3.on k)
  obtain ⟨L, hL⟩ : ∃ L, l.length = L := ⟨_, rfl⟩
  obtain ⟨M, hM⟩ : ∃ M, m.length = M := ⟨_, rfl⟩
  rw [hL] at HSo
  rw [hM] at HSp
  rw [hL, hM]
  clear hL hM k0 k3
  have HB12 := Lib.hid (And.intro b1 b2)
  clear b1 b2
  go_enter Tryd.func4, Tryd.ntmps4
  go_wp2_with fail
  refine HSo.out.mono ?_
  rintro e w1 ⟨q, v, rfl, hB1, hq, hg⟩
  have HPr := Lib.hid (rPrint_ok q hg v w1 hq.isQry)
  have hlen := goodQ_len hg
  obtain ⟨s1, hs1⟩ : ∃ s, Qy.printT q = s := ⟨_, rfl⟩
  rw [hs1] at hlen HPr
  clear hs1 hq hg HSo
  go_wp2_with fail
  refine HPr.out.mono ?_
  rintro e w2 ⟨t, rfl, hB2, ht⟩
  have htb : t = bs s1 := ht
  subst htb
  have hB2w := Below.call hB1 hB2
  have HW := Lib.hid (Wrong_any s1 (by omega) at_ how HB12.out.1 HB12.out.2 w2)
  clear ht hB1 hB2 HPr HB12
  go_wp2_with fail
  refine HW.out.mono ?_
  rintro e w3 ⟨t2, rfl, hB3, ht2⟩
  have hB3w := Below.call hB2w hB3
  clear HW hB2w hB3
  go_upto_region 5 with fail
  refine wp_new1 fun W3 hS kn => ?_
  obtain ⟨g5, hg5⟩ : ∃ g, w3.heap.size = g := ⟨_, rfl⟩
  rw [hg5] at hS ⊢
  have hX : ∃ xs : List Value, Own W3 g5 9 xs ∧ ∀ k, k < 2 → ∃ s : Qy.Bs, xs[k]? = some (.string (bs s)) ∧ s.length ≤ 20000 := ⟨_, hS, fun k hk => by
    rcases (by omega : k = 0 ∨ k = 1) with rfl | rfl
    · exact ⟨s1, rfl, by omega⟩
    · exact ⟨t2.data.toList, by rw [bs_eta]; rfl, by rw [← bs_size, bs_eta]; omega⟩⟩
  obtain ⟨xs, hS, hxs⟩ := hX
  have HX := Lib.hid hxs
  have HS := Lib.hid (And.intro (Below.call hB3w kn) hS)
  clear hS hxs hB3w kn hg5 ht2 hlen
  go_wp2_with fail
  go_loopw [12] (fun s wr => ∃ i : Nat, i ≤ 2 ∧ s = .int .i64 (i : Int) ∧ Below w.heap.size w wr ∧ Own wr g5 9 xs) (fun s _ => 2 - (intOf s).toNat)
  case atStart => exact ⟨0, by omega, rfl, HS.out.1, HS.out.2⟩
  case round =>
    obtain ⟨i, hi, rfl, hB, hS⟩ := hrel
    clear HS
    rcases Nat.lt_or_eq_of_le hi with hlt | heq
    · have i1 : (i : Int) < 2 := by omega
      obtain ⟨s, hs, hsl⟩ := HX.out i hlt
      have HXI := Lib.hid hs
      have x1 : wr.cell? ⟨g5, i, none⟩ = some (.string (bs s)) := by rw [hS.cell, hs]
      have HC := Lib.hid (HSp.out s (by omega) wr hB)
      have hs2 := Qy.spaced_toks (pk3 m) s
      obtain ⟨u, hu⟩ : ∃ u, Qy.sp (pk3 m) 0 (Qy.toks s 0) = u := ⟨_, rfl⟩
      obtain ⟨z, hz⟩ : ∃ z, Qy.dub (pk3 m) 0 0 (Qy.toks s 0) = z := ⟨_, rfl⟩
      have hzn : z.length = (Qy.toks s 0).length := by rw [← hz, Qy.dub_len]
      rw [hu, hz] at hs2 HC
      obtain ⟨n, hn⟩ : ∃ n, (Qy.toks s 0).length = n := ⟨_, rfl⟩
      rw [hn] at HC hzn
      have HT2 := Lib.hid hs2
      have HZN := Lib.hid hzn
      have HS := Lib.hid (And.intro hB hS)
      have htp := toks_pos s
      rw [hn] at htp
      have hnb : n ≤ 100001 := by omega
      clear hu hz hn hs hs2 hzn hB hS htp
      go_wp2_with fail
      refine HC.out.mono ?_
      rintro e w4 ⟨t, A', c', rfl, hB4, rfl, hpl⟩
      have hS4 := HS.out.2.on hB4
      have HS4 := Lib.hid (And.intro (Below.call HS.out.1 hB4) (And.intro hS4 hpl))
      have x2 : w4.cell? ⟨g5, i, none⟩ = some (.string (bs s)) := by rw [hS4.cell]; exact HXI.out
      clear x1 hB4 hS4 hpl HS HC
      have hzs := bs_size s
      have hzu := bs_size u
      obtain ⟨sz, hsz⟩ : ∃ sz, (bs s).size = sz := ⟨_, rfl⟩
      obtain ⟨uz, huz⟩ : ∃ uz, (bs u).size = uz := ⟨_, rfl⟩
      have HZZ := Lib.hid (And.intro (show s.length = sz by rw [← hzs, hsz]) (show u.length = uz by rw [← hzu, huz]))
      clear hzs hzu
      by_cases h1 : 4096 < uz
      · have h1z : (4096 : Int) < (uz : Int) := by omega
        go_wp2_with fail
        clear x2
        go_roundw
        case rel => exact ⟨i + 1, by omega, by go_num, HS4.out.1, HS4.out.2.1⟩
        case measure => simp [intOf]; omega
      have h1z : ¬ (4096 : Int) < (uz : Int) := by omega
      by_cases h2 : 4096 < sz
      · have h2z : (4096 : Int) < (sz : Int) := by omega
        go_wp2_with fail
        clear x2
        go_roundw
        case rel => exact ⟨i + 1, by omega, by go_num, HS4.out.1, HS4.out.2.1⟩
        case measure => simp [intOf]; omega
      have h2z : ¬ (4096 : Int) < (sz : Int) := by omega
      have h1n : u.length ≤ 4096 := by have := HZZ.out.2; omega
      have h2n : s.length ≤ 4096 := by have := HZZ.out.1; omega
      obtain ⟨pt1, pt2, pt3⟩ := Qy.parse_two HT2.out.1 HT2.out.2 h2n h1n
      have hsm := parse_small s
      have HQ : Hid (∀ u, Calls Tryd.prog 9 #[.string (bs s)] u (ParseR u (Qy.parse s))) := Lib.hid fun u => qParse s u (by omega)
      have HR : Hid (∀ v, Calls Tryd.prog 9 #[.string (bs u)] v (ParseR v (Qy.parse u))) := Lib.hid fun v => qParse u v (by omega)
      obtain ⟨P1, hP1⟩ : ∃ P, Qy.parse s = P := ⟨_, rfl⟩
      obtain ⟨P2, hP2⟩ : ∃ P, Qy.parse u = P := ⟨_, rfl⟩
      rw [hP1] at pt1 pt2 pt3 hsm HQ
      rw [hP2] at pt1 pt2 pt3 HR
      obtain ⟨Q0, px, pe⟩ := P1
      obtain ⟨Q2, py, pe2⟩ := P2
      simp only at pt1 pt2 pt3 hsm
      subst pt1
      subst pt2
      obtain ⟨qk, QR, qv, qo, qd, qs⟩ := Q0
      obtain ⟨Q, hQd⟩ : ∃ Q : Qy.Qry, Q = ⟨qk, QR, qv, qo, qd, qs⟩ := ⟨_, rfl⟩
      have HPl : Hid (∀ (v : Value) (u : World), IsQry u Q v → Calls Tryd.prog 12 #[v] u fun e w' => ∃ v', e = .returned v' ∧ Below u.heap.size u w' ∧ IsQry w' Q v') := Lib.hid fun v u h => plain_any Q (by rw [hQd]; exact hsm.1) v u h
      have HSq : Hid (∀ (v v' : Value) (u : World), IsQry u Q v → IsQry u Q v' → Calls Tryd.prog 11 #[v, v'] u (RetB u true)) := Lib.hid fun v v' u h h' => SameQuery_any Q (by rw [hQd]; exact hsm.1) (by rw [hQd]; exact hsm.2) v v' u h h'
      have HQD := Lib.hid hQd
      have HP3 := Lib.hid pt3
      clear hsm hQd pt3 hP1 hP2 h1 h2 h1n h2n HT2
      go_wp2_with fail
      refine (HQ.out _).mono ?_
      rintro e w5 ⟨v, rfl, hq, hb5⟩
      obtain ⟨an0, as1, an2, an3, an4, an5, an6, an7, aA8, al8, ac8, avA, avl, avc, rfl, hvl, _⟩ := hq.lit
      have hqa := hq.isQry
      have HS5 := Lib.hid (And.intro (Below.call HS4.out.1 hb5) (And.intro (HS4.out.2.1.on hb5) (HS4.out.2.2.on hb5)))
      clear hq x2 HS4 hb5
      simp only at hqa hvl ⊢
      subst hvl
      go_upto_region 11 with fail
      refine wp_new1 fun W2 hOa kn => ?_
      obtain ⟨ga, hga⟩ : ∃ g, w5.heap.size = g := ⟨_, rfl⟩
      rw [hga] at hOa ⊢
      have HA := Lib.hid (And.intro hOa (And.intro (Below.call HS5.out.1 kn) (And.intro (HS5.out.2.1.on kn) (And.intro (hqa.on kn) (HS5.out.2.2.on kn)))))
      clear hOa HS5 hqa kn hga h1z h2z
      go_wp2_with fail
      refine (HR.out _).mono ?_
      rintro e w6 ⟨v, rfl, hq, hb6⟩
      obtain ⟨bn0, bs1, bn2, bn3, bn4, bn5, bn6, bn7, bA8, bl8, bc8, bvA, bvl, bvc, rfl, hvl, _⟩ := hq.lit
      have hqb := hq.isQry
      have HA6 := Lib.hid (And.intro (HA.out.1.on hb6) (And.intro (Below.call HA.out.2.1 hb6) (And.intro (HA.out.2.2.1.on hb6) (And.intro (HA.out.2.2.2.1.on hb6) (HA.out.2.2.2.2.on hb6)))))
      clear hq HA hb6
      simp only at hqb hvl ⊢
      subst hvl
      go_upto_region 12 with fail
      refine wp_new1 fun W4 hOb kn => ?_
      obtain ⟨gb, hgb⟩ : ∃ g, w6.heap.size = g := ⟨_, rfl⟩
      rw [hgb] at hOb ⊢
      have HOa := Lib.hid (HA6.out.1.on kn)
      have HOb := Lib.hid hOb
      have HS6 := Lib.hid (And.intro (Below.call HA6.out.2.1 kn) (And.intro (HA6.out.2.2.1.on kn) (HA6.out.2.2.2.2.on kn)))
      have HQa : Hid (∀ wz, Below W4.heap.size W4 wz → IsQry wz Q (.agg #[.int .i64 qk, .int .i64 an0, .string as1, .int .i64 an2, .int .i64 an3, .int .i64 an4, .int .i64 an5, .int .i64 an6, .int .i64 an7, .slice aA8 al8 ac8, .int .i64 qv, .slice avA qo.length avc, .int .i64 qd, .int .i64 qs])) := Lib.hid fun wz k => by rw [HQD.out]; exact (HA6.out.2.2.2.1.on kn).on k
      have HQb : Hid (∀ wz, Below W4.heap.size W4 wz → IsQry wz Q (.agg #[.int .i64 qk, .int .i64 bn0, .string bs1, .int .i64 bn2, .int .i64 bn3, .int .i64 bn4, .int .i64 bn5, .int .i64 bn6, .int .i64 bn7, .slice bA8 bl8 bc8, .int .i64 qv, .slice bvA qo.length bvc, .int .i64 qd, .int .i64 qs])) := Lib.hid fun wz k => by rw [HQD.out]; exact (hqb.on kn).on k
      clear hOb hqb kn hgb HA6 HQ HR
      refine wp_region_specs W4 [Spec.eq (.int .i64 pe), Spec.eq (.int .i64 pe), Spec.eq (.bool false), Spec.eq (.bool false), Spec.eq (.agg #[.int .i64 qk, .int .i64 an0, .string as1, .int .i64 an2, .int .i64 an3, .int .i64 an4, .int .i64 an5, .int .i64 an6, .int .i64 an7, .slice aA8 al8 ac8, .int .i64 qv, .slice avA qo.length avc, .int .i64 qd, .int .i64 qs]), sQryB Q, Spec.eq (.agg #[.int .i64 qk, .int .i64 bn0, .string bs1, .int .i64 bn2, .int .i64 bn3, .int .i64 bn4, .int .i64 bn5, .int .i64 bn6, .int .i64 bn7, .slice bA8 bl8 bc8, .int .i64 qv, .slice bvA qo.length bvc, .int .i64 qd, .int .i64 qs]), sQryB Q, Spec.eq (.bool true), Spec.eq (.bool false), Spec.eq (.bool false)]
          (by kernel_rfl) (by kernel_rfl) rfl (by kernel_rfl) (Below.drew (Below.refl _ _)) ?_ ?_
      ·
        refine RegSteps.cons ?_ ?_
        · intro _ az wz hC hF hD _ K hK
          have q17 : az.tmps[17]? = some (.int .i64 pe) := hF 17 rfl
          clear hF hD
          refine want_none rfl ?_
          go_simp
          exact hK _ _ hC (Below.refl _ _) rfl
        refine RegSteps.cons ?_ ?_
        · intro _ az wz hC hF hD _ K hK
          have q20 : az.tmps[20]? = some (.int .i64 pe) := hF 20 rfl
          clear hF hD
          refine want_none rfl ?_
          go_simp
          exact hK _ _ hC (Below.refl _ _) rfl
        refine RegSteps.cons ?_ ?_
        · intro _ az wz hC hF hD _ K hK
          obtain ⟨_, q77, rfl⟩ := dep hD 0 rfl rfl rfl rfl
          obtain ⟨_, q78, rfl⟩ := dep hD 1 rfl rfl rfl rfl
          clear hF hD
          refine want_none rfl ?_
          go_simp
          exact hK _ _ hC (Below.refl _ _) rfl
        refine RegSteps.cons ?_ ?_
        · intro _ az wz hC hF hD _ K hK
          obtain ⟨_, q79, rfl⟩ := dep hD 2 rfl rfl rfl rfl
          clear hF hD
          refine want_none rfl ?_
          go_simp
          exact hK _ _ hC (Below.refl _ _) rfl
        refine RegSteps.cons ?_ ?_
        · intro _ az wz hC hF hD _ K hK
          have q15 : az.tmps[15]? = some (.pointer (some ⟨ga, 0, none⟩)) := hF 15 rfl
          obtain ⟨_, qg, rfl⟩ := dep hD 3 rfl rfl rfl rfl
          obtain ⟨⟨z0, z1, z2, z3, z4, z5, z6, z7, z8, z9, z10, z11, z12, z13⟩, _⟩ := (HOa.out.on hC).all14
          clear hF hD
          refine want_yes rfl rfl rfl qg ?_
          go_simp
          exact hK _ _ hC (Below.refl _ _) rfl
        refine RegSteps.cons ?_ ?_
        · intro _ az wz hC hF hD _ K hK
          obtain ⟨_, q81, rfl⟩ := dep hD 4 rfl rfl rfl rfl
          obtain ⟨_, qg, rfl⟩ := dep hD 3 rfl rfl rfl rfl
          clear hF hD
          refine want_yes rfl rfl rfl qg ?_
          go_simp
          refine (HPl.out _ _ (HQa.out _ hC)).mono ?_
          rintro e wy ⟨x, rfl, k, hx⟩
          exact hK _ _ (Below.call hC k) k ⟨x, rfl, hx⟩
        refine RegSteps.cons ?_ ?_
        · intro _ az wz hC hF hD _ K hK
          have q18 : az.tmps[18]? = some (.pointer (some ⟨gb, 0, none⟩)) := hF 18 rfl
          obtain ⟨_, qg, rfl⟩ := dep hD 3 rfl rfl rfl rfl
          obtain ⟨⟨z0, z1, z2, z3, z4, z5, z6, z7, z8, z9, z10, z11, z12, z13⟩, _⟩ := (HOb.out.on hC).all14
          clear hF hD
          refine want_yes rfl rfl rfl qg ?_
          go_simp
          exact hK _ _ hC (Below.refl _ _) rfl
        refine RegSteps.cons ?_ ?_
        · intro _ az wz hC hF hD _ K hK
          obtain ⟨_, q83, rfl⟩ := dep hD 6 rfl rfl rfl rfl
          obtain ⟨_, qg, rfl⟩ := dep hD 3 rfl rfl rfl rfl
          clear hF hD
          refine want_yes rfl rfl rfl qg ?_
          go_simp
          refine (HPl.out _ _ (HQb.out _ hC)).mono ?_
          rintro e wy ⟨x, rfl, k, hx⟩
          exact hK _ _ (Below.call hC k) k ⟨x, rfl, hx⟩
        refine RegSteps.cons ?_ ?_
        · intro _ az wz hC hF hD _ K hK
          obtain ⟨_, q82, x82, rfl, hx82⟩ := dep hD 5 rfl rfl rfl rfl
          obtain ⟨_, q84, x84, rfl, hx84⟩ := dep hD 7 rfl rfl rfl rfl
          obtain ⟨_, qg, rfl⟩ := dep hD 3 rfl rfl rfl rfl
          clear hF hD
          refine want_yes rfl rfl rfl qg ?_
          go_simp
          refine (HSq.out _ _ _ hx82 hx84).mono ?_
          rintro e wy ⟨rfl, k⟩
          exact hK _ _ (Below.call hC k) k rfl
        refine RegSteps.cons ?_ ?_
        · intro _ az wz hC hF hD _ K hK
          obtain ⟨_, q85, rfl⟩ := dep hD 8 rfl rfl rfl rfl
          obtain ⟨_, qg, rfl⟩ := dep hD 3 rfl rfl rfl rfl
          clear hF hD
          refine want_yes rfl rfl rfl qg ?_
          go_simp
          exact hK _ _ hC (Below.refl _ _) rfl
        refine RegSteps.cons ?_ ?_
        · intro _ az wz hC hF hD _ K hK
          obtain ⟨_, q80, rfl⟩ := dep hD 3 rfl rfl rfl rfl
          obtain ⟨_, q86, rfl⟩ := dep hD 9 rfl rfl rfl rfl
          clear hF hD
          refine want_none rfl ?_
          go_simp
          exact hK _ _ hC (Below.refl _ _) rfl
        exact RegSteps.nil
      intro w7 hC7
      rintro _ rfl _ rfl _ rfl _ rfl _ rfl _ ⟨y82, rfl, _⟩ _ rfl _ ⟨y84, rfl, _⟩ _ rfl _ rfl _ rfl
      simp only [FinOK, Act.put, List.setIfInBounds_toArray, List.set_cons_zero, List.set_cons_succ]
      have HS := Lib.hid (And.intro (Below.call HS6.out.1 hC7) (And.intro (HS6.out.2.1.on hC7) (HS6.out.2.2.on hC7)))
      clear hC7 HS6 HOa HOb HQa HQb HPl HSq
      rcases HP3.out with ⟨rfl, rfl, rfl⟩ | ⟨hne, D, hD, rfl, rfl⟩
      · go_wp2_with fail
        go_loopw [21, 22] (fun s21 s22 wr => ∃ k : Nat, k ≤ n ∧ s21 = .bool true ∧ s22 = .int .i64 (k : Int) ∧ Below w.heap.size w wr ∧ Own wr g5 9 xs) (fun _ s _ => n - (intOf s).toNat)
        case atStart => exact ⟨0, Nat.zero_le _, rfl, rfl, HS.out.1, HS.out.2.1⟩
        case round =>
          obtain ⟨k, hk, rfl, rfl, hB, hS⟩ := hrel
          clear HS
          have HS := Lib.hid (And.intro hB hS)
          clear hB hS
          rcases Nat.lt_or_eq_of_le hk with hklt | hkeq
          · have k1 : (k : Int) < (n : Int) := by omega
            go_wp2_with fail
            go_roundw
            case rel => exact ⟨k + 1, by omega, rfl, by go_num, HS.out.1, HS.out.2⟩
            case measure => simp [intOf]; omega
          · subst hkeq
            go_wp2_with fail
            go_roundw
            case rel => exact ⟨i + 1, by omega, by go_num, HS.out.1, HS.out.2⟩
            case measure => simp [intOf]; omega
      · obtain ⟨Dt, Dx, Dy⟩ := D
        obtain ⟨J, hJ⟩ := List.mem_iff_getElem?.1 hD
        have hJn : J < n := by rw [← HZN.out]; exact (List.getElem?_eq_some_iff.1 hJ).1
        have HJ := Lib.hid hJ
        have hp0 : ¬ pe = 0 := hne
        clear hD hne hJ
        simp only
        go_wp2_with fail
        go_loopw [21, 22] (fun s21 s22 wr => ∃ (k : Nat) (fb : Bool), k ≤ n ∧ s21 = .bool fb ∧ s22 = .int .i64 (k : Int) ∧ (J < k → fb = true) ∧ Below w.heap.size w wr ∧ Own wr g5 9 xs ∧ PlAt wr A' z) (fun _ s _ => n - (intOf s).toNat)
        case atStart => exact ⟨0, false, Nat.zero_le _, rfl, rfl, fun h => absurd h (Nat.not_lt_zero _), HS.out.1, HS.out.2.1, HS.out.2.2⟩
        case round =>
          obtain ⟨k, fb, hk, rfl, rfl, hfb, hB, hS, hpl⟩ := hrel
          clear HS
          rcases Nat.lt_or_eq_of_le hk with hklt | hkeq
          · have k1 : (k : Int) < (n : Int) := by omega
            obtain ⟨d, hd⟩ : ∃ d, z[k]? = some d := ⟨_, List.getElem?_eq_getElem (by rw [HZN.out]; exact hklt)⟩
            obtain ⟨g, rfl, hgl, hc⟩ : ∃ g, A' = some ⟨g, 0, none⟩ ∧ g < wr.heap.size ∧ ∀ (j : Nat) (d : Qy.Dub), z[j]? = some d → wr.cell? ⟨g, j * 2, none⟩ = some (.int .i64 (d.2.1 : Int)) ∧ wr.cell? ⟨g, j * 2 + 1, none⟩ = some (.int .i64 (d.2.2 : Int)) := by
              rcases hpl with h | h
              · rw [h] at hd; simp at hd
              · exact h
            obtain ⟨y1, y2⟩ := hc k d hd
            obtain ⟨dt, dx, dy⟩ := d
            simp only at y1 y2
            have HS := Lib.hid (And.intro hB (And.intro hS hpl))
            have HD := Lib.hid hd
            clear hB hS hpl hc hd hgl
            cases fb
            · by_cases e1 : dx = Dx
              · by_cases e2 : dy = Dy
                · subst e1
                  subst e2
                  have heq := fun w => equal2 (dx : Int) (dy : Int) (dx : Int) (dy : Int) w
                  rw [show ((dx : Int) == (dx : Int)) = true by simp, show ((dy : Int) == (dy : Int)) = true by simp, Bool.and_true] at heq
                  clear hfb
                  go_wp2_with fail
                  clear y1 y2
                  go_roundw
                  case rel => exact ⟨k + 1, true, by omega, by simp [hp0], by go_num, fun _ => rfl, HS.out.1, HS.out.2.1, HS.out.2.2⟩
                  case measure => simp [intOf]; omega
                · have e2z : ((dy : Int) == (Dy : Int)) = false := by simp; omega
                  have heq := fun w => equal2 (dx : Int) (dy : Int) (Dx : Int) (Dy : Int) w
                  subst e1
                  rw [show ((dx : Int) == (dx : Int)) = true by simp, e2z, Bool.and_false] at heq
                  have hne : J ≠ k := fun e => by
                    have h1 := HJ.out
                    rw [e, HD.out] at h1
                    cases h1
                    exact e2 rfl
                  have HFb := Lib.hid hfb
                  clear hfb
                  go_wp2_with fail
                  clear y1 y2
                  go_roundw
                  case rel => exact ⟨k + 1, false, by omega, rfl, by go_num, fun h => HFb.out (by omega), HS.out.1, HS.out.2.1, HS.out.2.2⟩
                  case measure => simp [intOf]; omega
              · have e1z : ((dx : Int) == (Dx : Int)) = false := by simp; omega
                have heq := fun w => equal2 (dx : Int) (dy : Int) (Dx : Int) (Dy : Int) w
                rw [e1z, Bool.false_and] at heq
                have hne : J ≠ k := fun e => by
                  have h1 := HJ.out
                  rw [e, HD.out] at h1
                  cases h1
                  exact e1 rfl
                have HFb := Lib.hid hfb
                clear hfb
                go_wp2_with fail
                clear y1 y2
                go_roundw
                case rel => exact ⟨k + 1, false, by omega, rfl, by go_num, fun h => HFb.out (by omega), HS.out.1, HS.out.2.1, HS.out.2.2⟩
                case measure => simp [intOf]; omega
            · clear hfb
              go_wp2_with fail
              clear y1 y2
              go_roundw
              case rel => exact ⟨k + 1, true, by omega, rfl, by go_num, fun _ => rfl, HS.out.1, HS.out.2.1, HS.out.2.2⟩
              case measure => simp [intOf]; omega
          · subst hkeq
            obtain rfl := hfb hJn
            have HS := Lib.hid (And.intro hB hS)
            clear hB hS hpl hfb
            go_wp2_with fail
            go_roundw
            case rel => exact ⟨i + 1, by omega, by go_num, HS.out.1, HS.out.2⟩
            case measure => simp [intOf]; omega
    · subst heq
      have HB := Lib.hid hB
      clear hB hS
      go_wp2_with fail
      refine (HL0.out _).mono ?_
      rintro e w9 ⟨rfl, k9⟩
      have HF := Lib.hid (Below.call HB.out k9)
      clear k9
      go_wp2
      go_returns
      exact ⟨by simp, HF.out⟩
end Go.Proofs.YtmlpibdincfgbaaDoor
