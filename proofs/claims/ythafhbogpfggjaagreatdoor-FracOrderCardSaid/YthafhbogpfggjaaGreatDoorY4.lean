/-
  The law FracOrder: the walk.
-/
import Derived.Test.YthafhbogpfggjaaGreatDoorB7
import Derived.Test.YthafhbogpfggjaaGreatDoorB6
import Derived.Test.YthafhbogpfggjaaGreatDoorRow
namespace Go.Proofs.YthafhbogpfggjaaGreatDoor
open Go.RowKit Mag

section
variable {R : World → World → Prop} [StepRel R]
def sWE (z er : Int) : Spec R := ⟨fun v w => ∃ x : IV, v = .tuple #[.agg #[.bool x.neg, .slice x.A x.n x.c], .int .i64 er] ∧ x.is w z, fun ⟨x, e, h⟩ k => ⟨x, e, h.keeps (StepRel.keeps k)⟩⟩
end
theorem fr_info : (Tryz.prog.info? 31).map (fun i => (i.zero, i.size, i.bytes)) = some (some (.agg #[.bool false, .slice none 0 0, .bool false, .slice none 0 0]), 4, 64) := by kernel_rfl
theorem own_news {w : World} {g : Nat} {t : TypeId} {xs : List Value} (h : Own w g t xs) : ∀ j u, xs[j]? = some u → w.cell? ((⟨g, 0, none⟩ : Addr).add j) = some u := by
  intro j u hu
  have hadd : (⟨g, 0, none⟩ : Addr).add j = ⟨g, j, none⟩ := by unfold Addr.add; split <;> simp_all
  rw [hadd, h.cell, hu]
theorem cmpR_rg (a b : Rat) : -1 ≤ cmpR a b ∧ cmpR a b ≤ 1 := by
  rcases cmpR_tri a b with ⟨_, e⟩ | ⟨_, e⟩ | ⟨_, e⟩ <;> rw [e] <;> omega
theorem prod_rg {a b : Int} (ha : -1 ≤ a ∧ a ≤ 1) (hb : -1 ≤ b ∧ b ≤ 1) : -1 ≤ a * b ∧ a * b ≤ 1 := by
  have h1 : a = -1 ∨ a = 0 ∨ a = 1 := by omega
  rcases h1 with rfl | rfl | rfl <;> omega
theorem sgnR_rg (a : Rat) : -1 ≤ sgnR a ∧ sgnR a ≤ 1 := by
  rcases sgnR_tri a with ⟨_, e⟩ | ⟨_, e⟩ | ⟨_, e⟩ <;> rw [e] <;> omega
theorem FAt.cells {w : World} {g i k : Nat} {x : FV} {r : Rat} (h : FAt w g i k x r) : w.cell? ⟨g, i * 4, none⟩ = some (.bool x.p.neg) ∧ w.cell? ⟨g, i * 4 + 1, none⟩ = some (.slice x.p.A x.p.n x.p.c) ∧ w.cell? ⟨g, i * 4 + 2, none⟩ = some (.bool x.l.neg) ∧ w.cell? ⟨g, i * 4 + 3, none⟩ = some (.slice x.l.A x.l.n x.l.c) := ⟨h.c0, h.c1, h.c2, h.c3⟩
/-- The list of the reference's three fractions. -/
def A3 (w : World) (g : Nat) (rs : Nat → Rat) : Prop := ∀ i, i < 3 → ∃ x, FAt w g i 130 x (rs i)
theorem A3.on {w w' : World} {g : Nat} {rs : Nat → Rat} (h : A3 w g rs) (hb : Below w.heap.size w w') : A3 w' g rs := fun i hi => by
  obtain ⟨x, hx⟩ := h i hi
  exact ⟨x, hx.on hb⟩
theorem A3.mk {w : World} {g : Nat} {t : TypeId} {x y z : FV} {rs : Nat → Rat} (hO : Own w g t [.bool x.p.neg, .slice x.p.A x.p.n x.p.c, .bool x.l.neg, .slice x.l.A x.l.n x.l.c, .bool y.p.neg, .slice y.p.A y.p.n y.p.c, .bool y.l.neg, .slice y.l.A y.l.n y.l.c, .bool z.p.neg, .slice z.p.A z.p.n z.p.c, .bool z.l.neg, .slice z.l.A z.l.n z.l.c]) (h0 : SmR 130 (rs 0)) (n0 : NR x w (rs 0)) (h1 : SmR 130 (rs 1)) (n1 : NR y w (rs 1)) (h2 : SmR 130 (rs 2)) (n2 : NR z w (rs 2)) : A3 w g rs := fun i hi => by
  match i, hi with
  | 0, _ => exact ⟨x, h0, n0, hO.cell 0, hO.cell 1, hO.cell 2, hO.cell 3, hO.lt⟩
  | 1, _ => exact ⟨y, h1, n1, hO.cell 4, hO.cell 5, hO.cell 6, hO.cell 7, hO.lt⟩
  | 2, _ => exact ⟨z, h2, n2, hO.cell 8, hO.cell 9, hO.cell 10, hO.cell 11, hO.lt⟩
/-- A program's fraction in a list. -/
structure PAt (w : World) (g i : Nat) (x : FV) (r : Rat) : Prop where
  fr : FR x w r
  c0 : w.cell? ⟨g, i * 4, none⟩ = some (.bool x.p.neg)
  c1 : w.cell? ⟨g, i * 4 + 1, none⟩ = some (.slice x.p.A x.p.n x.p.c)
  c2 : w.cell? ⟨g, i * 4 + 2, none⟩ = some (.bool x.l.neg)
  c3 : w.cell? ⟨g, i * 4 + 3, none⟩ = some (.slice x.l.A x.l.n x.l.c)
  lt : g < w.heap.size
theorem PAt.on {w w' : World} {g i : Nat} {x : FV} {r : Rat} (h : PAt w g i x r) (hb : Below w.heap.size w w') : PAt w' g i x r :=
  ⟨h.fr.on hb, (hb.cell (p := ⟨g, _, none⟩) h.lt).trans h.c0, (hb.cell (p := ⟨g, _, none⟩) h.lt).trans h.c1, (hb.cell (p := ⟨g, _, none⟩) h.lt).trans h.c2, (hb.cell (p := ⟨g, _, none⟩) h.lt).trans h.c3, Nat.lt_of_lt_of_le h.lt hb.size⟩
theorem PAt.cells {w : World} {g i : Nat} {x : FV} {r : Rat} (h : PAt w g i x r) : w.cell? ⟨g, i * 4, none⟩ = some (.bool x.p.neg) ∧ w.cell? ⟨g, i * 4 + 1, none⟩ = some (.slice x.p.A x.p.n x.p.c) ∧ w.cell? ⟨g, i * 4 + 2, none⟩ = some (.bool x.l.neg) ∧ w.cell? ⟨g, i * 4 + 3, none⟩ = some (.slice x.l.A x.l.n x.l.c) := ⟨h.c0, h.c1, h.c2, h.c3⟩
theorem PAt.at0 {w : World} {g : Nat} {x : FV} {r : Rat} (h : PAt w g 0 x r) : w.cell? ⟨g, 0, none⟩ = some (.bool x.p.neg) ∧ w.cell? ⟨g, 1, none⟩ = some (.slice x.p.A x.p.n x.p.c) ∧ w.cell? ⟨g, 2, none⟩ = some (.bool x.l.neg) ∧ w.cell? ⟨g, 3, none⟩ = some (.slice x.l.A x.l.n x.l.c) := h.cells
theorem PAt.at1 {w : World} {g : Nat} {x : FV} {r : Rat} (h : PAt w g 1 x r) : w.cell? ⟨g, 4, none⟩ = some (.bool x.p.neg) ∧ w.cell? ⟨g, 5, none⟩ = some (.slice x.p.A x.p.n x.p.c) ∧ w.cell? ⟨g, 6, none⟩ = some (.bool x.l.neg) ∧ w.cell? ⟨g, 7, none⟩ = some (.slice x.l.A x.l.n x.l.c) := h.cells
theorem PAt.at2 {w : World} {g : Nat} {x : FV} {r : Rat} (h : PAt w g 2 x r) : w.cell? ⟨g, 8, none⟩ = some (.bool x.p.neg) ∧ w.cell? ⟨g, 9, none⟩ = some (.slice x.p.A x.p.n x.p.c) ∧ w.cell? ⟨g, 10, none⟩ = some (.bool x.l.neg) ∧ w.cell? ⟨g, 11, none⟩ = some (.slice x.l.A x.l.n x.l.c) := h.cells
def X3 (w : World) (g n : Nat) (rs : Nat → Rat) : Prop := ∀ i, i < n → ∃ y, PAt w g i y (rs i)
theorem X3.on {w w' : World} {g n : Nat} {rs : Nat → Rat} (h : X3 w g n rs) (hb : Below w.heap.size w w') : X3 w' g n rs := fun i hi => by
  obtain ⟨x, hx⟩ := h i hi
  exact ⟨x, hx.on hb⟩
/-- The cells xs hold the first i fractions. -/
def XS (w : World) (rs : Nat → Rat) (i : Nat) (xs : List Value) : Prop := ∀ j, j < i → ∃ y : FV, FR y w (rs j) ∧ xs[j * 4]? = some (.bool y.p.neg) ∧ xs[j * 4 + 1]? = some (.slice y.p.A y.p.n y.p.c) ∧ xs[j * 4 + 2]? = some (.bool y.l.neg) ∧ xs[j * 4 + 3]? = some (.slice y.l.A y.l.n y.l.c)
theorem XS.keeps {w w' : World} {rs : Nat → Rat} {i : Nat} {xs : List Value} (h : XS w rs i xs) (k : Keeps w w') : XS w' rs i xs := fun j hj => by
  obtain ⟨y, h1, h2⟩ := h j hj
  exact ⟨y, h1.keeps k, h2⟩
theorem XS.push {w : World} {rs : Nat → Rat} {i : Nat} {xs : List Value} {y : FV} (h : XS w rs i xs) (hl : xs.length = i * 4) (hy : FR y w (rs i)) : XS w rs (i + 1) (xs ++ [.bool y.p.neg, .slice y.p.A y.p.n y.p.c, .bool y.l.neg, .slice y.l.A y.l.n y.l.c]) := fun j hj => by
  rcases Nat.lt_or_eq_of_le (Nat.le_of_lt_succ hj) with h1 | rfl
  · obtain ⟨z, h2, h3, h4, h5, h6⟩ := h j h1
    exact ⟨z, h2, by rw [List.getElem?_append_left (by omega)]; exact h3, by rw [List.getElem?_append_left (by omega)]; exact h4, by rw [List.getElem?_append_left (by omega)]; exact h5, by rw [List.getElem?_append_left (by omega)]; exact h6⟩
  · refine ⟨y, hy, ?_, ?_, ?_, ?_⟩ <;> rw [List.getElem?_append_right (by omega), hl]
    · rw [Nat.sub_self]; rfl
    · rw [show j * 4 + 1 - j * 4 = 1 by omega]; rfl
    · rw [show j * 4 + 2 - j * 4 = 2 by omega]; rfl
    · rw [show j * 4 + 3 - j * 4 = 3 by omega]; rfl
theorem row_pats {w : World} {B : Nat} {e : TypeId} {v : Value} {n : Nat} {xs : List Value} {rs : Nat → Rat} (h : RowK w B e 4 v n xs) (hx : XS w rs n xs) (hn : 0 < n) : ∃ g cap, v = .slice (some ⟨g, 0, none⟩) n cap ∧ B ≤ g ∧ n ≤ cap ∧ X3 w g n rs := by
  obtain ⟨g, cap, h1, h2, h3, h4, _, h6, _⟩ := RowK.some h hn
  refine ⟨g, cap, h1, h2, h4, fun j hj => ?_⟩
  obtain ⟨y, h7, h8, h9, h10, h11⟩ := hx j hj
  exact ⟨y, h7, (h6 _ (by omega)).trans h8, (h6 _ (by omega)).trans h9, (h6 _ (by omega)).trans h10, (h6 _ (by omega)).trans h11, h3⟩
set_option maxRecDepth 100000 in
set_option maxHeartbeats 12800000 in
theorem FracOrder_any {w : World} {A : Option Addr} {l : List Int} {c0 : Nat} (h : IntsIs w A l c0) (hTab0 : Tab w) : Calls Tryz.prog 18 #[.slice A l.length c0] w (RetBool w true) := by
  have b1 := Below.refl w.heap.size w
  go_enter Tryz.func18, Tryz.ntmps18
  go_wp2_with fail
  refine (fFrac_any h 0 (by omega) 0 rfl).mono ?_
  rintro e v1 ⟨f0, rfl, k1_, hf0⟩
  replace h := h.on k1_
  replace b1 := Below.call b1 k1_
  clear k1_
  obtain ⟨a, sa, hf0⟩ := hf0
  go_wp2_with fail
  refine (fFrac_any h 4 (by omega) 4 rfl).mono ?_
  rintro e v2 ⟨f1, rfl, k1_, hf1⟩
  replace h := h.on k1_
  replace hf0 := hf0.on k1_
  replace b1 := Below.call b1 k1_
  clear k1_
  obtain ⟨b, sb, hf1⟩ := hf1
  go_wp2_with fail
  refine (fFrac_any h 8 (by omega) 8 rfl).mono ?_
  rintro e v3 ⟨f2, rfl, k1_, hf2⟩
  go_upto_region 2 with fail
  refine wp_new1 fun v4 hF2 k2_ => ?_
  obtain ⟨gA, e_⟩ : ∃ gA, gA = v3.heap.size := ⟨_, rfl⟩
  rw [← e_] at hF2 ⊢
  clear e_
  have kk_ := Below.call k1_ k2_
  replace h := h.on kk_
  replace hf0 := hf0.on kk_
  replace hf1 := hf1.on kk_
  replace hf2 := hf2.on k2_
  replace b1 := Below.call b1 kk_
  clear k1_ k2_ kk_
  obtain ⟨c, sc, hf2⟩ := hf2
  obtain ⟨rs, r0, r1, r2⟩ : ∃ rs : Nat → Rat, rs 0 = a ∧ rs 1 = b ∧ rs 2 = c := ⟨fun i => if i = 0 then a else if i = 1 then b else c, by simp, by simp, by simp⟩
  subst r0
  subst r1
  subst r2
  have hA := A3.mk (rs := rs) hF2 sa hf0 sb hf1 sc hf2
  clear h hf0 hf1 hf2 hF2
  obtain ⟨W0, e_⟩ : ∃ W0, W0 = v4 := ⟨_, rfl⟩
  subst e_
  have hsm : ∀ i, i < 3 → SmR 130 (rs i) := fun i hi => by
    match i, hi with
    | 0, _ => exact sa
    | 1, _ => exact sb
    | 2, _ => exact sc
  have HSM := Lib.hid hsm
  clear hsm
  go_wp2_with fail
  go_loopw [4, 5] (fun s4 s5 wr => ∃ (i : Nat) (xs : List Value), i ≤ 3 ∧ s5 = .int .i64 (i : Int) ∧ RowK wr W0.heap.size 31 4 s4 i xs ∧ XS wr rs i xs ∧ Below W0.heap.size W0 wr) (fun _ s _ => 3 - (intOf s).toNat)
  case atStart => exact ⟨0, [], by omega, rfl, RowK.nil _ _ _ _, fun j hj => absurd hj (by omega), Below.refl _ _⟩
  case round =>
    obtain ⟨i, xs, hi, rfl, hrow, hxs, hbr⟩ := hrel
    rcases Nat.lt_or_eq_of_le hi with hlt | heq
    · have i3 : (i : Int) < 3 := by omega
      have i0 : (0 : Int) ≤ (i : Int) := by omega
      obtain ⟨x, hX⟩ := (hA.on hbr) i hlt
      obtain ⟨n0, n1, n2, n3⟩ := hX.rules
      have hW := Below.refl wr.heap.size wr
      go_wp2_with fail
      refine (of_any hX.nr (hX.sm.fit (by omega))).mono ?_
      rintro e w1 ⟨y, rfl, k1, hy⟩
      clear n0 n1 n2 n3 hW
      have hrow1 := hrow.on k1
      have hxs1 := hxs.keeps (Below.keeps k1)
      have hb1 := Below.call hbr k1
      have hO1 := Own.new w1 31 [.bool y.p.neg, .slice y.p.A y.p.n y.p.c, .bool y.l.neg, .slice y.l.A y.l.n y.l.c]
      have kb := below_new w1 (.cells #[.bool y.p.neg, .slice y.p.A y.p.n y.p.c, .bool y.l.neg, .slice y.l.A y.l.n y.l.c] 31)
      have hrow2 := hrow1.on kb
      have hxs2 := (hxs1.keeps (Below.keeps kb)).push hrow1.1 (hy.on kb)
      have hb2 := Below.call hb1 kb
      obtain ⟨i0_, hi_, hz0, hz1, hz2⟩ := info_parts fr_info
      go_wp2_with (at_builtin; refine wpList_push _ rfl _ _ 110 rfl 31 i0_ (.agg #[.bool false, .slice none 0 0, .bool false, .slice none 0 0]) 4 64 Tryz.underlying110 hi_ hz0 hz1 hz2 rfl (by decide) (by simp [Value.cells, Word]) W0.heap.size _ _ _ rfl hrow2 ⟨w1.heap.size, 0, none⟩ 1 [.bool y.p.neg, .slice y.p.A y.p.n y.p.c, .bool y.l.neg, .slice y.l.A y.l.n y.l.c] rfl rfl (own_news hO1) ?c2 ?c3 ?c4 ?c5 ?c6 ?_)
      case c2 => simp [Value.oneCell']
      case c3 => simp [Word]
      case c4 => unfold maxLen; omega
      case c5 => omega
      case c6 => exact hb2.size
      intro v' w2 hrow3 hgrow hkp
      have hb3 := hrow2.below hb2 hgrow hb2.size
      have hxs3 := hxs2.keeps hkp
      obtain ⟨g, cap, hv, hg, hcap, hps⟩ := row_pats hrow3 hxs3 (by omega)
      subst hv
      obtain ⟨y', hP⟩ := hps i (by omega)
      clear hX
      obtain ⟨x', hX⟩ := (hA.on hb3) i hlt
      obtain ⟨sg, hsg⟩ : ∃ sg, sgnR (rs i) = sg := ⟨_, rfl⟩
      have HS1 : Hid (∀ v, FR y' v (rs i) → Calls Tryz.prog 84 #[.agg #[.bool y'.p.neg, .slice y'.p.A y'.p.n y'.p.c, .bool y'.l.neg, .slice y'.l.A y'.l.n y'.l.c]] v (RetInt v sg)) := Lib.hid fun v h => by rw [← hsg]; exact signF h
      have HS2 : Hid (∀ v, NR x' v (rs i) → Calls Tryz.prog 89 #[.agg #[.bool x'.p.neg, .slice x'.p.A x'.p.n x'.p.c, .bool x'.l.neg, .slice x'.l.A x'.l.n x'.l.c]] v (RetInt v sg)) := Lib.hid fun v h => by rw [← hsg]; exact fSign_any h
      have HR := Lib.hid hrow3
      have HB3 := Lib.hid hb3
      have HXS := Lib.hid hxs3
      have i4 : (i : Int) < (i : Int) + 1 := by omega
      clear hrow hxs hbr hrow1 hxs1 hb1 hO1 kb hrow2 hxs2 hb2 hi_ hz0 hz1 hz2 hgrow hkp hrow3 hps hxs3 hsg hy k1
      clear i0_
      clear hb3
      go_upto_region 7 with fail
      refine wp_region_specs w2 [Spec.eq (.slice (some ⟨g, 0, none⟩) (i + 1) cap), Spec.eq (.int .i64 (i : Int)), Spec.eq (.pointer (some ⟨g, i * 4, none⟩)), Spec.eq (.agg #[.bool y'.p.neg, .slice y'.p.A y'.p.n y'.p.c, .bool y'.l.neg, .slice y'.l.A y'.l.n y'.l.c]), Spec.eq (.int .i64 sg), Spec.eq (.slice (some ⟨gA, 0, none⟩) 3 3), Spec.eq (.int .i64 (i : Int)), Spec.eq (.pointer (some ⟨gA, i * 4, none⟩)), Spec.eq (.agg #[.bool x'.p.neg, .slice x'.p.A x'.p.n x'.p.c, .bool x'.l.neg, .slice x'.l.A x'.l.n x'.l.c]), Spec.eq (.int .i64 sg), Spec.eq (.bool false)]
          (by kernel_rfl) (by kernel_rfl) rfl (by kernel_rfl) (Below.drew (Below.refl _ _)) ?_ ?_
      ·
        refine RegSteps.cons ?_ ?_
        · intro _ az wz hC hF hD _ K hK; have q4 : az.tmps[4]? = some (.slice (some ⟨g, 0, none⟩) (i + 1) cap) := hF 4 rfl; clear hF hD; refine want_none rfl ?_; go_simp; exact hK _ _ hC (Below.refl _ _) rfl
        refine RegSteps.cons ?_ ?_
        · intro _ az wz hC hF hD _ K hK; have q5 : az.tmps[5]? = some (.int .i64 (i : Int)) := hF 5 rfl; clear hF hD; refine want_none rfl ?_; go_simp; exact hK _ _ hC (Below.refl _ _) rfl
        refine RegSteps.cons ?_ ?_
        · intro _ az wz hC hF hD _ K hK; obtain ⟨_, q44, rfl⟩ := dep hD 0 rfl rfl rfl rfl; obtain ⟨_, q45, rfl⟩ := dep hD 1 rfl rfl rfl rfl; clear hF hD; refine want_none rfl ?_; go_simp; exact hK _ _ hC (Below.refl _ _) rfl
        refine RegSteps.cons ?_ ?_
        · intro _ az wz hC hF hD _ K hK; obtain ⟨_, q46, rfl⟩ := dep hD 2 rfl rfl rfl rfl; obtain ⟨l0, l1, l2, l3⟩ := (hP.on hC).cells; clear hF hD; refine want_none rfl ?_; go_simp; exact hK _ _ hC (Below.refl _ _) rfl
        refine RegSteps.cons ?_ ?_
        · intro _ az wz hC hF hD _ K hK; obtain ⟨_, q47, rfl⟩ := dep hD 3 rfl rfl rfl rfl; clear hF hD; refine want_none rfl ?_; go_simp; refine (HS1.out _ (hP.on hC).fr).mono ?_; rintro e wy ⟨rfl, k⟩; exact hK _ _ (Below.call hC k) k rfl
        refine RegSteps.cons ?_ ?_
        · intro _ az wz hC hF hD _ K hK; have q3 : az.tmps[3]? = some (.slice (some ⟨gA, 0, none⟩) 3 3) := hF 3 rfl; clear hF hD; refine want_none rfl ?_; go_simp; exact hK _ _ hC (Below.refl _ _) rfl
        refine RegSteps.cons ?_ ?_
        · intro _ az wz hC hF hD _ K hK; have q5 : az.tmps[5]? = some (.int .i64 (i : Int)) := hF 5 rfl; clear hF hD; refine want_none rfl ?_; go_simp; exact hK _ _ hC (Below.refl _ _) rfl
        refine RegSteps.cons ?_ ?_
        · intro _ az wz hC hF hD _ K hK; obtain ⟨_, q49, rfl⟩ := dep hD 5 rfl rfl rfl rfl; obtain ⟨_, q50, rfl⟩ := dep hD 6 rfl rfl rfl rfl; clear hF hD; refine want_none rfl ?_; go_simp; exact hK _ _ hC (Below.refl _ _) rfl
        refine RegSteps.cons ?_ ?_
        · intro _ az wz hC hF hD _ K hK; obtain ⟨_, q51, rfl⟩ := dep hD 7 rfl rfl rfl rfl; obtain ⟨l0, l1, l2, l3⟩ := (hX.on hC).cells; clear hF hD; refine want_none rfl ?_; go_simp; exact hK _ _ hC (Below.refl _ _) rfl
        refine RegSteps.cons ?_ ?_
        · intro _ az wz hC hF hD _ K hK; obtain ⟨_, q52, rfl⟩ := dep hD 8 rfl rfl rfl rfl; clear hF hD; refine want_none rfl ?_; go_simp; refine (HS2.out _ (hX.on hC).nr).mono ?_; rintro e wy ⟨rfl, k⟩; exact hK _ _ (Below.call hC k) k rfl
        refine RegSteps.cons ?_ ?_
        · intro _ az wz hC hF hD _ K hK; obtain ⟨_, q48, rfl⟩ := dep hD 4 rfl rfl rfl rfl; obtain ⟨_, q53, rfl⟩ := dep hD 9 rfl rfl rfl rfl; clear hF hD; refine want_none rfl ?_; go_simp; exact hK _ _ hC (Below.refl _ _) rfl
        exact RegSteps.nil
      intro w3 hC
      rintro _ rfl _ rfl _ rfl _ rfl _ rfl _ rfl _ rfl _ rfl _ rfl _ rfl _ rfl
      simp only [FinOK, Act.put, List.setIfInBounds_toArray, List.set_cons_zero, List.set_cons_succ]
      have hb4 := Below.call HB3.out hC
      have hr4 := HR.out.on hC
      have hx4 := HXS.out.keeps (Below.keeps hC)
      have HF := Lib.hid (And.intro hr4 (And.intro hx4 hb4))
      clear hr4 hx4 hb4 hC
      go_wp2_with fail
      go_roundw
      case rel => exact ⟨i + 1, _, by omega, by go_num, HF.out.1, HF.out.2.1, HF.out.2.2⟩
      case measure => simp [intOf]; omega
    · subst heq
      obtain ⟨gX, cap, hv, hg, hcap, hXX⟩ := row_pats hrow hxs (by omega)
      subst hv
      replace b1 := Below.call b1 hbr
      replace hA := hA.on hbr
      have hTab := hTab0.on b1
      clear hrow hxs hbr hi hg hcap
      obtain ⟨W1, e_⟩ : ∃ W1, W1 = wr := ⟨_, rfl⟩
      subst e_
      go_wp2_with fail
      go_loopw [6] (fun s wr => ∃ i : Nat, i ≤ 3 ∧ s = .int .i64 (i : Int) ∧ Below W1.heap.size W1 wr) (fun s _ => 3 - (intOf s).toNat)
      case atStart => exact ⟨0, by omega, rfl, Below.refl _ _⟩
      case round =>
        obtain ⟨i, hi, rfl, hbi⟩ := hrel
        rcases Nat.lt_or_eq_of_le hi with hlt | heq
        · obtain ⟨wo, e_⟩ : ∃ wo : World, wo = wr := ⟨_, rfl⟩
          subst e_
          have i3 : (i : Int) < 3 := by omega
          have i0 : (0 : Int) ≤ (i : Int) := by omega
          have HBi := Lib.hid hbi
          clear hbi
          go_wp2_with fail
          go_loopw [7] (fun s wr => ∃ k : Nat, k ≤ 3 ∧ s = .int .i64 (k : Int) ∧ Below W1.heap.size W1 wr) (fun s _ => 3 - (intOf s).toNat)
          case atStart => exact ⟨0, by omega, rfl, HBi.out⟩
          case round =>
            obtain ⟨k, hk, rfl, hbk⟩ := hrel
            rcases Nat.lt_or_eq_of_le hk with hkt | heq
            · have k3 : (k : Int) < 3 := by omega
              have k0 : (0 : Int) ≤ (k : Int) := by omega
              obtain ⟨x, hX⟩ := (hA.on hbk) i hlt
              obtain ⟨z, hZ⟩ := (hA.on hbk) k hkt
              obtain ⟨y, hY⟩ := (hXX.on hbk) i hlt
              obtain ⟨u, hU⟩ := (hXX.on hbk) k hkt
              have hTk := hTab.on hbk
              have si := (HSM.out i hlt).mono (show 130 ≤ 1240 by omega)
              have sk := (HSM.out k hkt).mono (show 130 ≤ 1240 by omega)
              obtain ⟨c, hc⟩ : ∃ c, cmpR (rs i) (rs k) = c := ⟨_, rfl⟩
              have hd : cmpR (rs k) (rs i) = -c := by rw [← hc]; exact cmpR_neg _ _
              obtain ⟨q, hq⟩ : ∃ q : Bool, decide (rs i = rs k) = q := ⟨_, rfl⟩
              have hcq : decide (c = 0) = q := by rw [← hq]; exact decide_eq_decide.2 (by rw [← hc]; exact cmpR_zero)
              have HQ : Hid (decide (c = 0) = q ∧ (c == 0) = q) := Lib.hid ⟨hcq, hcq⟩
              obtain ⟨c1, c2⟩ : -1 ≤ c ∧ c ≤ 1 := by rw [← hc]; exact cmpR_rg _ _
              have HC1 : Hid (∀ v, FR y v (rs i) → FR u v (rs k) → Calls Tryz.prog 90 #[.agg #[.bool y.p.neg, .slice y.p.A y.p.n y.p.c, .bool y.l.neg, .slice y.l.A y.l.n y.l.c], .agg #[.bool u.p.neg, .slice u.p.A u.p.n u.p.c, .bool u.l.neg, .slice u.l.A u.l.n u.l.c]] v (RetInt v c)) := Lib.hid fun v h1 h2 => by rw [← hc]; exact compareF h1 h2
              have HC2 : Hid (∀ v, NR x v (rs i) → NR z v (rs k) → Calls Tryz.prog 91 #[.agg #[.bool x.p.neg, .slice x.p.A x.p.n x.p.c, .bool x.l.neg, .slice x.l.A x.l.n x.l.c], .agg #[.bool z.p.neg, .slice z.p.A z.p.n z.p.c, .bool z.l.neg, .slice z.l.A z.l.n z.l.c]] v (RetInt v c)) := Lib.hid fun v h1 h2 => by rw [← hc]; exact fCompare_any h1 h2 si sk
              have HC3 : Hid (∀ v, FR u v (rs k) → FR y v (rs i) → Calls Tryz.prog 90 #[.agg #[.bool u.p.neg, .slice u.p.A u.p.n u.p.c, .bool u.l.neg, .slice u.l.A u.l.n u.l.c], .agg #[.bool y.p.neg, .slice y.p.A y.p.n y.p.c, .bool y.l.neg, .slice y.l.A y.l.n y.l.c]] v (RetInt v (-c))) := Lib.hid fun v h1 h2 => by rw [← hd]; exact compareF h1 h2
              have HC4 : Hid (∀ v, FR y v (rs i) → FR u v (rs k) → Tab v → Calls Tryz.prog 83 #[.agg #[.bool y.p.neg, .slice y.p.A y.p.n y.p.c, .bool y.l.neg, .slice y.l.A y.l.n y.l.c], .agg #[.bool u.p.neg, .slice u.p.A u.p.n u.p.c, .bool u.l.neg, .slice u.l.A u.l.n u.l.c]] v (RetBool v q)) := Lib.hid fun v h1 h2 h3 => by rw [← hq]; exact equalF_any h1 h2 h3
              have HBk := Lib.hid hbk
              clear hc hd hq hcq si sk hbk
              go_upto_region 15 with fail
              refine wp_region_specs wr [Spec.eq (.slice (some ⟨gX, 0, none⟩) 3 cap), Spec.eq (.int .i64 (i : Int)), Spec.eq (.pointer (some ⟨gX, i * 4, none⟩)), Spec.eq (.agg #[.bool y.p.neg, .slice y.p.A y.p.n y.p.c, .bool y.l.neg, .slice y.l.A y.l.n y.l.c]), Spec.eq (.slice (some ⟨gX, 0, none⟩) 3 cap), Spec.eq (.int .i64 (k : Int)), Spec.eq (.pointer (some ⟨gX, k * 4, none⟩)), Spec.eq (.agg #[.bool u.p.neg, .slice u.p.A u.p.n u.p.c, .bool u.l.neg, .slice u.l.A u.l.n u.l.c]), Spec.eq (.int .i64 c), Spec.eq (.int .i64 c)]
                  (by kernel_rfl) (by kernel_rfl) rfl (by kernel_rfl) (Below.drew (Below.refl _ _)) ?_ ?_
              ·
                refine RegSteps.cons ?_ ?_
                · intro _ az wz hC hF hD _ K hK; have q4 : az.tmps[4]? = some (.slice (some ⟨gX, 0, none⟩) 3 cap) := hF 4 rfl; clear hF hD; refine want_none rfl ?_; go_simp; exact hK _ _ hC (Below.refl _ _) rfl
                refine RegSteps.cons ?_ ?_
                · intro _ az wz hC hF hD _ K hK; have q6 : az.tmps[6]? = some (.int .i64 (i : Int)) := hF 6 rfl; clear hF hD; refine want_none rfl ?_; go_simp; exact hK _ _ hC (Below.refl _ _) rfl
                refine RegSteps.cons ?_ ?_
                · intro _ az wz hC hF hD _ K hK; obtain ⟨_, q63, rfl⟩ := dep hD 0 rfl rfl rfl rfl; obtain ⟨_, q64, rfl⟩ := dep hD 1 rfl rfl rfl rfl; clear hF hD; refine want_none rfl ?_; go_simp; exact hK _ _ hC (Below.refl _ _) rfl
                refine RegSteps.cons ?_ ?_
                · intro _ az wz hC hF hD _ K hK; obtain ⟨_, q65, rfl⟩ := dep hD 2 rfl rfl rfl rfl; obtain ⟨l0, l1, l2, l3⟩ := (hY.on hC).cells; clear hF hD; refine want_none rfl ?_; go_simp; exact hK _ _ hC (Below.refl _ _) rfl
                refine RegSteps.cons ?_ ?_
                · intro _ az wz hC hF hD _ K hK; have q4 : az.tmps[4]? = some (.slice (some ⟨gX, 0, none⟩) 3 cap) := hF 4 rfl; clear hF hD; refine want_none rfl ?_; go_simp; exact hK _ _ hC (Below.refl _ _) rfl
                refine RegSteps.cons ?_ ?_
                · intro _ az wz hC hF hD _ K hK; have q7 : az.tmps[7]? = some (.int .i64 (k : Int)) := hF 7 rfl; clear hF hD; refine want_none rfl ?_; go_simp; exact hK _ _ hC (Below.refl _ _) rfl
                refine RegSteps.cons ?_ ?_
                · intro _ az wz hC hF hD _ K hK; obtain ⟨_, q67, rfl⟩ := dep hD 4 rfl rfl rfl rfl; obtain ⟨_, q68, rfl⟩ := dep hD 5 rfl rfl rfl rfl; clear hF hD; refine want_none rfl ?_; go_simp; exact hK _ _ hC (Below.refl _ _) rfl
                refine RegSteps.cons ?_ ?_
                · intro _ az wz hC hF hD _ K hK; obtain ⟨_, q69, rfl⟩ := dep hD 6 rfl rfl rfl rfl; obtain ⟨l0, l1, l2, l3⟩ := (hU.on hC).cells; clear hF hD; refine want_none rfl ?_; go_simp; exact hK _ _ hC (Below.refl _ _) rfl
                refine RegSteps.cons ?_ ?_
                · intro _ az wz hC hF hD _ K hK; obtain ⟨_, q66, rfl⟩ := dep hD 3 rfl rfl rfl rfl; obtain ⟨_, q70, rfl⟩ := dep hD 7 rfl rfl rfl rfl; clear hF hD; refine want_none rfl ?_; go_simp; refine (HC1.out _ (hY.on hC).fr (hU.on hC).fr).mono ?_; rintro e wy ⟨rfl, k⟩; exact hK _ _ (Below.call hC k) k rfl
                refine RegSteps.cons ?_ ?_
                · intro _ az wz hC hF hD _ K hK; obtain ⟨_, q71, rfl⟩ := dep hD 8 rfl rfl rfl rfl; clear hF hD; refine want_none rfl ?_; go_simp; exact hK _ _ hC (Below.refl _ _) rfl
                exact RegSteps.nil
              intro w4 hC
              rintro _ rfl _ rfl _ rfl _ rfl _ rfl _ rfl _ rfl _ rfl _ rfl _ rfl
              simp only [FinOK, Act.put, List.setIfInBounds_toArray, List.set_cons_zero, List.set_cons_succ]
              replace hX := hX.on hC
              replace hZ := hZ.on hC
              replace hY := hY.on hC
              replace hU := hU.on hC
              replace hTk := hTk.on hC
              have HB4 := Lib.hid (Below.call HBk.out hC)
              clear hC
              go_wp2_with fail
              refine wp_region_specs w4 [Spec.eq (.int .i64 c), Spec.eq (.slice (some ⟨gA, 0, none⟩) 3 3), Spec.eq (.int .i64 (i : Int)), Spec.eq (.pointer (some ⟨gA, i * 4, none⟩)), Spec.eq (.agg #[.bool x.p.neg, .slice x.p.A x.p.n x.p.c, .bool x.l.neg, .slice x.l.A x.l.n x.l.c]), Spec.eq (.slice (some ⟨gA, 0, none⟩) 3 3), Spec.eq (.int .i64 (k : Int)), Spec.eq (.pointer (some ⟨gA, k * 4, none⟩)), Spec.eq (.agg #[.bool z.p.neg, .slice z.p.A z.p.n z.p.c, .bool z.l.neg, .slice z.l.A z.l.n z.l.c]), Spec.eq (.int .i64 c), Spec.eq (.bool false), Spec.eq (.bool false), Spec.eq (.int .i64 c), Spec.eq (.slice (some ⟨gX, 0, none⟩) 3 cap), Spec.eq (.int .i64 (k : Int)), Spec.eq (.pointer (some ⟨gX, k * 4, none⟩)), Spec.eq (.agg #[.bool u.p.neg, .slice u.p.A u.p.n u.p.c, .bool u.l.neg, .slice u.l.A u.l.n u.l.c]), Spec.eq (.slice (some ⟨gX, 0, none⟩) 3 cap), Spec.eq (.int .i64 (i : Int)), Spec.eq (.pointer (some ⟨gX, i * 4, none⟩)), Spec.eq (.agg #[.bool y.p.neg, .slice y.p.A y.p.n y.p.c, .bool y.l.neg, .slice y.l.A y.l.n y.l.c]), Spec.eq (.int .i64 (-c)), Spec.eq (.int .i64 c), Spec.eq (.bool false), Spec.eq (.bool false), Spec.eq (.bool false), Spec.eq (.int .i64 c), Spec.eq (.bool q), Spec.eq (.slice (some ⟨gX, 0, none⟩) 3 cap), Spec.eq (.int .i64 (i : Int)), Spec.eq (.pointer (some ⟨gX, i * 4, none⟩)), Spec.eq (.agg #[.bool y.p.neg, .slice y.p.A y.p.n y.p.c, .bool y.l.neg, .slice y.l.A y.l.n y.l.c]), Spec.eq (.slice (some ⟨gX, 0, none⟩) 3 cap), Spec.eq (.int .i64 (k : Int)), Spec.eq (.pointer (some ⟨gX, k * 4, none⟩)), Spec.eq (.agg #[.bool u.p.neg, .slice u.p.A u.p.n u.p.c, .bool u.l.neg, .slice u.l.A u.l.n u.l.c]), Spec.eq (.bool q), Spec.eq (.bool false), Spec.eq (.bool false)]
                  (by kernel_rfl) (by kernel_rfl) rfl (by kernel_rfl) (Below.drew (Below.refl _ _)) ?_ ?_
              ·
                refine RegSteps.cons ?_ ?_
                · intro _ az wz hC hF hD _ K hK; have q8 : az.tmps[8]? = some (.int .i64 c) := hF 8 rfl; clear hF hD; refine want_none rfl ?_; go_simp; exact hK _ _ hC (Below.refl _ _) rfl
                refine RegSteps.cons ?_ ?_
                · intro _ az wz hC hF hD _ K hK; have q3 : az.tmps[3]? = some (.slice (some ⟨gA, 0, none⟩) 3 3) := hF 3 rfl; clear hF hD; refine want_none rfl ?_; go_simp; exact hK _ _ hC (Below.refl _ _) rfl
                refine RegSteps.cons ?_ ?_
                · intro _ az wz hC hF hD _ K hK; have q6 : az.tmps[6]? = some (.int .i64 (i : Int)) := hF 6 rfl; clear hF hD; refine want_none rfl ?_; go_simp; exact hK _ _ hC (Below.refl _ _) rfl
                refine RegSteps.cons ?_ ?_
                · intro _ az wz hC hF hD _ K hK; obtain ⟨_, q73, rfl⟩ := dep hD 1 rfl rfl rfl rfl; obtain ⟨_, q74, rfl⟩ := dep hD 2 rfl rfl rfl rfl; clear hF hD; refine want_none rfl ?_; go_simp; exact hK _ _ hC (Below.refl _ _) rfl
                refine RegSteps.cons ?_ ?_
                · intro _ az wz hC hF hD _ K hK; obtain ⟨_, q75, rfl⟩ := dep hD 3 rfl rfl rfl rfl; obtain ⟨l0, l1, l2, l3⟩ := (hX.on hC).cells; clear hF hD; refine want_none rfl ?_; go_simp; exact hK _ _ hC (Below.refl _ _) rfl
                refine RegSteps.cons ?_ ?_
                · intro _ az wz hC hF hD _ K hK; have q3 : az.tmps[3]? = some (.slice (some ⟨gA, 0, none⟩) 3 3) := hF 3 rfl; clear hF hD; refine want_none rfl ?_; go_simp; exact hK _ _ hC (Below.refl _ _) rfl
                refine RegSteps.cons ?_ ?_
                · intro _ az wz hC hF hD _ K hK; have q7 : az.tmps[7]? = some (.int .i64 (k : Int)) := hF 7 rfl; clear hF hD; refine want_none rfl ?_; go_simp; exact hK _ _ hC (Below.refl _ _) rfl
                refine RegSteps.cons ?_ ?_
                · intro _ az wz hC hF hD _ K hK; obtain ⟨_, q77, rfl⟩ := dep hD 5 rfl rfl rfl rfl; obtain ⟨_, q78, rfl⟩ := dep hD 6 rfl rfl rfl rfl; clear hF hD; refine want_none rfl ?_; go_simp; exact hK _ _ hC (Below.refl _ _) rfl
                refine RegSteps.cons ?_ ?_
                · intro _ az wz hC hF hD _ K hK; obtain ⟨_, q79, rfl⟩ := dep hD 7 rfl rfl rfl rfl; obtain ⟨l0, l1, l2, l3⟩ := (hZ.on hC).cells; clear hF hD; refine want_none rfl ?_; go_simp; exact hK _ _ hC (Below.refl _ _) rfl
                refine RegSteps.cons ?_ ?_
                · intro _ az wz hC hF hD _ K hK; obtain ⟨_, q76, rfl⟩ := dep hD 4 rfl rfl rfl rfl; obtain ⟨_, q80, rfl⟩ := dep hD 8 rfl rfl rfl rfl; clear hF hD; refine want_none rfl ?_; go_simp; refine (HC2.out _ (hX.on hC).nr (hZ.on hC).nr).mono ?_; rintro e wy ⟨rfl, k⟩; exact hK _ _ (Below.call hC k) k rfl
                refine RegSteps.cons ?_ ?_
                · intro _ az wz hC hF hD _ K hK; obtain ⟨_, q72, rfl⟩ := dep hD 0 rfl rfl rfl rfl; obtain ⟨_, q81, rfl⟩ := dep hD 9 rfl rfl rfl rfl; clear hF hD; refine want_none rfl ?_; go_simp; exact hK _ _ hC (Below.refl _ _) rfl
                refine RegSteps.cons ?_ ?_
                · intro _ az wz hC hF hD _ K hK; obtain ⟨_, q82, rfl⟩ := dep hD 10 rfl rfl rfl rfl; clear hF hD; refine want_none rfl ?_; go_simp; exact hK _ _ hC (Below.refl _ _) rfl
                refine RegSteps.cons ?_ ?_
                · intro _ az wz hC hF hD _ K hK; have q8 : az.tmps[8]? = some (.int .i64 c) := hF 8 rfl; obtain ⟨_, qg, rfl⟩ := dep hD 11 rfl rfl rfl rfl; clear hF hD; refine want_yes rfl rfl rfl qg ?_; go_simp; exact hK _ _ hC (Below.refl _ _) rfl
                refine RegSteps.cons ?_ ?_
                · intro _ az wz hC hF hD _ K hK; have q4 : az.tmps[4]? = some (.slice (some ⟨gX, 0, none⟩) 3 cap) := hF 4 rfl; obtain ⟨_, qg, rfl⟩ := dep hD 11 rfl rfl rfl rfl; clear hF hD; refine want_yes rfl rfl rfl qg ?_; go_simp; exact hK _ _ hC (Below.refl _ _) rfl
                refine RegSteps.cons ?_ ?_
                · intro _ az wz hC hF hD _ K hK; have q7 : az.tmps[7]? = some (.int .i64 (k : Int)) := hF 7 rfl; obtain ⟨_, qg, rfl⟩ := dep hD 11 rfl rfl rfl rfl; clear hF hD; refine want_yes rfl rfl rfl qg ?_; go_simp; exact hK _ _ hC (Below.refl _ _) rfl
                refine RegSteps.cons ?_ ?_
                · intro _ az wz hC hF hD _ K hK; obtain ⟨_, q85, rfl⟩ := dep hD 13 rfl rfl rfl rfl; obtain ⟨_, q86, rfl⟩ := dep hD 14 rfl rfl rfl rfl; obtain ⟨_, qg, rfl⟩ := dep hD 11 rfl rfl rfl rfl; clear hF hD; refine want_yes rfl rfl rfl qg ?_; go_simp; exact hK _ _ hC (Below.refl _ _) rfl
                refine RegSteps.cons ?_ ?_
                · intro _ az wz hC hF hD _ K hK; obtain ⟨_, q87, rfl⟩ := dep hD 15 rfl rfl rfl rfl; obtain ⟨_, qg, rfl⟩ := dep hD 11 rfl rfl rfl rfl; obtain ⟨l0, l1, l2, l3⟩ := (hU.on hC).cells; clear hF hD; refine want_yes rfl rfl rfl qg ?_; go_simp; exact hK _ _ hC (Below.refl _ _) rfl
                refine RegSteps.cons ?_ ?_
                · intro _ az wz hC hF hD _ K hK; have q4 : az.tmps[4]? = some (.slice (some ⟨gX, 0, none⟩) 3 cap) := hF 4 rfl; obtain ⟨_, qg, rfl⟩ := dep hD 11 rfl rfl rfl rfl; clear hF hD; refine want_yes rfl rfl rfl qg ?_; go_simp; exact hK _ _ hC (Below.refl _ _) rfl
                refine RegSteps.cons ?_ ?_
                · intro _ az wz hC hF hD _ K hK; have q6 : az.tmps[6]? = some (.int .i64 (i : Int)) := hF 6 rfl; obtain ⟨_, qg, rfl⟩ := dep hD 11 rfl rfl rfl rfl; clear hF hD; refine want_yes rfl rfl rfl qg ?_; go_simp; exact hK _ _ hC (Below.refl _ _) rfl
                refine RegSteps.cons ?_ ?_
                · intro _ az wz hC hF hD _ K hK; obtain ⟨_, q89, rfl⟩ := dep hD 17 rfl rfl rfl rfl; obtain ⟨_, q90, rfl⟩ := dep hD 18 rfl rfl rfl rfl; obtain ⟨_, qg, rfl⟩ := dep hD 11 rfl rfl rfl rfl; clear hF hD; refine want_yes rfl rfl rfl qg ?_; go_simp; exact hK _ _ hC (Below.refl _ _) rfl
                refine RegSteps.cons ?_ ?_
                · intro _ az wz hC hF hD _ K hK; obtain ⟨_, q91, rfl⟩ := dep hD 19 rfl rfl rfl rfl; obtain ⟨_, qg, rfl⟩ := dep hD 11 rfl rfl rfl rfl; obtain ⟨l0, l1, l2, l3⟩ := (hY.on hC).cells; clear hF hD; refine want_yes rfl rfl rfl qg ?_; go_simp; exact hK _ _ hC (Below.refl _ _) rfl
                refine RegSteps.cons ?_ ?_
                · intro _ az wz hC hF hD _ K hK; obtain ⟨_, q88, rfl⟩ := dep hD 16 rfl rfl rfl rfl; obtain ⟨_, q92, rfl⟩ := dep hD 20 rfl rfl rfl rfl; obtain ⟨_, qg, rfl⟩ := dep hD 11 rfl rfl rfl rfl; clear hF hD; refine want_yes rfl rfl rfl qg ?_; go_simp; refine (HC3.out _ (hU.on hC).fr (hY.on hC).fr).mono ?_; rintro e wy ⟨rfl, k⟩; exact hK _ _ (Below.call hC k) k rfl
                refine RegSteps.cons ?_ ?_
                · intro _ az wz hC hF hD _ K hK; obtain ⟨_, q93, rfl⟩ := dep hD 21 rfl rfl rfl rfl; obtain ⟨_, qg, rfl⟩ := dep hD 11 rfl rfl rfl rfl; have hnn_ : - -c = c := Int.neg_neg c; clear hF hD; refine want_yes rfl rfl rfl qg ?_; go_simp; try go_ints; exact hK _ _ hC (Below.refl _ _) rfl
                refine RegSteps.cons ?_ ?_
                · intro _ az wz hC hF hD _ K hK; obtain ⟨_, q84, rfl⟩ := dep hD 12 rfl rfl rfl rfl; obtain ⟨_, q94, rfl⟩ := dep hD 22 rfl rfl rfl rfl; obtain ⟨_, qg, rfl⟩ := dep hD 11 rfl rfl rfl rfl; clear hF hD; refine want_yes rfl rfl rfl qg ?_; go_simp; exact hK _ _ hC (Below.refl _ _) rfl
                refine RegSteps.cons ?_ ?_
                · intro _ az wz hC hF hD _ K hK; obtain ⟨_, q83, rfl⟩ := dep hD 11 rfl rfl rfl rfl; obtain ⟨_, q95, rfl⟩ := dep hD 23 rfl rfl rfl rfl; clear hF hD; refine want_none rfl ?_; go_simp; exact hK _ _ hC (Below.refl _ _) rfl
                refine RegSteps.cons ?_ ?_
                · intro _ az wz hC hF hD _ K hK; obtain ⟨_, q96, rfl⟩ := dep hD 24 rfl rfl rfl rfl; clear hF hD; refine want_none rfl ?_; go_simp; exact hK _ _ hC (Below.refl _ _) rfl
                refine RegSteps.cons ?_ ?_
                · intro _ az wz hC hF hD _ K hK; have q8 : az.tmps[8]? = some (.int .i64 c) := hF 8 rfl; obtain ⟨_, qg, rfl⟩ := dep hD 25 rfl rfl rfl rfl; clear hF hD; refine want_yes rfl rfl rfl qg ?_; go_simp; exact hK _ _ hC (Below.refl _ _) rfl
                refine RegSteps.cons ?_ ?_
                · intro _ az wz hC hF hD _ K hK; obtain ⟨_, q98, rfl⟩ := dep hD 26 rfl rfl rfl rfl; obtain ⟨_, qg, rfl⟩ := dep hD 25 rfl rfl rfl rfl; have hq1_ := HQ.out.1; have hq2_ := HQ.out.2; clear hF hD; refine want_yes rfl rfl rfl qg ?_; go_simp; exact hK _ _ hC (Below.refl _ _) rfl
                refine RegSteps.cons ?_ ?_
                · intro _ az wz hC hF hD _ K hK; have q4 : az.tmps[4]? = some (.slice (some ⟨gX, 0, none⟩) 3 cap) := hF 4 rfl; obtain ⟨_, qg, rfl⟩ := dep hD 25 rfl rfl rfl rfl; clear hF hD; refine want_yes rfl rfl rfl qg ?_; go_simp; exact hK _ _ hC (Below.refl _ _) rfl
                refine RegSteps.cons ?_ ?_
                · intro _ az wz hC hF hD _ K hK; have q6 : az.tmps[6]? = some (.int .i64 (i : Int)) := hF 6 rfl; obtain ⟨_, qg, rfl⟩ := dep hD 25 rfl rfl rfl rfl; clear hF hD; refine want_yes rfl rfl rfl qg ?_; go_simp; exact hK _ _ hC (Below.refl _ _) rfl
                refine RegSteps.cons ?_ ?_
                · intro _ az wz hC hF hD _ K hK; obtain ⟨_, q100, rfl⟩ := dep hD 28 rfl rfl rfl rfl; obtain ⟨_, q101, rfl⟩ := dep hD 29 rfl rfl rfl rfl; obtain ⟨_, qg, rfl⟩ := dep hD 25 rfl rfl rfl rfl; clear hF hD; refine want_yes rfl rfl rfl qg ?_; go_simp; exact hK _ _ hC (Below.refl _ _) rfl
                refine RegSteps.cons ?_ ?_
                · intro _ az wz hC hF hD _ K hK; obtain ⟨_, q102, rfl⟩ := dep hD 30 rfl rfl rfl rfl; obtain ⟨_, qg, rfl⟩ := dep hD 25 rfl rfl rfl rfl; obtain ⟨l0, l1, l2, l3⟩ := (hY.on hC).cells; clear hF hD; refine want_yes rfl rfl rfl qg ?_; go_simp; exact hK _ _ hC (Below.refl _ _) rfl
                refine RegSteps.cons ?_ ?_
                · intro _ az wz hC hF hD _ K hK; have q4 : az.tmps[4]? = some (.slice (some ⟨gX, 0, none⟩) 3 cap) := hF 4 rfl; obtain ⟨_, qg, rfl⟩ := dep hD 25 rfl rfl rfl rfl; clear hF hD; refine want_yes rfl rfl rfl qg ?_; go_simp; exact hK _ _ hC (Below.refl _ _) rfl
                refine RegSteps.cons ?_ ?_
                · intro _ az wz hC hF hD _ K hK; have q7 : az.tmps[7]? = some (.int .i64 (k : Int)) := hF 7 rfl; obtain ⟨_, qg, rfl⟩ := dep hD 25 rfl rfl rfl rfl; clear hF hD; refine want_yes rfl rfl rfl qg ?_; go_simp; exact hK _ _ hC (Below.refl _ _) rfl
                refine RegSteps.cons ?_ ?_
                · intro _ az wz hC hF hD _ K hK; obtain ⟨_, q104, rfl⟩ := dep hD 32 rfl rfl rfl rfl; obtain ⟨_, q105, rfl⟩ := dep hD 33 rfl rfl rfl rfl; obtain ⟨_, qg, rfl⟩ := dep hD 25 rfl rfl rfl rfl; clear hF hD; refine want_yes rfl rfl rfl qg ?_; go_simp; exact hK _ _ hC (Below.refl _ _) rfl
                refine RegSteps.cons ?_ ?_
                · intro _ az wz hC hF hD _ K hK; obtain ⟨_, q106, rfl⟩ := dep hD 34 rfl rfl rfl rfl; obtain ⟨_, qg, rfl⟩ := dep hD 25 rfl rfl rfl rfl; obtain ⟨l0, l1, l2, l3⟩ := (hU.on hC).cells; clear hF hD; refine want_yes rfl rfl rfl qg ?_; go_simp; exact hK _ _ hC (Below.refl _ _) rfl
                refine RegSteps.cons ?_ ?_
                · intro _ az wz hC hF hD _ K hK; obtain ⟨_, q103, rfl⟩ := dep hD 31 rfl rfl rfl rfl; obtain ⟨_, q107, rfl⟩ := dep hD 35 rfl rfl rfl rfl; obtain ⟨_, qg, rfl⟩ := dep hD 25 rfl rfl rfl rfl; clear hF hD; refine want_yes rfl rfl rfl qg ?_; go_simp; refine (HC4.out _ (hY.on hC).fr (hU.on hC).fr (hTk.on hC)).mono ?_; rintro e wy ⟨rfl, k⟩; exact hK _ _ (Below.call hC k) k rfl
                refine RegSteps.cons ?_ ?_
                · intro _ az wz hC hF hD _ K hK; obtain ⟨_, q99, rfl⟩ := dep hD 27 rfl rfl rfl rfl; obtain ⟨_, q108, rfl⟩ := dep hD 36 rfl rfl rfl rfl; obtain ⟨_, qg, rfl⟩ := dep hD 25 rfl rfl rfl rfl; clear hF hD; refine want_yes rfl rfl rfl qg ?_; go_simp; exact hK _ _ hC (Below.refl _ _) rfl
                refine RegSteps.cons ?_ ?_
                · intro _ az wz hC hF hD _ K hK; obtain ⟨_, q97, rfl⟩ := dep hD 25 rfl rfl rfl rfl; obtain ⟨_, q109, rfl⟩ := dep hD 37 rfl rfl rfl rfl; clear hF hD; refine want_none rfl ?_; go_simp; exact hK _ _ hC (Below.refl _ _) rfl
                exact RegSteps.nil
              intro w5 hC
              rintro _ rfl _ rfl _ rfl _ rfl _ rfl _ rfl _ rfl _ rfl _ rfl _ rfl _ rfl _ rfl _ rfl _ rfl _ rfl _ rfl _ rfl _ rfl _ rfl _ rfl _ rfl _ rfl _ rfl _ rfl _ rfl _ rfl _ rfl _ rfl _ rfl _ rfl _ rfl _ rfl _ rfl _ rfl _ rfl _ rfl _ rfl _ rfl _ rfl
              simp only [FinOK, Act.put, List.setIfInBounds_toArray, List.set_cons_zero, List.set_cons_succ]
              have HB5 := Lib.hid (Below.call HB4.out hC)
              clear hC
              go_wp2_with fail
              go_roundw
              case rel => exact ⟨k + 1, by omega, by go_num, HB5.out⟩
              case measure => simp [intOf]; omega
            · subst heq
              have HBk := Lib.hid hbk
              clear hbk
              go_wp2_with fail
              go_roundw
              case rel => exact ⟨i + 1, by omega, by go_num, HBk.out⟩
              case measure => simp [intOf]; omega
        · subst heq
          replace b1 := Below.call b1 hbi
          obtain ⟨y0, hY0⟩ := (hXX.on hbi) 0 (by omega)
          obtain ⟨y1, hY1⟩ := (hXX.on hbi) 1 (by omega)
          obtain ⟨y2, hY2⟩ := (hXX.on hbi) 2 (by omega)
          have hTab := hTab0.on b1
          clear hbi hXX hA HSM hi
          obtain ⟨ab, hab⟩ : ∃ c, cmpR (rs 0) (rs 1) = c := ⟨_, rfl⟩
          obtain ⟨bc, hbc⟩ : ∃ c, cmpR (rs 1) (rs 2) = c := ⟨_, rfl⟩
          obtain ⟨ac, hac⟩ : ∃ c, cmpR (rs 0) (rs 2) = c := ⟨_, rfl⟩
          obtain ⟨sg, hsg⟩ : ∃ c, sgnR (rs 2) = c := ⟨_, rfl⟩
          obtain ⟨ag, hag⟩ : ∃ c, ab * sg = c := ⟨_, rfl⟩
          have HT : Hid (ab ≤ 0 → bc ≤ 0 → ac ≤ 0) := Lib.hid fun h1 h2 => by rw [← hac]; exact cmpR_trans (by rw [hab]; exact h1) (by rw [hbc]; exact h2)
          have HAG : Hid (ab * sg = ag ∧ -1 ≤ ag ∧ ag ≤ 1) := Lib.hid ⟨hag, by rw [← hag, ← hab, ← hsg]; exact prod_rg (cmpR_rg _ _) (sgnR_rg _)⟩
          obtain ⟨ab1, ab2⟩ : -1 ≤ ab ∧ ab ≤ 1 := by rw [← hab]; exact cmpR_rg _ _
          have HAB : Hid (∀ v, FR y0 v (rs 0) → FR y1 v (rs 1) → Calls Tryz.prog 90 #[.agg #[.bool y0.p.neg, .slice y0.p.A y0.p.n y0.p.c, .bool y0.l.neg, .slice y0.l.A y0.l.n y0.l.c], .agg #[.bool y1.p.neg, .slice y1.p.A y1.p.n y1.p.c, .bool y1.l.neg, .slice y1.l.A y1.l.n y1.l.c]] v (RetInt v ab)) := Lib.hid fun v h1 h2 => by rw [← hab]; exact compareF h1 h2
          have HBC : Hid (∀ v, FR y1 v (rs 1) → FR y2 v (rs 2) → Calls Tryz.prog 90 #[.agg #[.bool y1.p.neg, .slice y1.p.A y1.p.n y1.p.c, .bool y1.l.neg, .slice y1.l.A y1.l.n y1.l.c], .agg #[.bool y2.p.neg, .slice y2.p.A y2.p.n y2.p.c, .bool y2.l.neg, .slice y2.l.A y2.l.n y2.l.c]] v (RetInt v bc)) := Lib.hid fun v h1 h2 => by rw [← hbc]; exact compareF h1 h2
          have HAC : Hid (∀ v, FR y0 v (rs 0) → FR y2 v (rs 2) → Calls Tryz.prog 90 #[.agg #[.bool y0.p.neg, .slice y0.p.A y0.p.n y0.p.c, .bool y0.l.neg, .slice y0.l.A y0.l.n y0.l.c], .agg #[.bool y2.p.neg, .slice y2.p.A y2.p.n y2.p.c, .bool y2.l.neg, .slice y2.l.A y2.l.n y2.l.c]] v (RetInt v ac)) := Lib.hid fun v h1 h2 => by rw [← hac]; exact compareF h1 h2
          have HSG : Hid (∀ v, FR y2 v (rs 2) → Calls Tryz.prog 84 #[.agg #[.bool y2.p.neg, .slice y2.p.A y2.p.n y2.p.c, .bool y2.l.neg, .slice y2.l.A y2.l.n y2.l.c]] v (RetInt v sg)) := Lib.hid fun v h1 => by rw [← hsg]; exact signF h1
          have HP : Hid (∀ v, FR y0 v (rs 0) → FR y2 v (rs 2) → Calls Tryz.prog 74 #[.agg #[.bool y0.p.neg, .slice y0.p.A y0.p.n y0.p.c, .bool y0.l.neg, .slice y0.l.A y0.l.n y0.l.c], .agg #[.bool y2.p.neg, .slice y2.p.A y2.p.n y2.p.c, .bool y2.l.neg, .slice y2.l.A y2.l.n y2.l.c]] v (RetFRE v (rs 0 + rs 2) 0)) := Lib.hid fun v h1 h2 => addF_ok h1 h2 sa sc (by omega)
          have HQ : Hid (∀ v, FR y1 v (rs 1) → FR y2 v (rs 2) → Calls Tryz.prog 74 #[.agg #[.bool y1.p.neg, .slice y1.p.A y1.p.n y1.p.c, .bool y1.l.neg, .slice y1.l.A y1.l.n y1.l.c], .agg #[.bool y2.p.neg, .slice y2.p.A y2.p.n y2.p.c, .bool y2.l.neg, .slice y2.l.A y2.l.n y2.l.c]] v (RetFRE v (rs 1 + rs 2) 0)) := Lib.hid fun v h1 h2 => addF_ok h1 h2 sb sc (by omega)
          have HR : Hid (∀ v, FR y0 v (rs 0) → FR y2 v (rs 2) → Calls Tryz.prog 78 #[.agg #[.bool y0.p.neg, .slice y0.p.A y0.p.n y0.p.c, .bool y0.l.neg, .slice y0.l.A y0.l.n y0.l.c], .agg #[.bool y2.p.neg, .slice y2.p.A y2.p.n y2.p.c, .bool y2.l.neg, .slice y2.l.A y2.l.n y2.l.c]] v (RetFRE v (rs 0 * rs 2) 0)) := Lib.hid fun v h1 h2 => mulF_ok h1 h2 sa sc (by omega)
          have HS : Hid (∀ v, FR y1 v (rs 1) → FR y2 v (rs 2) → Calls Tryz.prog 78 #[.agg #[.bool y1.p.neg, .slice y1.p.A y1.p.n y1.p.c, .bool y1.l.neg, .slice y1.l.A y1.l.n y1.l.c], .agg #[.bool y2.p.neg, .slice y2.p.A y2.p.n y2.p.c, .bool y2.l.neg, .slice y2.l.A y2.l.n y2.l.c]] v (RetFRE v (rs 1 * rs 2) 0)) := Lib.hid fun v h1 h2 => mulF_ok h1 h2 sb sc (by omega)
          have HPQ : Hid (∀ (p q : FV) v, FR p v (rs 0 + rs 2) → FR q v (rs 1 + rs 2) → Calls Tryz.prog 90 #[.agg #[.bool p.p.neg, .slice p.p.A p.p.n p.p.c, .bool p.l.neg, .slice p.l.A p.l.n p.l.c], .agg #[.bool q.p.neg, .slice q.p.A q.p.n q.p.c, .bool q.l.neg, .slice q.l.A q.l.n q.l.c]] v (RetInt v ab)) := Lib.hid fun p q v h1 h2 => by rw [← hab, ← cmpR_add _ _ (rs 2)]; exact compareF h1 h2
          have HRS0 : Hid (∀ (r s : FV) v, FR r v (rs 0 * rs 2) → FR s v (rs 1 * rs 2) → Calls Tryz.prog 90 #[.agg #[.bool r.p.neg, .slice r.p.A r.p.n r.p.c, .bool r.l.neg, .slice r.l.A r.l.n r.l.c], .agg #[.bool s.p.neg, .slice s.p.A s.p.n s.p.c, .bool s.l.neg, .slice s.l.A s.l.n s.l.c]] v (RetInt v ag)) := Lib.hid fun p q v h1 h2 => by rw [← hag, ← hab, ← hsg, ← cmpR_mul]; exact compareF h1 h2
          obtain ⟨md, hmd⟩ : ∃ c, medR (rs 0) (rs 1) = c := ⟨_, rfl⟩
          obtain ⟨zn, hzn⟩ : ∃ c, (rs 0).num + (rs 1).num = c := ⟨_, rfl⟩
          obtain ⟨zd, hzd⟩ : ∃ c, ((rs 0).den : Int) + ((rs 1).den : Int) = c := ⟨_, rfl⟩
          have hfn : zn.natAbs < top := by rw [← hzn]; exact (Sm.add sa.1 sb.1).top (by omega)
          have hfd : zd.natAbs < top := by rw [← hzd]; exact (Sm.add sa.2 sb.2).top (by omega)
          have HNA : Hid (∀ (x y : IV) v, x.is v (rs 0).num → y.is v (rs 1).num → Calls Tryz.prog 48 #[.agg #[.bool x.neg, .slice x.A x.n x.c], .agg #[.bool y.neg, .slice y.A y.n y.c]] v (IntE v zn 0)) := Lib.hid fun x y v h1 h2 => by
            have h3 := add_iv h1 h2
            rwa [hzn, lim_in hfn, clip_in hfn] at h3
          have HDA : Hid (∀ (x y : IV) v, x.is v ((rs 0).den : Int) → y.is v ((rs 1).den : Int) → Calls Tryz.prog 48 #[.agg #[.bool x.neg, .slice x.A x.n x.c], .agg #[.bool y.neg, .slice y.A y.n y.c]] v (IntE v zd 0)) := Lib.hid fun x y v h1 h2 => by
            have h3 := add_iv h1 h2
            rwa [hzd, lim_in hfd, clip_in hfd] at h3
          have hd0 : 0 < zd := by
            have h1 := (rs 0).den_pos
            have h2 := (rs 1).den_pos
            omega
          have HMk : Hid (∀ (x y : IV) v, x.is v zn → y.is v zd → Calls Tryz.prog 63 #[.agg #[.bool x.neg, .slice x.A x.n x.c], .agg #[.bool y.neg, .slice y.A y.n y.c]] v (RetFRE v md 0)) := Lib.hid fun x y v h1 h2 => by
            have h3 := makeF h1 h2
            rw [show makeR zn zd = (md, 0) by unfold makeR; rw [if_neg (by omega), ← hmd, ← hzn, ← hzd]; rfl] at h3
            exact h3
          have HM0 : Hid (∀ (m : FV) v, FR y0 v (rs 0) → FR m v md → Calls Tryz.prog 90 #[.agg #[.bool y0.p.neg, .slice y0.p.A y0.p.n y0.p.c, .bool y0.l.neg, .slice y0.l.A y0.l.n y0.l.c], .agg #[.bool m.p.neg, .slice m.p.A m.p.n m.p.c, .bool m.l.neg, .slice m.l.A m.l.n m.l.c]] v (RetInt v ab)) := Lib.hid fun m v h1 h2 => by
            have h3 := compareF h1 h2
            rwa [← hmd, (cmpR_med _ _).1, hab] at h3
          have HM1 : Hid (∀ (m : FV) v, FR m v md → FR y1 v (rs 1) → Calls Tryz.prog 90 #[.agg #[.bool m.p.neg, .slice m.p.A m.p.n m.p.c, .bool m.l.neg, .slice m.l.A m.l.n m.l.c], .agg #[.bool y1.p.neg, .slice y1.p.A y1.p.n y1.p.c, .bool y1.l.neg, .slice y1.l.A y1.l.n y1.l.c]] v (RetInt v ab)) := Lib.hid fun m v h1 h2 => by
            have h3 := compareF h1 h2
            rwa [← hmd, (cmpR_med _ _).2, hab] at h3
          have HRS := HRS0
          clear hab hbc hac hsg hag hmd hzn hzd hfn hfd hd0 sa sb sc HRS0
          go_upto_region 18 with fail
          refine wp_region_specs wr [Spec.eq (.slice (some ⟨gX, 0, none⟩) 3 cap), Spec.eq (.pointer (some ⟨gX, 0, none⟩)), Spec.eq (.agg #[.bool y0.p.neg, .slice y0.p.A y0.p.n y0.p.c, .bool y0.l.neg, .slice y0.l.A y0.l.n y0.l.c]), Spec.eq (.slice (some ⟨gX, 0, none⟩) 3 cap), Spec.eq (.pointer (some ⟨gX, 4, none⟩)), Spec.eq (.agg #[.bool y1.p.neg, .slice y1.p.A y1.p.n y1.p.c, .bool y1.l.neg, .slice y1.l.A y1.l.n y1.l.c]), Spec.eq (.int .i64 ab), Spec.eq (.int .i64 ab)]
              (by kernel_rfl) (by kernel_rfl) rfl (by kernel_rfl) (Below.drew (Below.refl _ _)) ?_ ?_
          ·
            refine RegSteps.cons ?_ ?_
            · intro _ az wz hC hF hD _ K hK; have q4 : az.tmps[4]? = some (.slice (some ⟨gX, 0, none⟩) 3 cap) := hF 4 rfl; clear hF hD; refine want_none rfl ?_; go_simp; exact hK _ _ hC (Below.refl _ _) rfl
            refine RegSteps.cons ?_ ?_
            · intro _ az wz hC hF hD _ K hK; obtain ⟨_, q111, rfl⟩ := dep hD 0 rfl rfl rfl rfl; clear hF hD; refine want_none rfl ?_; go_simp; exact hK _ _ hC (Below.refl _ _) rfl
            refine RegSteps.cons ?_ ?_
            · intro _ az wz hC hF hD _ K hK; obtain ⟨_, q112, rfl⟩ := dep hD 1 rfl rfl rfl rfl; obtain ⟨l0, l1, l2, l3⟩ := (hY0.on hC).at0; clear hF hD; refine want_none rfl ?_; go_simp; exact hK _ _ hC (Below.refl _ _) rfl
            refine RegSteps.cons ?_ ?_
            · intro _ az wz hC hF hD _ K hK; have q4 : az.tmps[4]? = some (.slice (some ⟨gX, 0, none⟩) 3 cap) := hF 4 rfl; clear hF hD; refine want_none rfl ?_; go_simp; exact hK _ _ hC (Below.refl _ _) rfl
            refine RegSteps.cons ?_ ?_
            · intro _ az wz hC hF hD _ K hK; obtain ⟨_, q114, rfl⟩ := dep hD 3 rfl rfl rfl rfl; clear hF hD; refine want_none rfl ?_; go_simp; exact hK _ _ hC (Below.refl _ _) rfl
            refine RegSteps.cons ?_ ?_
            · intro _ az wz hC hF hD _ K hK; obtain ⟨_, q115, rfl⟩ := dep hD 4 rfl rfl rfl rfl; obtain ⟨l0, l1, l2, l3⟩ := (hY1.on hC).at1; clear hF hD; refine want_none rfl ?_; go_simp; exact hK _ _ hC (Below.refl _ _) rfl
            refine RegSteps.cons ?_ ?_
            · intro _ az wz hC hF hD _ K hK; obtain ⟨_, q113, rfl⟩ := dep hD 2 rfl rfl rfl rfl; obtain ⟨_, q116, rfl⟩ := dep hD 5 rfl rfl rfl rfl; clear hF hD; refine want_none rfl ?_; go_simp; refine (HAB.out _ (hY0.on hC).fr (hY1.on hC).fr).mono ?_; rintro e wy ⟨rfl, k⟩; exact hK _ _ (Below.call hC k) k rfl
            refine RegSteps.cons ?_ ?_
            · intro _ az wz hC hF hD _ K hK; obtain ⟨_, q117, rfl⟩ := dep hD 6 rfl rfl rfl rfl; clear hF hD; refine want_none rfl ?_; go_simp; exact hK _ _ hC (Below.refl _ _) rfl
            exact RegSteps.nil
          intro u1 hC
          rintro _ rfl _ rfl _ rfl _ rfl _ rfl _ rfl _ rfl _ rfl
          simp only [FinOK, Act.put, List.setIfInBounds_toArray, List.set_cons_zero, List.set_cons_succ]
          replace hY0 := hY0.on hC
          replace hY1 := hY1.on hC
          replace hY2 := hY2.on hC
          replace hTab := hTab.on hC
          replace b1 := Below.call b1 hC
          clear hC
          go_wp2_with fail
          refine wp_region_specs u1 [Spec.eq (.slice (some ⟨gX, 0, none⟩) 3 cap), Spec.eq (.pointer (some ⟨gX, 4, none⟩)), Spec.eq (.agg #[.bool y1.p.neg, .slice y1.p.A y1.p.n y1.p.c, .bool y1.l.neg, .slice y1.l.A y1.l.n y1.l.c]), Spec.eq (.slice (some ⟨gX, 0, none⟩) 3 cap), Spec.eq (.pointer (some ⟨gX, 8, none⟩)), Spec.eq (.agg #[.bool y2.p.neg, .slice y2.p.A y2.p.n y2.p.c, .bool y2.l.neg, .slice y2.l.A y2.l.n y2.l.c]), Spec.eq (.int .i64 bc), Spec.eq (.int .i64 bc)]
              (by kernel_rfl) (by kernel_rfl) rfl (by kernel_rfl) (Below.drew (Below.refl _ _)) ?_ ?_
          ·
            refine RegSteps.cons ?_ ?_
            · intro _ az wz hC hF hD _ K hK; have q4 : az.tmps[4]? = some (.slice (some ⟨gX, 0, none⟩) 3 cap) := hF 4 rfl; clear hF hD; refine want_none rfl ?_; go_simp; exact hK _ _ hC (Below.refl _ _) rfl
            refine RegSteps.cons ?_ ?_
            · intro _ az wz hC hF hD _ K hK; obtain ⟨_, q118, rfl⟩ := dep hD 0 rfl rfl rfl rfl; clear hF hD; refine want_none rfl ?_; go_simp; exact hK _ _ hC (Below.refl _ _) rfl
            refine RegSteps.cons ?_ ?_
            · intro _ az wz hC hF hD _ K hK; obtain ⟨_, q119, rfl⟩ := dep hD 1 rfl rfl rfl rfl; obtain ⟨l0, l1, l2, l3⟩ := (hY1.on hC).at1; clear hF hD; refine want_none rfl ?_; go_simp; exact hK _ _ hC (Below.refl _ _) rfl
            refine RegSteps.cons ?_ ?_
            · intro _ az wz hC hF hD _ K hK; have q4 : az.tmps[4]? = some (.slice (some ⟨gX, 0, none⟩) 3 cap) := hF 4 rfl; clear hF hD; refine want_none rfl ?_; go_simp; exact hK _ _ hC (Below.refl _ _) rfl
            refine RegSteps.cons ?_ ?_
            · intro _ az wz hC hF hD _ K hK; obtain ⟨_, q121, rfl⟩ := dep hD 3 rfl rfl rfl rfl; clear hF hD; refine want_none rfl ?_; go_simp; exact hK _ _ hC (Below.refl _ _) rfl
            refine RegSteps.cons ?_ ?_
            · intro _ az wz hC hF hD _ K hK; obtain ⟨_, q122, rfl⟩ := dep hD 4 rfl rfl rfl rfl; obtain ⟨l0, l1, l2, l3⟩ := (hY2.on hC).at2; clear hF hD; refine want_none rfl ?_; go_simp; exact hK _ _ hC (Below.refl _ _) rfl
            refine RegSteps.cons ?_ ?_
            · intro _ az wz hC hF hD _ K hK; obtain ⟨_, q120, rfl⟩ := dep hD 2 rfl rfl rfl rfl; obtain ⟨_, q123, rfl⟩ := dep hD 5 rfl rfl rfl rfl; clear hF hD; refine want_none rfl ?_; go_simp; refine (HBC.out _ (hY1.on hC).fr (hY2.on hC).fr).mono ?_; rintro e wy ⟨rfl, k⟩; exact hK _ _ (Below.call hC k) k rfl
            refine RegSteps.cons ?_ ?_
            · intro _ az wz hC hF hD _ K hK; obtain ⟨_, q124, rfl⟩ := dep hD 6 rfl rfl rfl rfl; clear hF hD; refine want_none rfl ?_; go_simp; exact hK _ _ hC (Below.refl _ _) rfl
            exact RegSteps.nil
          intro u2 hC
          rintro _ rfl _ rfl _ rfl _ rfl _ rfl _ rfl _ rfl _ rfl
          simp only [FinOK, Act.put, List.setIfInBounds_toArray, List.set_cons_zero, List.set_cons_succ]
          replace hY0 := hY0.on hC
          replace hY1 := hY1.on hC
          replace hY2 := hY2.on hC
          replace hTab := hTab.on hC
          replace b1 := Below.call b1 hC
          clear hC
          go_upto_region 20 with fail
          obtain ⟨W2, e_⟩ : ∃ W2, W2 = u2 := ⟨_, rfl⟩
          subst e_
          go_cut [140] (fun s wx => s = .bool false ∧ Below W2.heap.size W2 wx)
          case first =>
            by_cases h1 : ab ≤ 0
            · have HD1 := Lib.hid (decide_eq_true h1)
              by_cases h2 : bc ≤ 0
              · have HD2 := Lib.hid (decide_eq_true h2)
                have HD3 := Lib.hid (decide_eq_false (show ¬ ac > 0 from by have := HT.out h1 h2; omega))
                refine wp_region_specs W2 [Spec.eq (.int .i64 ab), Spec.eq (.bool true), Spec.eq (.bool true), Spec.eq (.int .i64 bc), Spec.eq (.bool true), Spec.eq (.bool true), Spec.eq (.bool true), Spec.eq (.slice (some ⟨gX, 0, none⟩) 3 cap), Spec.eq (.pointer (some ⟨gX, 0, none⟩)), Spec.eq (.agg #[.bool y0.p.neg, .slice y0.p.A y0.p.n y0.p.c, .bool y0.l.neg, .slice y0.l.A y0.l.n y0.l.c]), Spec.eq (.slice (some ⟨gX, 0, none⟩) 3 cap), Spec.eq (.pointer (some ⟨gX, 8, none⟩)), Spec.eq (.agg #[.bool y2.p.neg, .slice y2.p.A y2.p.n y2.p.c, .bool y2.l.neg, .slice y2.l.A y2.l.n y2.l.c]), Spec.eq (.int .i64 ac), Spec.eq (.bool false), Spec.eq (.bool false)]
                    (by kernel_rfl) (by kernel_rfl) rfl (by kernel_rfl) (Below.drew (Below.refl _ _)) ?_ ?_
                ·
                  refine RegSteps.cons ?_ ?_
                  · intro _ az wz hC hF hD _ K hK; have q9 : az.tmps[9]? = some (.int .i64 ab) := hF 9 rfl; clear hF hD; refine want_none rfl ?_; go_simp; exact hK _ _ hC (Below.refl _ _) rfl
                  refine RegSteps.cons ?_ ?_
                  · intro _ az wz hC hF hD _ K hK; obtain ⟨_, q125, rfl⟩ := dep hD 0 rfl rfl rfl rfl; have hab_ := HD1.out; clear hF hD; refine want_none rfl ?_; go_simp; exact hK _ _ hC (Below.refl _ _) rfl
                  refine RegSteps.cons ?_ ?_
                  · intro _ az wz hC hF hD _ K hK; obtain ⟨_, q126, rfl⟩ := dep hD 1 rfl rfl rfl rfl; clear hF hD; refine want_none rfl ?_; go_simp; exact hK _ _ hC (Below.refl _ _) rfl
                  refine RegSteps.cons ?_ ?_
                  · intro _ az wz hC hF hD _ K hK; have q10 : az.tmps[10]? = some (.int .i64 bc) := hF 10 rfl; obtain ⟨_, qg, rfl⟩ := dep hD 2 rfl rfl rfl rfl; clear hF hD; refine want_yes rfl rfl rfl qg ?_; go_simp; exact hK _ _ hC (Below.refl _ _) rfl
                  refine RegSteps.cons ?_ ?_
                  · intro _ az wz hC hF hD _ K hK; obtain ⟨_, q128, rfl⟩ := dep hD 3 rfl rfl rfl rfl; obtain ⟨_, qg, rfl⟩ := dep hD 2 rfl rfl rfl rfl; have hbc_ := HD2.out; clear hF hD; refine want_yes rfl rfl rfl qg ?_; go_simp; exact hK _ _ hC (Below.refl _ _) rfl
                  refine RegSteps.cons ?_ ?_
                  · intro _ az wz hC hF hD _ K hK; obtain ⟨_, q127, rfl⟩ := dep hD 2 rfl rfl rfl rfl; obtain ⟨_, q129, rfl⟩ := dep hD 4 rfl rfl rfl rfl; clear hF hD; refine want_none rfl ?_; go_simp; exact hK _ _ hC (Below.refl _ _) rfl
                  refine RegSteps.cons ?_ ?_
                  · intro _ az wz hC hF hD _ K hK; obtain ⟨_, q130, rfl⟩ := dep hD 5 rfl rfl rfl rfl; clear hF hD; refine want_none rfl ?_; go_simp; exact hK _ _ hC (Below.refl _ _) rfl
                  refine RegSteps.cons ?_ ?_
                  · intro _ az wz hC hF hD _ K hK; have q4 : az.tmps[4]? = some (.slice (some ⟨gX, 0, none⟩) 3 cap) := hF 4 rfl; obtain ⟨_, qg, rfl⟩ := dep hD 6 rfl rfl rfl rfl; clear hF hD; refine want_yes rfl rfl rfl qg ?_; go_simp; exact hK _ _ hC (Below.refl _ _) rfl
                  refine RegSteps.cons ?_ ?_
                  · intro _ az wz hC hF hD _ K hK; obtain ⟨_, q132, rfl⟩ := dep hD 7 rfl rfl rfl rfl; obtain ⟨_, qg, rfl⟩ := dep hD 6 rfl rfl rfl rfl; clear hF hD; refine want_yes rfl rfl rfl qg ?_; go_simp; exact hK _ _ hC (Below.refl _ _) rfl
                  refine RegSteps.cons ?_ ?_
                  · intro _ az wz hC hF hD _ K hK; obtain ⟨_, q133, rfl⟩ := dep hD 8 rfl rfl rfl rfl; obtain ⟨_, qg, rfl⟩ := dep hD 6 rfl rfl rfl rfl; obtain ⟨l0, l1, l2, l3⟩ := (hY0.on hC).at0; clear hF hD; refine want_yes rfl rfl rfl qg ?_; go_simp; exact hK _ _ hC (Below.refl _ _) rfl
                  refine RegSteps.cons ?_ ?_
                  · intro _ az wz hC hF hD _ K hK; have q4 : az.tmps[4]? = some (.slice (some ⟨gX, 0, none⟩) 3 cap) := hF 4 rfl; obtain ⟨_, qg, rfl⟩ := dep hD 6 rfl rfl rfl rfl; clear hF hD; refine want_yes rfl rfl rfl qg ?_; go_simp; exact hK _ _ hC (Below.refl _ _) rfl
                  refine RegSteps.cons ?_ ?_
                  · intro _ az wz hC hF hD _ K hK; obtain ⟨_, q135, rfl⟩ := dep hD 10 rfl rfl rfl rfl; obtain ⟨_, qg, rfl⟩ := dep hD 6 rfl rfl rfl rfl; clear hF hD; refine want_yes rfl rfl rfl qg ?_; go_simp; exact hK _ _ hC (Below.refl _ _) rfl
                  refine RegSteps.cons ?_ ?_
                  · intro _ az wz hC hF hD _ K hK; obtain ⟨_, q136, rfl⟩ := dep hD 11 rfl rfl rfl rfl; obtain ⟨_, qg, rfl⟩ := dep hD 6 rfl rfl rfl rfl; obtain ⟨l0, l1, l2, l3⟩ := (hY2.on hC).at2; clear hF hD; refine want_yes rfl rfl rfl qg ?_; go_simp; exact hK _ _ hC (Below.refl _ _) rfl
                  refine RegSteps.cons ?_ ?_
                  · intro _ az wz hC hF hD _ K hK; obtain ⟨_, q134, rfl⟩ := dep hD 9 rfl rfl rfl rfl; obtain ⟨_, q137, rfl⟩ := dep hD 12 rfl rfl rfl rfl; obtain ⟨_, qg, rfl⟩ := dep hD 6 rfl rfl rfl rfl; clear hF hD; refine want_yes rfl rfl rfl qg ?_; go_simp; refine (HAC.out _ (hY0.on hC).fr (hY2.on hC).fr).mono ?_; rintro e wy ⟨rfl, k⟩; exact hK _ _ (Below.call hC k) k rfl
                  refine RegSteps.cons ?_ ?_
                  · intro _ az wz hC hF hD _ K hK; obtain ⟨_, q138, rfl⟩ := dep hD 13 rfl rfl rfl rfl; obtain ⟨_, qg, rfl⟩ := dep hD 6 rfl rfl rfl rfl; have hac_ := HD3.out; clear hF hD; refine want_yes rfl rfl rfl qg ?_; go_simp; exact hK _ _ hC (Below.refl _ _) rfl
                  refine RegSteps.cons ?_ ?_
                  · intro _ az wz hC hF hD _ K hK; obtain ⟨_, q131, rfl⟩ := dep hD 6 rfl rfl rfl rfl; obtain ⟨_, q139, rfl⟩ := dep hD 14 rfl rfl rfl rfl; clear hF hD; refine want_none rfl ?_; go_simp; exact hK _ _ hC (Below.refl _ _) rfl
                  exact RegSteps.nil
                intro w8 hC
                rintro _ rfl _ rfl _ rfl _ rfl _ rfl _ rfl _ rfl _ rfl _ rfl _ rfl _ rfl _ rfl _ rfl _ rfl _ rfl _ rfl
                simp only [FinOK, Act.put, List.setIfInBounds_toArray, List.set_cons_zero, List.set_cons_succ]
                have HB8 := Lib.hid hC
                clear hC
                go_wp2_with fail
                go_meet
                exact ⟨rfl, HB8.out⟩
              · have HD2 := Lib.hid (decide_eq_false h2)
                refine wp_region_specs W2 [Spec.eq (.int .i64 ab), Spec.eq (.bool true), Spec.eq (.bool true), Spec.eq (.int .i64 bc), Spec.eq (.bool false), Spec.eq (.bool false), Spec.eq (.bool false), Spec.eq undef, Spec.eq undef, Spec.eq undef, Spec.eq undef, Spec.eq undef, Spec.eq undef, Spec.eq undef, Spec.eq undef, Spec.eq (.bool false)]
                    (by kernel_rfl) (by kernel_rfl) rfl (by kernel_rfl) (Below.drew (Below.refl _ _)) ?_ ?_
                ·
                  refine RegSteps.cons ?_ ?_
                  · intro _ az wz hC hF hD _ K hK; have q9 : az.tmps[9]? = some (.int .i64 ab) := hF 9 rfl; clear hF hD; refine want_none rfl ?_; go_simp; exact hK _ _ hC (Below.refl _ _) rfl
                  refine RegSteps.cons ?_ ?_
                  · intro _ az wz hC hF hD _ K hK; obtain ⟨_, q125, rfl⟩ := dep hD 0 rfl rfl rfl rfl; have hab_ := HD1.out; clear hF hD; refine want_none rfl ?_; go_simp; exact hK _ _ hC (Below.refl _ _) rfl
                  refine RegSteps.cons ?_ ?_
                  · intro _ az wz hC hF hD _ K hK; obtain ⟨_, q126, rfl⟩ := dep hD 1 rfl rfl rfl rfl; clear hF hD; refine want_none rfl ?_; go_simp; exact hK _ _ hC (Below.refl _ _) rfl
                  refine RegSteps.cons ?_ ?_
                  · intro _ az wz hC hF hD _ K hK; have q10 : az.tmps[10]? = some (.int .i64 bc) := hF 10 rfl; obtain ⟨_, qg, rfl⟩ := dep hD 2 rfl rfl rfl rfl; clear hF hD; refine want_yes rfl rfl rfl qg ?_; go_simp; exact hK _ _ hC (Below.refl _ _) rfl
                  refine RegSteps.cons ?_ ?_
                  · intro _ az wz hC hF hD _ K hK; obtain ⟨_, q128, rfl⟩ := dep hD 3 rfl rfl rfl rfl; obtain ⟨_, qg, rfl⟩ := dep hD 2 rfl rfl rfl rfl; have hbc_ := HD2.out; clear hF hD; refine want_yes rfl rfl rfl qg ?_; go_simp; exact hK _ _ hC (Below.refl _ _) rfl
                  refine RegSteps.cons ?_ ?_
                  · intro _ az wz hC hF hD _ K hK; obtain ⟨_, q127, rfl⟩ := dep hD 2 rfl rfl rfl rfl; obtain ⟨_, q129, rfl⟩ := dep hD 4 rfl rfl rfl rfl; clear hF hD; refine want_none rfl ?_; go_simp; exact hK _ _ hC (Below.refl _ _) rfl
                  refine RegSteps.cons ?_ ?_
                  · intro _ az wz hC hF hD _ K hK; obtain ⟨_, q130, rfl⟩ := dep hD 5 rfl rfl rfl rfl; clear hF hD; refine want_none rfl ?_; go_simp; exact hK _ _ hC (Below.refl _ _) rfl
                  refine RegSteps.cons ?_ ?_
                  · exact fun _ => step_no (c := false) rfl rfl rfl rfl rfl (fun _ _ h => h) rfl (fun _ => rfl)
                  refine RegSteps.cons ?_ ?_
                  · exact fun _ => step_no (c := false) rfl rfl rfl rfl rfl (fun _ _ h => h) rfl (fun _ => rfl)
                  refine RegSteps.cons ?_ ?_
                  · exact fun _ => step_no (c := false) rfl rfl rfl rfl rfl (fun _ _ h => h) rfl (fun _ => rfl)
                  refine RegSteps.cons ?_ ?_
                  · exact fun _ => step_no (c := false) rfl rfl rfl rfl rfl (fun _ _ h => h) rfl (fun _ => rfl)
                  refine RegSteps.cons ?_ ?_
                  · exact fun _ => step_no (c := false) rfl rfl rfl rfl rfl (fun _ _ h => h) rfl (fun _ => rfl)
                  refine RegSteps.cons ?_ ?_
                  · exact fun _ => step_no (c := false) rfl rfl rfl rfl rfl (fun _ _ h => h) rfl (fun _ => rfl)
                  refine RegSteps.cons ?_ ?_
                  · exact fun _ => step_no (c := false) rfl rfl rfl rfl rfl (fun _ _ h => h) rfl (fun _ => rfl)
                  refine RegSteps.cons ?_ ?_
                  · exact fun _ => step_no (c := false) rfl rfl rfl rfl rfl (fun _ _ h => h) rfl (fun _ => rfl)
                  refine RegSteps.cons ?_ ?_
                  · intro _ az wz hC hF hD _ K hK; obtain ⟨_, q131, rfl⟩ := dep hD 6 rfl rfl rfl rfl; obtain ⟨_, q139, rfl⟩ := dep hD 14 rfl rfl rfl rfl; clear hF hD; refine want_none rfl ?_; go_simp; exact hK _ _ hC (Below.refl _ _) rfl
                  exact RegSteps.nil
                intro w8 hC
                rintro _ rfl _ rfl _ rfl _ rfl _ rfl _ rfl _ rfl _ rfl _ rfl _ rfl _ rfl _ rfl _ rfl _ rfl _ rfl _ rfl
                simp only [FinOK, Act.put, List.setIfInBounds_toArray, List.set_cons_zero, List.set_cons_succ]
                have HB8 := Lib.hid hC
                clear hC
                go_wp2_with fail
                go_meet
                exact ⟨rfl, HB8.out⟩
            · have HD1 := Lib.hid (decide_eq_false h1)
              refine wp_region_specs W2 [Spec.eq (.int .i64 ab), Spec.eq (.bool false), Spec.eq (.bool false), Spec.eq undef, Spec.eq undef, Spec.eq (.bool false), Spec.eq (.bool false), Spec.eq undef, Spec.eq undef, Spec.eq undef, Spec.eq undef, Spec.eq undef, Spec.eq undef, Spec.eq undef, Spec.eq undef, Spec.eq (.bool false)]
                  (by kernel_rfl) (by kernel_rfl) rfl (by kernel_rfl) (Below.drew (Below.refl _ _)) ?_ ?_
              ·
                refine RegSteps.cons ?_ ?_
                · intro _ az wz hC hF hD _ K hK; have q9 : az.tmps[9]? = some (.int .i64 ab) := hF 9 rfl; clear hF hD; refine want_none rfl ?_; go_simp; exact hK _ _ hC (Below.refl _ _) rfl
                refine RegSteps.cons ?_ ?_
                · intro _ az wz hC hF hD _ K hK; obtain ⟨_, q125, rfl⟩ := dep hD 0 rfl rfl rfl rfl; have hab_ := HD1.out; clear hF hD; refine want_none rfl ?_; go_simp; exact hK _ _ hC (Below.refl _ _) rfl
                refine RegSteps.cons ?_ ?_
                · intro _ az wz hC hF hD _ K hK; obtain ⟨_, q126, rfl⟩ := dep hD 1 rfl rfl rfl rfl; clear hF hD; refine want_none rfl ?_; go_simp; exact hK _ _ hC (Below.refl _ _) rfl
                refine RegSteps.cons ?_ ?_
                · exact fun _ => step_no (c := false) rfl rfl rfl rfl rfl (fun _ _ h => h) rfl (fun _ => rfl)
                refine RegSteps.cons ?_ ?_
                · exact fun _ => step_no (c := false) rfl rfl rfl rfl rfl (fun _ _ h => h) rfl (fun _ => rfl)
                refine RegSteps.cons ?_ ?_
                · intro _ az wz hC hF hD _ K hK; obtain ⟨_, q127, rfl⟩ := dep hD 2 rfl rfl rfl rfl; obtain ⟨_, q129, rfl⟩ := dep hD 4 rfl rfl rfl rfl; clear hF hD; refine want_none rfl ?_; go_simp; exact hK _ _ hC (Below.refl _ _) rfl
                refine RegSteps.cons ?_ ?_
                · intro _ az wz hC hF hD _ K hK; obtain ⟨_, q130, rfl⟩ := dep hD 5 rfl rfl rfl rfl; clear hF hD; refine want_none rfl ?_; go_simp; exact hK _ _ hC (Below.refl _ _) rfl
                refine RegSteps.cons ?_ ?_
                · exact fun _ => step_no (c := false) rfl rfl rfl rfl rfl (fun _ _ h => h) rfl (fun _ => rfl)
                refine RegSteps.cons ?_ ?_
                · exact fun _ => step_no (c := false) rfl rfl rfl rfl rfl (fun _ _ h => h) rfl (fun _ => rfl)
                refine RegSteps.cons ?_ ?_
                · exact fun _ => step_no (c := false) rfl rfl rfl rfl rfl (fun _ _ h => h) rfl (fun _ => rfl)
                refine RegSteps.cons ?_ ?_
                · exact fun _ => step_no (c := false) rfl rfl rfl rfl rfl (fun _ _ h => h) rfl (fun _ => rfl)
                refine RegSteps.cons ?_ ?_
                · exact fun _ => step_no (c := false) rfl rfl rfl rfl rfl (fun _ _ h => h) rfl (fun _ => rfl)
                refine RegSteps.cons ?_ ?_
                · exact fun _ => step_no (c := false) rfl rfl rfl rfl rfl (fun _ _ h => h) rfl (fun _ => rfl)
                refine RegSteps.cons ?_ ?_
                · exact fun _ => step_no (c := false) rfl rfl rfl rfl rfl (fun _ _ h => h) rfl (fun _ => rfl)
                refine RegSteps.cons ?_ ?_
                · exact fun _ => step_no (c := false) rfl rfl rfl rfl rfl (fun _ _ h => h) rfl (fun _ => rfl)
                refine RegSteps.cons ?_ ?_
                · intro _ az wz hC hF hD _ K hK; obtain ⟨_, q131, rfl⟩ := dep hD 6 rfl rfl rfl rfl; obtain ⟨_, q139, rfl⟩ := dep hD 14 rfl rfl rfl rfl; clear hF hD; refine want_none rfl ?_; go_simp; exact hK _ _ hC (Below.refl _ _) rfl
                exact RegSteps.nil
              intro w8 hC
              rintro _ rfl _ rfl _ rfl _ rfl _ rfl _ rfl _ rfl _ rfl _ rfl _ rfl _ rfl _ rfl _ rfl _ rfl _ rfl _ rfl
              simp only [FinOK, Act.put, List.setIfInBounds_toArray, List.set_cons_zero, List.set_cons_succ]
              have HB8 := Lib.hid hC
              clear hC
              go_wp2_with fail
              go_meet
              exact ⟨rfl, HB8.out⟩
          case rest =>
            obtain ⟨rfl, hcut⟩ := hcut
            replace hY0 := hY0.on hcut
            replace hY1 := hY1.on hcut
            replace hY2 := hY2.on hcut
            replace hTab := hTab.on hcut
            replace b1 := Below.call b1 hcut
            clear hcut
            go_upto_region 22 with fail
            refine wp_region_boxes wc [Spec.eq (.slice (some ⟨gX, 0, none⟩) 3 cap), Spec.eq (.pointer (some ⟨gX, 0, none⟩)), Spec.eq (.agg #[.bool y0.p.neg, .slice y0.p.A y0.p.n y0.p.c, .bool y0.l.neg, .slice y0.l.A y0.l.n y0.l.c]), Spec.eq (.slice (some ⟨gX, 0, none⟩) 3 cap), Spec.eq (.pointer (some ⟨gX, 8, none⟩)), Spec.eq (.agg #[.bool y2.p.neg, .slice y2.p.A y2.p.n y2.p.c, .bool y2.l.neg, .slice y2.l.A y2.l.n y2.l.c]), sFRE (rs 0 + rs 2) 0, sFRE (rs 0 + rs 2) 0, sFR (rs 0 + rs 2), Spec.eq (.int .i64 0), Spec.any, Spec.any, Spec.eq (.int .i64 0)]
                [{ A := 10, j := 11, t := 11, T := 31, zs := [.bool false, .slice none 0 0, .bool false, .slice none 0 0], X := fun us w => ∃ x : FV, us = [.bool x.p.neg, .slice x.p.A x.p.n x.p.c, .bool x.l.neg, .slice x.l.A x.l.n x.l.c] ∧ FR x w (rs 0 + rs 2), up := fun ⟨x, e, hx⟩ k => ⟨x, e, hx.keeps k⟩ }]
                (by kernel_rfl) (by kernel_rfl) rfl (by kernel_rfl) rfl (Below.drew (Below.refl _ _)) ?_ ?_ ⟨rfl, rfl, trivial⟩ ?_
            ·
              refine RegSteps.cons ?_ ?_
              · intro _ az wz hC hF hD _ K hK; have q4 : az.tmps[4]? = some (.slice (some ⟨gX, 0, none⟩) 3 cap) := hF 4 rfl; clear hF hD; refine want_none rfl ?_; go_simp; exact hK _ _ hC (Below.refl _ _) rfl
              refine RegSteps.cons ?_ ?_
              · intro _ az wz hC hF hD _ K hK; obtain ⟨_, q142, rfl⟩ := dep hD 0 rfl rfl rfl rfl; clear hF hD; refine want_none rfl ?_; go_simp; exact hK _ _ hC (Below.refl _ _) rfl
              refine RegSteps.cons ?_ ?_
              · intro _ az wz hC hF hD _ K hK; obtain ⟨_, q143, rfl⟩ := dep hD 1 rfl rfl rfl rfl; obtain ⟨l0, l1, l2, l3⟩ := (hY0.on hC).at0; clear hF hD; refine want_none rfl ?_; go_simp; exact hK _ _ hC (Below.refl _ _) rfl
              refine RegSteps.cons ?_ ?_
              · intro _ az wz hC hF hD _ K hK; have q4 : az.tmps[4]? = some (.slice (some ⟨gX, 0, none⟩) 3 cap) := hF 4 rfl; clear hF hD; refine want_none rfl ?_; go_simp; exact hK _ _ hC (Below.refl _ _) rfl
              refine RegSteps.cons ?_ ?_
              · intro _ az wz hC hF hD _ K hK; obtain ⟨_, q145, rfl⟩ := dep hD 3 rfl rfl rfl rfl; clear hF hD; refine want_none rfl ?_; go_simp; exact hK _ _ hC (Below.refl _ _) rfl
              refine RegSteps.cons ?_ ?_
              · intro _ az wz hC hF hD _ K hK; obtain ⟨_, q146, rfl⟩ := dep hD 4 rfl rfl rfl rfl; obtain ⟨l0, l1, l2, l3⟩ := (hY2.on hC).at2; clear hF hD; refine want_none rfl ?_; go_simp; exact hK _ _ hC (Below.refl _ _) rfl
              refine RegSteps.cons ?_ ?_
              · intro _ az wz hC hF hD _ K hK; obtain ⟨_, q144, rfl⟩ := dep hD 2 rfl rfl rfl rfl; obtain ⟨_, q147, rfl⟩ := dep hD 5 rfl rfl rfl rfl; clear hF hD; refine want_none rfl ?_; go_simp; refine (HP.out _ (hY0.on hC).fr (hY2.on hC).fr).mono ?_; rintro e wy ⟨x, rfl, k, hx⟩; exact hK _ _ (Below.call hC k) k ⟨x, rfl, hx⟩
              refine RegSteps.cons ?_ ?_
              · intro _ az wz hC hF hD _ K hK; obtain ⟨_, q148, x148, rfl, hx148⟩ := dep hD 6 rfl rfl rfl rfl; clear hF hD; refine want_none rfl ?_; go_simp; exact hK _ _ hC (Below.refl _ _) ⟨x148, rfl, hx148⟩
              refine RegSteps.cons ?_ ?_
              · intro _ az wz hC hF hD _ K hK; obtain ⟨_, q141, x141, rfl, hx141⟩ := dep hD 7 rfl rfl rfl rfl; clear hF hD; refine want_none rfl ?_; go_simp; exact hK _ _ hC (Below.refl _ _) ⟨x141, rfl, hx141⟩
              refine RegSteps.cons ?_ ?_
              · intro _ az wz hC hF hD _ K hK; obtain ⟨_, q141, x141, rfl, hx141⟩ := dep hD 7 rfl rfl rfl rfl; clear hF hD; refine want_none rfl ?_; go_simp; exact hK _ _ hC (Below.refl _ _) rfl
              refine RegSteps.cons ?_ ?_
              · exact fun h => by cases h
              refine RegSteps.cons ?_ ?_
              · exact fun h => by cases h
              refine RegSteps.cons ?_ ?_
              · intro _ az wz hC hF hD _ K hK; obtain ⟨_, q150, rfl⟩ := dep hD 9 rfl rfl rfl rfl; clear hF hD; refine want_none rfl ?_; go_simp; exact hK _ _ hC (Below.refl _ _) rfl
              exact RegSteps.nil
            · refine ⟨?_, trivial⟩
              · refine ⟨⟨_, rfl, rfl, rfl, fun az wz K hK => by go_simp; exact hK⟩, ⟨_, rfl, rfl, rfl, ?_⟩, by simp [Word], by simp⟩
                intro az wz gz cs hC hF hD hA K hK
                obtain ⟨p1, p2, p3, p4, p5⟩ := hA
                obtain ⟨_, q149, x, rfl, hx⟩ := dep hD 8 rfl rfl rfl rfl
                obtain ⟨c0, c1, c2, c3, rfl⟩ := list_4 (l := cs) p4
                have z0 := p3.c0
                have z1 := p3.c1
                have z2 := p3.c2
                have z3 := p3.c3
                have f0 := p3.frozen 0
                have f1 := p3.frozen 1
                have f2 := p3.frozen 2
                have f3 := p3.frozen 3
                clear hF hD p3 p5
                refine want_none rfl ?_
                go_simp
                exact hK [.bool x.p.neg, .slice x.p.A x.p.n x.p.c, .bool x.l.neg, .slice x.l.A x.l.n x.l.c] rfl (by simp [Word]) ⟨x, rfl, hx⟩
            intro u3 gs hC hgl hbf
            obtain ⟨bP, rfl⟩ := list_1 hgl
            obtain ⟨⟨hg0, us0, hOb0, ⟨p, rfl, hp⟩⟩, _⟩ := hbf
            rintro _ rfl _ rfl _ rfl _ rfl _ rfl _ rfl _ ⟨y148, rfl, _⟩ _ ⟨y141, rfl, _⟩ _ ⟨y149, rfl, _⟩ _ rfl _ rfl _ _ _ rfl
            simp only [FinOK, Act.put, List.setIfInBounds_toArray, List.set_cons_zero, List.set_cons_succ]
            replace hY0 := hY0.on hC
            replace hY1 := hY1.on hC
            replace hY2 := hY2.on hC
            replace hTab := hTab.on hC
            replace b1 := Below.call b1 hC
            have hP := hOb0
            clear hOb0
            clear hC
            go_upto_region 23 with fail
            refine wp_region_boxes u3 [Spec.eq (.slice (some ⟨gX, 0, none⟩) 3 cap), Spec.eq (.pointer (some ⟨gX, 4, none⟩)), Spec.eq (.agg #[.bool y1.p.neg, .slice y1.p.A y1.p.n y1.p.c, .bool y1.l.neg, .slice y1.l.A y1.l.n y1.l.c]), Spec.eq (.slice (some ⟨gX, 0, none⟩) 3 cap), Spec.eq (.pointer (some ⟨gX, 8, none⟩)), Spec.eq (.agg #[.bool y2.p.neg, .slice y2.p.A y2.p.n y2.p.c, .bool y2.l.neg, .slice y2.l.A y2.l.n y2.l.c]), sFRE (rs 1 + rs 2) 0, sFRE (rs 1 + rs 2) 0, sFR (rs 1 + rs 2), Spec.eq (.int .i64 0), Spec.any, Spec.any, Spec.eq (.int .i64 0)]
                [{ A := 10, j := 11, t := 13, T := 31, zs := [.bool false, .slice none 0 0, .bool false, .slice none 0 0], X := fun us w => ∃ x : FV, us = [.bool x.p.neg, .slice x.p.A x.p.n x.p.c, .bool x.l.neg, .slice x.l.A x.l.n x.l.c] ∧ FR x w (rs 1 + rs 2), up := fun ⟨x, e, hx⟩ k => ⟨x, e, hx.keeps k⟩ }]
                (by kernel_rfl) (by kernel_rfl) rfl (by kernel_rfl) rfl (Below.drew (Below.refl _ _)) ?_ ?_ ⟨rfl, rfl, trivial⟩ ?_
            ·
              refine RegSteps.cons ?_ ?_
              · intro _ az wz hC hF hD _ K hK; have q4 : az.tmps[4]? = some (.slice (some ⟨gX, 0, none⟩) 3 cap) := hF 4 rfl; clear hF hD; refine want_none rfl ?_; go_simp; exact hK _ _ hC (Below.refl _ _) rfl
              refine RegSteps.cons ?_ ?_
              · intro _ az wz hC hF hD _ K hK; obtain ⟨_, q152, rfl⟩ := dep hD 0 rfl rfl rfl rfl; clear hF hD; refine want_none rfl ?_; go_simp; exact hK _ _ hC (Below.refl _ _) rfl
              refine RegSteps.cons ?_ ?_
              · intro _ az wz hC hF hD _ K hK; obtain ⟨_, q153, rfl⟩ := dep hD 1 rfl rfl rfl rfl; obtain ⟨l0, l1, l2, l3⟩ := (hY1.on hC).at1; clear hF hD; refine want_none rfl ?_; go_simp; exact hK _ _ hC (Below.refl _ _) rfl
              refine RegSteps.cons ?_ ?_
              · intro _ az wz hC hF hD _ K hK; have q4 : az.tmps[4]? = some (.slice (some ⟨gX, 0, none⟩) 3 cap) := hF 4 rfl; clear hF hD; refine want_none rfl ?_; go_simp; exact hK _ _ hC (Below.refl _ _) rfl
              refine RegSteps.cons ?_ ?_
              · intro _ az wz hC hF hD _ K hK; obtain ⟨_, q155, rfl⟩ := dep hD 3 rfl rfl rfl rfl; clear hF hD; refine want_none rfl ?_; go_simp; exact hK _ _ hC (Below.refl _ _) rfl
              refine RegSteps.cons ?_ ?_
              · intro _ az wz hC hF hD _ K hK; obtain ⟨_, q156, rfl⟩ := dep hD 4 rfl rfl rfl rfl; obtain ⟨l0, l1, l2, l3⟩ := (hY2.on hC).at2; clear hF hD; refine want_none rfl ?_; go_simp; exact hK _ _ hC (Below.refl _ _) rfl
              refine RegSteps.cons ?_ ?_
              · intro _ az wz hC hF hD _ K hK; obtain ⟨_, q154, rfl⟩ := dep hD 2 rfl rfl rfl rfl; obtain ⟨_, q157, rfl⟩ := dep hD 5 rfl rfl rfl rfl; clear hF hD; refine want_none rfl ?_; go_simp; refine (HQ.out _ (hY1.on hC).fr (hY2.on hC).fr).mono ?_; rintro e wy ⟨x, rfl, k, hx⟩; exact hK _ _ (Below.call hC k) k ⟨x, rfl, hx⟩
              refine RegSteps.cons ?_ ?_
              · intro _ az wz hC hF hD _ K hK; obtain ⟨_, q158, x158, rfl, hx158⟩ := dep hD 6 rfl rfl rfl rfl; clear hF hD; refine want_none rfl ?_; go_simp; exact hK _ _ hC (Below.refl _ _) ⟨x158, rfl, hx158⟩
              refine RegSteps.cons ?_ ?_
              · intro _ az wz hC hF hD _ K hK; obtain ⟨_, q151, x151, rfl, hx151⟩ := dep hD 7 rfl rfl rfl rfl; clear hF hD; refine want_none rfl ?_; go_simp; exact hK _ _ hC (Below.refl _ _) ⟨x151, rfl, hx151⟩
              refine RegSteps.cons ?_ ?_
              · intro _ az wz hC hF hD _ K hK; obtain ⟨_, q151, x151, rfl, hx151⟩ := dep hD 7 rfl rfl rfl rfl; clear hF hD; refine want_none rfl ?_; go_simp; exact hK _ _ hC (Below.refl _ _) rfl
              refine RegSteps.cons ?_ ?_
              · exact fun h => by cases h
              refine RegSteps.cons ?_ ?_
              · exact fun h => by cases h
              refine RegSteps.cons ?_ ?_
              · intro _ az wz hC hF hD _ K hK; obtain ⟨_, q160, rfl⟩ := dep hD 9 rfl rfl rfl rfl; clear hF hD; refine want_none rfl ?_; go_simp; exact hK _ _ hC (Below.refl _ _) rfl
              exact RegSteps.nil
            · refine ⟨?_, trivial⟩
              · refine ⟨⟨_, rfl, rfl, rfl, fun az wz K hK => by go_simp; exact hK⟩, ⟨_, rfl, rfl, rfl, ?_⟩, by simp [Word], by simp⟩
                intro az wz gz cs hC hF hD hA K hK
                obtain ⟨p1, p2, p3, p4, p5⟩ := hA
                obtain ⟨_, q159, x, rfl, hx⟩ := dep hD 8 rfl rfl rfl rfl
                obtain ⟨c0, c1, c2, c3, rfl⟩ := list_4 (l := cs) p4
                have z0 := p3.c0
                have z1 := p3.c1
                have z2 := p3.c2
                have z3 := p3.c3
                have f0 := p3.frozen 0
                have f1 := p3.frozen 1
                have f2 := p3.frozen 2
                have f3 := p3.frozen 3
                clear hF hD p3 p5
                refine want_none rfl ?_
                go_simp
                exact hK [.bool x.p.neg, .slice x.p.A x.p.n x.p.c, .bool x.l.neg, .slice x.l.A x.l.n x.l.c] rfl (by simp [Word]) ⟨x, rfl, hx⟩
            intro u4 gs hC hgl hbf
            obtain ⟨bQ, rfl⟩ := list_1 hgl
            obtain ⟨⟨hg0, us0, hOb0, ⟨q, rfl, hq⟩⟩, _⟩ := hbf
            rintro _ rfl _ rfl _ rfl _ rfl _ rfl _ rfl _ ⟨y158, rfl, _⟩ _ ⟨y151, rfl, _⟩ _ ⟨y159, rfl, _⟩ _ rfl _ rfl _ _ _ rfl
            simp only [FinOK, Act.put, List.setIfInBounds_toArray, List.set_cons_zero, List.set_cons_succ]
            replace hY0 := hY0.on hC
            replace hY1 := hY1.on hC
            replace hY2 := hY2.on hC
            replace hTab := hTab.on hC
            replace hp := hp.on hC
            replace hP := hP.on hC
            replace b1 := Below.call b1 hC
            have hQ := hOb0
            clear hOb0
            clear hC
            obtain ⟨c0_0, c0_1, c0_2, c0_3, _⟩ := hP.all4
            obtain ⟨c1_0, c1_1, c1_2, c1_3, _⟩ := hQ.all4
            go_wp2_with fail
            refine (HPQ.out _ _ _ hp hq).mono ?_
            rintro e u5 ⟨rfl, k1_⟩
            clear c0_0 c0_1 c0_2 c0_3 c1_0 c1_1 c1_2 c1_3
            replace hY0 := hY0.on k1_
            replace hY1 := hY1.on k1_
            replace hY2 := hY2.on k1_
            replace hTab := hTab.on k1_
            replace hp := hp.on k1_
            replace hP := hP.on k1_
            replace hq := hq.on k1_
            replace hQ := hQ.on k1_
            replace b1 := Below.call b1 k1_
            clear k1_
            clear hp hP hq hQ
            go_upto_region 26 with fail
            refine wp_region_boxes u5 [Spec.eq (.slice (some ⟨gX, 0, none⟩) 3 cap), Spec.eq (.pointer (some ⟨gX, 0, none⟩)), Spec.eq (.agg #[.bool y0.p.neg, .slice y0.p.A y0.p.n y0.p.c, .bool y0.l.neg, .slice y0.l.A y0.l.n y0.l.c]), Spec.eq (.slice (some ⟨gX, 0, none⟩) 3 cap), Spec.eq (.pointer (some ⟨gX, 8, none⟩)), Spec.eq (.agg #[.bool y2.p.neg, .slice y2.p.A y2.p.n y2.p.c, .bool y2.l.neg, .slice y2.l.A y2.l.n y2.l.c]), sFRE (rs 0 * rs 2) 0, sFRE (rs 0 * rs 2) 0, sFR (rs 0 * rs 2), Spec.eq (.int .i64 0), Spec.any, Spec.any, Spec.eq (.int .i64 0)]
                [{ A := 10, j := 11, t := 15, T := 31, zs := [.bool false, .slice none 0 0, .bool false, .slice none 0 0], X := fun us w => ∃ x : FV, us = [.bool x.p.neg, .slice x.p.A x.p.n x.p.c, .bool x.l.neg, .slice x.l.A x.l.n x.l.c] ∧ FR x w (rs 0 * rs 2), up := fun ⟨x, e, hx⟩ k => ⟨x, e, hx.keeps k⟩ }]
                (by kernel_rfl) (by kernel_rfl) rfl (by kernel_rfl) rfl (Below.drew (Below.refl _ _)) ?_ ?_ ⟨rfl, rfl, trivial⟩ ?_
            ·
              refine RegSteps.cons ?_ ?_
              · intro _ az wz hC hF hD _ K hK; have q4 : az.tmps[4]? = some (.slice (some ⟨gX, 0, none⟩) 3 cap) := hF 4 rfl; clear hF hD; refine want_none rfl ?_; go_simp; exact hK _ _ hC (Below.refl _ _) rfl
              refine RegSteps.cons ?_ ?_
              · intro _ az wz hC hF hD _ K hK; obtain ⟨_, q175, rfl⟩ := dep hD 0 rfl rfl rfl rfl; clear hF hD; refine want_none rfl ?_; go_simp; exact hK _ _ hC (Below.refl _ _) rfl
              refine RegSteps.cons ?_ ?_
              · intro _ az wz hC hF hD _ K hK; obtain ⟨_, q176, rfl⟩ := dep hD 1 rfl rfl rfl rfl; obtain ⟨l0, l1, l2, l3⟩ := (hY0.on hC).at0; clear hF hD; refine want_none rfl ?_; go_simp; exact hK _ _ hC (Below.refl _ _) rfl
              refine RegSteps.cons ?_ ?_
              · intro _ az wz hC hF hD _ K hK; have q4 : az.tmps[4]? = some (.slice (some ⟨gX, 0, none⟩) 3 cap) := hF 4 rfl; clear hF hD; refine want_none rfl ?_; go_simp; exact hK _ _ hC (Below.refl _ _) rfl
              refine RegSteps.cons ?_ ?_
              · intro _ az wz hC hF hD _ K hK; obtain ⟨_, q178, rfl⟩ := dep hD 3 rfl rfl rfl rfl; clear hF hD; refine want_none rfl ?_; go_simp; exact hK _ _ hC (Below.refl _ _) rfl
              refine RegSteps.cons ?_ ?_
              · intro _ az wz hC hF hD _ K hK; obtain ⟨_, q179, rfl⟩ := dep hD 4 rfl rfl rfl rfl; obtain ⟨l0, l1, l2, l3⟩ := (hY2.on hC).at2; clear hF hD; refine want_none rfl ?_; go_simp; exact hK _ _ hC (Below.refl _ _) rfl
              refine RegSteps.cons ?_ ?_
              · intro _ az wz hC hF hD _ K hK; obtain ⟨_, q177, rfl⟩ := dep hD 2 rfl rfl rfl rfl; obtain ⟨_, q180, rfl⟩ := dep hD 5 rfl rfl rfl rfl; clear hF hD; refine want_none rfl ?_; go_simp; refine (HR.out _ (hY0.on hC).fr (hY2.on hC).fr).mono ?_; rintro e wy ⟨x, rfl, k, hx⟩; exact hK _ _ (Below.call hC k) k ⟨x, rfl, hx⟩
              refine RegSteps.cons ?_ ?_
              · intro _ az wz hC hF hD _ K hK; obtain ⟨_, q181, x181, rfl, hx181⟩ := dep hD 6 rfl rfl rfl rfl; clear hF hD; refine want_none rfl ?_; go_simp; exact hK _ _ hC (Below.refl _ _) ⟨x181, rfl, hx181⟩
              refine RegSteps.cons ?_ ?_
              · intro _ az wz hC hF hD _ K hK; obtain ⟨_, q174, x174, rfl, hx174⟩ := dep hD 7 rfl rfl rfl rfl; clear hF hD; refine want_none rfl ?_; go_simp; exact hK _ _ hC (Below.refl _ _) ⟨x174, rfl, hx174⟩
              refine RegSteps.cons ?_ ?_
              · intro _ az wz hC hF hD _ K hK; obtain ⟨_, q174, x174, rfl, hx174⟩ := dep hD 7 rfl rfl rfl rfl; clear hF hD; refine want_none rfl ?_; go_simp; exact hK _ _ hC (Below.refl _ _) rfl
              refine RegSteps.cons ?_ ?_
              · exact fun h => by cases h
              refine RegSteps.cons ?_ ?_
              · exact fun h => by cases h
              refine RegSteps.cons ?_ ?_
              · intro _ az wz hC hF hD _ K hK; obtain ⟨_, q183, rfl⟩ := dep hD 9 rfl rfl rfl rfl; clear hF hD; refine want_none rfl ?_; go_simp; exact hK _ _ hC (Below.refl _ _) rfl
              exact RegSteps.nil
            · refine ⟨?_, trivial⟩
              · refine ⟨⟨_, rfl, rfl, rfl, fun az wz K hK => by go_simp; exact hK⟩, ⟨_, rfl, rfl, rfl, ?_⟩, by simp [Word], by simp⟩
                intro az wz gz cs hC hF hD hA K hK
                obtain ⟨p1, p2, p3, p4, p5⟩ := hA
                obtain ⟨_, q182, x, rfl, hx⟩ := dep hD 8 rfl rfl rfl rfl
                obtain ⟨c0, c1, c2, c3, rfl⟩ := list_4 (l := cs) p4
                have z0 := p3.c0
                have z1 := p3.c1
                have z2 := p3.c2
                have z3 := p3.c3
                have f0 := p3.frozen 0
                have f1 := p3.frozen 1
                have f2 := p3.frozen 2
                have f3 := p3.frozen 3
                clear hF hD p3 p5
                refine want_none rfl ?_
                go_simp
                exact hK [.bool x.p.neg, .slice x.p.A x.p.n x.p.c, .bool x.l.neg, .slice x.l.A x.l.n x.l.c] rfl (by simp [Word]) ⟨x, rfl, hx⟩
            intro u6 gs hC hgl hbf
            obtain ⟨bR, rfl⟩ := list_1 hgl
            obtain ⟨⟨hg0, us0, hOb0, ⟨r, rfl, hr⟩⟩, _⟩ := hbf
            rintro _ rfl _ rfl _ rfl _ rfl _ rfl _ rfl _ ⟨y181, rfl, _⟩ _ ⟨y174, rfl, _⟩ _ ⟨y182, rfl, _⟩ _ rfl _ rfl _ _ _ rfl
            simp only [FinOK, Act.put, List.setIfInBounds_toArray, List.set_cons_zero, List.set_cons_succ]
            replace hY0 := hY0.on hC
            replace hY1 := hY1.on hC
            replace hY2 := hY2.on hC
            replace hTab := hTab.on hC
            replace b1 := Below.call b1 hC
            have hR := hOb0
            clear hOb0
            clear hC
            go_upto_region 27 with fail
            refine wp_region_boxes u6 [Spec.eq (.slice (some ⟨gX, 0, none⟩) 3 cap), Spec.eq (.pointer (some ⟨gX, 4, none⟩)), Spec.eq (.agg #[.bool y1.p.neg, .slice y1.p.A y1.p.n y1.p.c, .bool y1.l.neg, .slice y1.l.A y1.l.n y1.l.c]), Spec.eq (.slice (some ⟨gX, 0, none⟩) 3 cap), Spec.eq (.pointer (some ⟨gX, 8, none⟩)), Spec.eq (.agg #[.bool y2.p.neg, .slice y2.p.A y2.p.n y2.p.c, .bool y2.l.neg, .slice y2.l.A y2.l.n y2.l.c]), sFRE (rs 1 * rs 2) 0, sFRE (rs 1 * rs 2) 0, sFR (rs 1 * rs 2), Spec.eq (.int .i64 0), Spec.any, Spec.any, Spec.eq (.int .i64 0)]
                [{ A := 10, j := 11, t := 17, T := 31, zs := [.bool false, .slice none 0 0, .bool false, .slice none 0 0], X := fun us w => ∃ x : FV, us = [.bool x.p.neg, .slice x.p.A x.p.n x.p.c, .bool x.l.neg, .slice x.l.A x.l.n x.l.c] ∧ FR x w (rs 1 * rs 2), up := fun ⟨x, e, hx⟩ k => ⟨x, e, hx.keeps k⟩ }]
                (by kernel_rfl) (by kernel_rfl) rfl (by kernel_rfl) rfl (Below.drew (Below.refl _ _)) ?_ ?_ ⟨rfl, rfl, trivial⟩ ?_
            ·
              refine RegSteps.cons ?_ ?_
              · intro _ az wz hC hF hD _ K hK; have q4 : az.tmps[4]? = some (.slice (some ⟨gX, 0, none⟩) 3 cap) := hF 4 rfl; clear hF hD; refine want_none rfl ?_; go_simp; exact hK _ _ hC (Below.refl _ _) rfl
              refine RegSteps.cons ?_ ?_
              · intro _ az wz hC hF hD _ K hK; obtain ⟨_, q185, rfl⟩ := dep hD 0 rfl rfl rfl rfl; clear hF hD; refine want_none rfl ?_; go_simp; exact hK _ _ hC (Below.refl _ _) rfl
              refine RegSteps.cons ?_ ?_
              · intro _ az wz hC hF hD _ K hK; obtain ⟨_, q186, rfl⟩ := dep hD 1 rfl rfl rfl rfl; obtain ⟨l0, l1, l2, l3⟩ := (hY1.on hC).at1; clear hF hD; refine want_none rfl ?_; go_simp; exact hK _ _ hC (Below.refl _ _) rfl
              refine RegSteps.cons ?_ ?_
              · intro _ az wz hC hF hD _ K hK; have q4 : az.tmps[4]? = some (.slice (some ⟨gX, 0, none⟩) 3 cap) := hF 4 rfl; clear hF hD; refine want_none rfl ?_; go_simp; exact hK _ _ hC (Below.refl _ _) rfl
              refine RegSteps.cons ?_ ?_
              · intro _ az wz hC hF hD _ K hK; obtain ⟨_, q188, rfl⟩ := dep hD 3 rfl rfl rfl rfl; clear hF hD; refine want_none rfl ?_; go_simp; exact hK _ _ hC (Below.refl _ _) rfl
              refine RegSteps.cons ?_ ?_
              · intro _ az wz hC hF hD _ K hK; obtain ⟨_, q189, rfl⟩ := dep hD 4 rfl rfl rfl rfl; obtain ⟨l0, l1, l2, l3⟩ := (hY2.on hC).at2; clear hF hD; refine want_none rfl ?_; go_simp; exact hK _ _ hC (Below.refl _ _) rfl
              refine RegSteps.cons ?_ ?_
              · intro _ az wz hC hF hD _ K hK; obtain ⟨_, q187, rfl⟩ := dep hD 2 rfl rfl rfl rfl; obtain ⟨_, q190, rfl⟩ := dep hD 5 rfl rfl rfl rfl; clear hF hD; refine want_none rfl ?_; go_simp; refine (HS.out _ (hY1.on hC).fr (hY2.on hC).fr).mono ?_; rintro e wy ⟨x, rfl, k, hx⟩; exact hK _ _ (Below.call hC k) k ⟨x, rfl, hx⟩
              refine RegSteps.cons ?_ ?_
              · intro _ az wz hC hF hD _ K hK; obtain ⟨_, q191, x191, rfl, hx191⟩ := dep hD 6 rfl rfl rfl rfl; clear hF hD; refine want_none rfl ?_; go_simp; exact hK _ _ hC (Below.refl _ _) ⟨x191, rfl, hx191⟩
              refine RegSteps.cons ?_ ?_
              · intro _ az wz hC hF hD _ K hK; obtain ⟨_, q184, x184, rfl, hx184⟩ := dep hD 7 rfl rfl rfl rfl; clear hF hD; refine want_none rfl ?_; go_simp; exact hK _ _ hC (Below.refl _ _) ⟨x184, rfl, hx184⟩
              refine RegSteps.cons ?_ ?_
              · intro _ az wz hC hF hD _ K hK; obtain ⟨_, q184, x184, rfl, hx184⟩ := dep hD 7 rfl rfl rfl rfl; clear hF hD; refine want_none rfl ?_; go_simp; exact hK _ _ hC (Below.refl _ _) rfl
              refine RegSteps.cons ?_ ?_
              · exact fun h => by cases h
              refine RegSteps.cons ?_ ?_
              · exact fun h => by cases h
              refine RegSteps.cons ?_ ?_
              · intro _ az wz hC hF hD _ K hK; obtain ⟨_, q193, rfl⟩ := dep hD 9 rfl rfl rfl rfl; clear hF hD; refine want_none rfl ?_; go_simp; exact hK _ _ hC (Below.refl _ _) rfl
              exact RegSteps.nil
            · refine ⟨?_, trivial⟩
              · refine ⟨⟨_, rfl, rfl, rfl, fun az wz K hK => by go_simp; exact hK⟩, ⟨_, rfl, rfl, rfl, ?_⟩, by simp [Word], by simp⟩
                intro az wz gz cs hC hF hD hA K hK
                obtain ⟨p1, p2, p3, p4, p5⟩ := hA
                obtain ⟨_, q192, x, rfl, hx⟩ := dep hD 8 rfl rfl rfl rfl
                obtain ⟨c0, c1, c2, c3, rfl⟩ := list_4 (l := cs) p4
                have z0 := p3.c0
                have z1 := p3.c1
                have z2 := p3.c2
                have z3 := p3.c3
                have f0 := p3.frozen 0
                have f1 := p3.frozen 1
                have f2 := p3.frozen 2
                have f3 := p3.frozen 3
                clear hF hD p3 p5
                refine want_none rfl ?_
                go_simp
                exact hK [.bool x.p.neg, .slice x.p.A x.p.n x.p.c, .bool x.l.neg, .slice x.l.A x.l.n x.l.c] rfl (by simp [Word]) ⟨x, rfl, hx⟩
            intro u7 gs hC hgl hbf
            obtain ⟨bS, rfl⟩ := list_1 hgl
            obtain ⟨⟨hg0, us0, hOb0, ⟨s, rfl, hs⟩⟩, _⟩ := hbf
            rintro _ rfl _ rfl _ rfl _ rfl _ rfl _ rfl _ ⟨y191, rfl, _⟩ _ ⟨y184, rfl, _⟩ _ ⟨y192, rfl, _⟩ _ rfl _ rfl _ _ _ rfl
            simp only [FinOK, Act.put, List.setIfInBounds_toArray, List.set_cons_zero, List.set_cons_succ]
            replace hY0 := hY0.on hC
            replace hY1 := hY1.on hC
            replace hY2 := hY2.on hC
            replace hTab := hTab.on hC
            replace hr := hr.on hC
            replace hR := hR.on hC
            replace b1 := Below.call b1 hC
            have hS := hOb0
            clear hOb0
            clear hC
            go_upto_region 28 with fail
            refine wp_region_specs u7 [Spec.eq (.int .i64 0), Spec.eq (.bool true), Spec.eq (.bool true), Spec.eq (.int .i64 0), Spec.eq (.bool true), Spec.eq (.bool true), Spec.eq (.bool true), Spec.eq (.agg #[.bool r.p.neg, .slice r.p.A r.p.n r.p.c, .bool r.l.neg, .slice r.l.A r.l.n r.l.c]), Spec.eq (.agg #[.bool s.p.neg, .slice s.p.A s.p.n s.p.c, .bool s.l.neg, .slice s.l.A s.l.n s.l.c]), Spec.eq (.int .i64 ag), Spec.eq (.int .i64 ab), Spec.eq (.slice (some ⟨gX, 0, none⟩) 3 cap), Spec.eq (.pointer (some ⟨gX, 8, none⟩)), Spec.eq (.agg #[.bool y2.p.neg, .slice y2.p.A y2.p.n y2.p.c, .bool y2.l.neg, .slice y2.l.A y2.l.n y2.l.c]), Spec.eq (.int .i64 sg), Spec.eq (.int .i64 ag), Spec.eq (.bool false), Spec.eq (.bool false)]
                (by kernel_rfl) (by kernel_rfl) rfl (by kernel_rfl) (Below.drew (Below.refl _ _)) ?_ ?_
            ·
              refine RegSteps.cons ?_ ?_
              · intro _ az wz hC hF hD _ K hK; have q16 : az.tmps[16]? = some (.int .i64 0) := hF 16 rfl; clear hF hD; refine want_none rfl ?_; go_simp; exact hK _ _ hC (Below.refl _ _) rfl
              refine RegSteps.cons ?_ ?_
              · intro _ az wz hC hF hD _ K hK; obtain ⟨_, q194, rfl⟩ := dep hD 0 rfl rfl rfl rfl; clear hF hD; refine want_none rfl ?_; go_simp; exact hK _ _ hC (Below.refl _ _) rfl
              refine RegSteps.cons ?_ ?_
              · intro _ az wz hC hF hD _ K hK; obtain ⟨_, q195, rfl⟩ := dep hD 1 rfl rfl rfl rfl; clear hF hD; refine want_none rfl ?_; go_simp; exact hK _ _ hC (Below.refl _ _) rfl
              refine RegSteps.cons ?_ ?_
              · intro _ az wz hC hF hD _ K hK; have q18 : az.tmps[18]? = some (.int .i64 0) := hF 18 rfl; obtain ⟨_, qg, rfl⟩ := dep hD 2 rfl rfl rfl rfl; clear hF hD; refine want_yes rfl rfl rfl qg ?_; go_simp; exact hK _ _ hC (Below.refl _ _) rfl
              refine RegSteps.cons ?_ ?_
              · intro _ az wz hC hF hD _ K hK; obtain ⟨_, q197, rfl⟩ := dep hD 3 rfl rfl rfl rfl; obtain ⟨_, qg, rfl⟩ := dep hD 2 rfl rfl rfl rfl; clear hF hD; refine want_yes rfl rfl rfl qg ?_; go_simp; exact hK _ _ hC (Below.refl _ _) rfl
              refine RegSteps.cons ?_ ?_
              · intro _ az wz hC hF hD _ K hK; obtain ⟨_, q196, rfl⟩ := dep hD 2 rfl rfl rfl rfl; obtain ⟨_, q198, rfl⟩ := dep hD 4 rfl rfl rfl rfl; clear hF hD; refine want_none rfl ?_; go_simp; exact hK _ _ hC (Below.refl _ _) rfl
              refine RegSteps.cons ?_ ?_
              · intro _ az wz hC hF hD _ K hK; obtain ⟨_, q199, rfl⟩ := dep hD 5 rfl rfl rfl rfl; clear hF hD; refine want_none rfl ?_; go_simp; exact hK _ _ hC (Below.refl _ _) rfl
              refine RegSteps.cons ?_ ?_
              · intro _ az wz hC hF hD _ K hK; have q15 : az.tmps[15]? = some (.pointer (some ⟨bR, 0, none⟩)) := hF 15 rfl; obtain ⟨_, qg, rfl⟩ := dep hD 6 rfl rfl rfl rfl; obtain ⟨l0, l1, l2, l3, _⟩ := (hR.on hC).all4; clear hF hD; refine want_yes rfl rfl rfl qg ?_; go_simp; exact hK _ _ hC (Below.refl _ _) rfl
              refine RegSteps.cons ?_ ?_
              · intro _ az wz hC hF hD _ K hK; have q17 : az.tmps[17]? = some (.pointer (some ⟨bS, 0, none⟩)) := hF 17 rfl; obtain ⟨_, qg, rfl⟩ := dep hD 6 rfl rfl rfl rfl; obtain ⟨l0, l1, l2, l3, _⟩ := (hS.on hC).all4; clear hF hD; refine want_yes rfl rfl rfl qg ?_; go_simp; exact hK _ _ hC (Below.refl _ _) rfl
              refine RegSteps.cons ?_ ?_
              · intro _ az wz hC hF hD _ K hK; obtain ⟨_, q201, rfl⟩ := dep hD 7 rfl rfl rfl rfl; obtain ⟨_, q202, rfl⟩ := dep hD 8 rfl rfl rfl rfl; obtain ⟨_, qg, rfl⟩ := dep hD 6 rfl rfl rfl rfl; clear hF hD; refine want_yes rfl rfl rfl qg ?_; go_simp; refine (HRS.out _ _ _ (hr.on hC) (hs.on hC)).mono ?_; rintro e wy ⟨rfl, k⟩; exact hK _ _ (Below.call hC k) k rfl
              refine RegSteps.cons ?_ ?_
              · intro _ az wz hC hF hD _ K hK; have q9 : az.tmps[9]? = some (.int .i64 ab) := hF 9 rfl; obtain ⟨_, qg, rfl⟩ := dep hD 6 rfl rfl rfl rfl; clear hF hD; refine want_yes rfl rfl rfl qg ?_; go_simp; exact hK _ _ hC (Below.refl _ _) rfl
              refine RegSteps.cons ?_ ?_
              · intro _ az wz hC hF hD _ K hK; have q4 : az.tmps[4]? = some (.slice (some ⟨gX, 0, none⟩) 3 cap) := hF 4 rfl; obtain ⟨_, qg, rfl⟩ := dep hD 6 rfl rfl rfl rfl; clear hF hD; refine want_yes rfl rfl rfl qg ?_; go_simp; exact hK _ _ hC (Below.refl _ _) rfl
              refine RegSteps.cons ?_ ?_
              · intro _ az wz hC hF hD _ K hK; obtain ⟨_, q205, rfl⟩ := dep hD 11 rfl rfl rfl rfl; obtain ⟨_, qg, rfl⟩ := dep hD 6 rfl rfl rfl rfl; clear hF hD; refine want_yes rfl rfl rfl qg ?_; go_simp; exact hK _ _ hC (Below.refl _ _) rfl
              refine RegSteps.cons ?_ ?_
              · intro _ az wz hC hF hD _ K hK; obtain ⟨_, q206, rfl⟩ := dep hD 12 rfl rfl rfl rfl; obtain ⟨_, qg, rfl⟩ := dep hD 6 rfl rfl rfl rfl; obtain ⟨l0, l1, l2, l3⟩ := (hY2.on hC).at2; clear hF hD; refine want_yes rfl rfl rfl qg ?_; go_simp; exact hK _ _ hC (Below.refl _ _) rfl
              refine RegSteps.cons ?_ ?_
              · intro _ az wz hC hF hD _ K hK; obtain ⟨_, q207, rfl⟩ := dep hD 13 rfl rfl rfl rfl; obtain ⟨_, qg, rfl⟩ := dep hD 6 rfl rfl rfl rfl; clear hF hD; refine want_yes rfl rfl rfl qg ?_; go_simp; refine (HSG.out _ (hY2.on hC).fr).mono ?_; rintro e wy ⟨rfl, k⟩; exact hK _ _ (Below.call hC k) k rfl
              refine RegSteps.cons ?_ ?_
              · intro _ az wz hC hF hD _ K hK; obtain ⟨_, q204, rfl⟩ := dep hD 10 rfl rfl rfl rfl; obtain ⟨_, q208, rfl⟩ := dep hD 14 rfl rfl rfl rfl; obtain ⟨_, qg, rfl⟩ := dep hD 6 rfl rfl rfl rfl; have hag_ := HAG.out.1; have hag0_ := HAG.out.2.1; have hag1_ := HAG.out.2.2; clear hF hD; refine want_yes rfl rfl rfl qg ?_; go_simp; try go_ints; exact hK _ _ hC (Below.refl _ _) rfl
              refine RegSteps.cons ?_ ?_
              · intro _ az wz hC hF hD _ K hK; obtain ⟨_, q203, rfl⟩ := dep hD 9 rfl rfl rfl rfl; obtain ⟨_, q209, rfl⟩ := dep hD 15 rfl rfl rfl rfl; obtain ⟨_, qg, rfl⟩ := dep hD 6 rfl rfl rfl rfl; clear hF hD; refine want_yes rfl rfl rfl qg ?_; go_simp; exact hK _ _ hC (Below.refl _ _) rfl
              refine RegSteps.cons ?_ ?_
              · intro _ az wz hC hF hD _ K hK; obtain ⟨_, q200, rfl⟩ := dep hD 6 rfl rfl rfl rfl; obtain ⟨_, q210, rfl⟩ := dep hD 16 rfl rfl rfl rfl; clear hF hD; refine want_none rfl ?_; go_simp; exact hK _ _ hC (Below.refl _ _) rfl
              exact RegSteps.nil
            intro u8 hC
            rintro _ rfl _ rfl _ rfl _ rfl _ rfl _ rfl _ rfl _ rfl _ rfl _ rfl _ rfl _ rfl _ rfl _ rfl _ rfl _ rfl _ rfl _ rfl
            simp only [FinOK, Act.put, List.setIfInBounds_toArray, List.set_cons_zero, List.set_cons_succ]
            replace hY0 := hY0.on hC
            replace hY1 := hY1.on hC
            replace hY2 := hY2.on hC
            replace hTab := hTab.on hC
            replace hr := hr.on hC
            replace hR := hR.on hC
            replace hs := hs.on hC
            replace hS := hS.on hC
            replace b1 := Below.call b1 hC
            clear hC
            clear hr hR hs hS
            go_upto_region 30 with fail
            refine wp_region_boxes u8 [Spec.eq (.slice (some ⟨gX, 0, none⟩) 3 cap), Spec.eq (.pointer (some ⟨gX, 0, none⟩)), Spec.eq (.agg #[.bool y0.p.neg, .slice y0.p.A y0.p.n y0.p.c, .bool y0.l.neg, .slice y0.l.A y0.l.n y0.l.c]), Spec.eq (.agg #[.bool y0.p.neg, .slice y0.p.A y0.p.n y0.p.c]), Spec.eq (.slice (some ⟨gX, 0, none⟩) 3 cap), Spec.eq (.pointer (some ⟨gX, 4, none⟩)), Spec.eq (.agg #[.bool y1.p.neg, .slice y1.p.A y1.p.n y1.p.c, .bool y1.l.neg, .slice y1.l.A y1.l.n y1.l.c]), Spec.eq (.agg #[.bool y1.p.neg, .slice y1.p.A y1.p.n y1.p.c]), sWE zn 0, sWE zn 0, sWp zn, Spec.eq (.int .i64 0), Spec.any, Spec.any, Spec.eq (.int .i64 0)]
                [{ A := 12, j := 13, t := 19, T := 29, zs := [.bool false, .slice none 0 0], X := fun us w => ∃ x : IV, us = [.bool x.neg, .slice x.A x.n x.c] ∧ x.is w (zn), up := fun ⟨x, e, hx⟩ k => ⟨x, e, hx.keeps k⟩ }]
                (by kernel_rfl) (by kernel_rfl) rfl (by kernel_rfl) rfl (Below.drew (Below.refl _ _)) ?_ ?_ ⟨rfl, rfl, trivial⟩ ?_
            ·
              refine RegSteps.cons ?_ ?_
              · intro _ az wz hC hF hD _ K hK; have q4 : az.tmps[4]? = some (.slice (some ⟨gX, 0, none⟩) 3 cap) := hF 4 rfl; clear hF hD; refine want_none rfl ?_; go_simp; exact hK _ _ hC (Below.refl _ _) rfl
              refine RegSteps.cons ?_ ?_
              · intro _ az wz hC hF hD _ K hK; obtain ⟨_, q213, rfl⟩ := dep hD 0 rfl rfl rfl rfl; clear hF hD; refine want_none rfl ?_; go_simp; exact hK _ _ hC (Below.refl _ _) rfl
              refine RegSteps.cons ?_ ?_
              · intro _ az wz hC hF hD _ K hK; obtain ⟨_, q214, rfl⟩ := dep hD 1 rfl rfl rfl rfl; obtain ⟨l0, l1, l2, l3⟩ := (hY0.on hC).at0; clear hF hD; refine want_none rfl ?_; go_simp; exact hK _ _ hC (Below.refl _ _) rfl
              refine RegSteps.cons ?_ ?_
              · intro _ az wz hC hF hD _ K hK; obtain ⟨_, q215, rfl⟩ := dep hD 2 rfl rfl rfl rfl; clear hF hD; refine want_none rfl ?_; go_simp; refine (Num_any).mono ?_; rintro e wy ⟨rfl, k⟩; exact hK _ _ (Below.call hC k) k rfl
              refine RegSteps.cons ?_ ?_
              · intro _ az wz hC hF hD _ K hK; have q4 : az.tmps[4]? = some (.slice (some ⟨gX, 0, none⟩) 3 cap) := hF 4 rfl; clear hF hD; refine want_none rfl ?_; go_simp; exact hK _ _ hC (Below.refl _ _) rfl
              refine RegSteps.cons ?_ ?_
              · intro _ az wz hC hF hD _ K hK; obtain ⟨_, q217, rfl⟩ := dep hD 4 rfl rfl rfl rfl; clear hF hD; refine want_none rfl ?_; go_simp; exact hK _ _ hC (Below.refl _ _) rfl
              refine RegSteps.cons ?_ ?_
              · intro _ az wz hC hF hD _ K hK; obtain ⟨_, q218, rfl⟩ := dep hD 5 rfl rfl rfl rfl; obtain ⟨l0, l1, l2, l3⟩ := (hY1.on hC).at1; clear hF hD; refine want_none rfl ?_; go_simp; exact hK _ _ hC (Below.refl _ _) rfl
              refine RegSteps.cons ?_ ?_
              · intro _ az wz hC hF hD _ K hK; obtain ⟨_, q219, rfl⟩ := dep hD 6 rfl rfl rfl rfl; clear hF hD; refine want_none rfl ?_; go_simp; refine (Num_any).mono ?_; rintro e wy ⟨rfl, k⟩; exact hK _ _ (Below.call hC k) k rfl
              refine RegSteps.cons ?_ ?_
              · intro _ az wz hC hF hD _ K hK; obtain ⟨_, q216, rfl⟩ := dep hD 3 rfl rfl rfl rfl; obtain ⟨_, q220, rfl⟩ := dep hD 7 rfl rfl rfl rfl; clear hF hD; refine want_none rfl ?_; go_simp; refine (HNA.out _ _ _ (hY0.on hC).fr.is.num (hY1.on hC).fr.is.num).mono ?_; rintro e wy ⟨x, rfl, k, hx⟩; exact hK _ _ (Below.call hC k) k ⟨x, rfl, hx⟩
              refine RegSteps.cons ?_ ?_
              · intro _ az wz hC hF hD _ K hK; obtain ⟨_, q221, x221, rfl, hx221⟩ := dep hD 8 rfl rfl rfl rfl; clear hF hD; refine want_none rfl ?_; go_simp; exact hK _ _ hC (Below.refl _ _) ⟨x221, rfl, hx221⟩
              refine RegSteps.cons ?_ ?_
              · intro _ az wz hC hF hD _ K hK; obtain ⟨_, q212, x212, rfl, hx212⟩ := dep hD 9 rfl rfl rfl rfl; clear hF hD; refine want_none rfl ?_; go_simp; exact hK _ _ hC (Below.refl _ _) ⟨x212, rfl, hx212⟩
              refine RegSteps.cons ?_ ?_
              · intro _ az wz hC hF hD _ K hK; obtain ⟨_, q212, x212, rfl, hx212⟩ := dep hD 9 rfl rfl rfl rfl; clear hF hD; refine want_none rfl ?_; go_simp; exact hK _ _ hC (Below.refl _ _) rfl
              refine RegSteps.cons ?_ ?_
              · exact fun h => by cases h
              refine RegSteps.cons ?_ ?_
              · exact fun h => by cases h
              refine RegSteps.cons ?_ ?_
              · intro _ az wz hC hF hD _ K hK; obtain ⟨_, q223, rfl⟩ := dep hD 11 rfl rfl rfl rfl; clear hF hD; refine want_none rfl ?_; go_simp; exact hK _ _ hC (Below.refl _ _) rfl
              exact RegSteps.nil
            · refine ⟨?_, trivial⟩
              · refine ⟨⟨_, rfl, rfl, rfl, fun az wz K hK => by go_simp; exact hK⟩, ⟨_, rfl, rfl, rfl, ?_⟩, by simp [Word], by simp⟩
                intro az wz gz cs hC hF hD hA K hK
                obtain ⟨p1, p2, p3, p4, p5⟩ := hA
                obtain ⟨_, q222, x, rfl, hx⟩ := dep hD 10 rfl rfl rfl rfl
                obtain ⟨c0, c1, rfl⟩ := list_2 (l := cs) p4
                have z0 := p3.c0
                have z1 := p3.c1
                have f0 := p3.frozen 0
                have f1 := p3.frozen 1
                clear hF hD p3 p5
                refine want_none rfl ?_
                go_simp
                exact hK [.bool x.neg, .slice x.A x.n x.c] rfl (by simp [Word]) ⟨x, rfl, hx⟩
            intro u9 gs hC hgl hbf
            obtain ⟨bN, rfl⟩ := list_1 hgl
            obtain ⟨⟨hg0, us0, hOb0, ⟨nn, rfl, hnn⟩⟩, _⟩ := hbf
            rintro _ rfl _ rfl _ rfl _ rfl _ rfl _ rfl _ rfl _ rfl _ ⟨y221, rfl, _⟩ _ ⟨y212, rfl, _⟩ _ ⟨y222, rfl, _⟩ _ rfl _ rfl _ _ _ rfl
            simp only [FinOK, Act.put, List.setIfInBounds_toArray, List.set_cons_zero, List.set_cons_succ]
            replace hY0 := hY0.on hC
            replace hY1 := hY1.on hC
            replace hY2 := hY2.on hC
            replace hTab := hTab.on hC
            replace b1 := Below.call b1 hC
            have hNN := hOb0
            clear hOb0
            clear hC
            go_upto_region 31 with fail
            refine wp_region_boxes u9 [Spec.eq (.slice (some ⟨gX, 0, none⟩) 3 cap), Spec.eq (.pointer (some ⟨gX, 0, none⟩)), Spec.eq (.agg #[.bool y0.p.neg, .slice y0.p.A y0.p.n y0.p.c, .bool y0.l.neg, .slice y0.l.A y0.l.n y0.l.c]), sWp ((rs 0).den : Int), Spec.eq (.slice (some ⟨gX, 0, none⟩) 3 cap), Spec.eq (.pointer (some ⟨gX, 4, none⟩)), Spec.eq (.agg #[.bool y1.p.neg, .slice y1.p.A y1.p.n y1.p.c, .bool y1.l.neg, .slice y1.l.A y1.l.n y1.l.c]), sWp ((rs 1).den : Int), sWE zd 0, sWE zd 0, sWp zd, Spec.eq (.int .i64 0), Spec.any, Spec.any, Spec.eq (.int .i64 0)]
                [{ A := 12, j := 13, t := 21, T := 29, zs := [.bool false, .slice none 0 0], X := fun us w => ∃ x : IV, us = [.bool x.neg, .slice x.A x.n x.c] ∧ x.is w (zd), up := fun ⟨x, e, hx⟩ k => ⟨x, e, hx.keeps k⟩ }]
                (by kernel_rfl) (by kernel_rfl) rfl (by kernel_rfl) rfl (Below.drew (Below.refl _ _)) ?_ ?_ ⟨rfl, rfl, trivial⟩ ?_
            ·
              refine RegSteps.cons ?_ ?_
              · intro _ az wz hC hF hD _ K hK; have q4 : az.tmps[4]? = some (.slice (some ⟨gX, 0, none⟩) 3 cap) := hF 4 rfl; clear hF hD; refine want_none rfl ?_; go_simp; exact hK _ _ hC (Below.refl _ _) rfl
              refine RegSteps.cons ?_ ?_
              · intro _ az wz hC hF hD _ K hK; obtain ⟨_, q225, rfl⟩ := dep hD 0 rfl rfl rfl rfl; clear hF hD; refine want_none rfl ?_; go_simp; exact hK _ _ hC (Below.refl _ _) rfl
              refine RegSteps.cons ?_ ?_
              · intro _ az wz hC hF hD _ K hK; obtain ⟨_, q226, rfl⟩ := dep hD 1 rfl rfl rfl rfl; obtain ⟨l0, l1, l2, l3⟩ := (hY0.on hC).at0; clear hF hD; refine want_none rfl ?_; go_simp; exact hK _ _ hC (Below.refl _ _) rfl
              refine RegSteps.cons ?_ ?_
              · intro _ az wz hC hF hD _ K hK; obtain ⟨_, q227, rfl⟩ := dep hD 2 rfl rfl rfl rfl; clear hF hD; refine want_none rfl ?_; go_simp; refine (Den_any (hY0.on hC).fr.is).mono ?_; rintro e wy ⟨x, rfl, k, hx⟩; exact hK _ _ (Below.call hC k) k ⟨x, rfl, hx⟩
              refine RegSteps.cons ?_ ?_
              · intro _ az wz hC hF hD _ K hK; have q4 : az.tmps[4]? = some (.slice (some ⟨gX, 0, none⟩) 3 cap) := hF 4 rfl; clear hF hD; refine want_none rfl ?_; go_simp; exact hK _ _ hC (Below.refl _ _) rfl
              refine RegSteps.cons ?_ ?_
              · intro _ az wz hC hF hD _ K hK; obtain ⟨_, q229, rfl⟩ := dep hD 4 rfl rfl rfl rfl; clear hF hD; refine want_none rfl ?_; go_simp; exact hK _ _ hC (Below.refl _ _) rfl
              refine RegSteps.cons ?_ ?_
              · intro _ az wz hC hF hD _ K hK; obtain ⟨_, q230, rfl⟩ := dep hD 5 rfl rfl rfl rfl; obtain ⟨l0, l1, l2, l3⟩ := (hY1.on hC).at1; clear hF hD; refine want_none rfl ?_; go_simp; exact hK _ _ hC (Below.refl _ _) rfl
              refine RegSteps.cons ?_ ?_
              · intro _ az wz hC hF hD _ K hK; obtain ⟨_, q231, rfl⟩ := dep hD 6 rfl rfl rfl rfl; clear hF hD; refine want_none rfl ?_; go_simp; refine (Den_any (hY1.on hC).fr.is).mono ?_; rintro e wy ⟨x, rfl, k, hx⟩; exact hK _ _ (Below.call hC k) k ⟨x, rfl, hx⟩
              refine RegSteps.cons ?_ ?_
              · intro _ az wz hC hF hD _ K hK; obtain ⟨_, q228, x228, rfl, hx228⟩ := dep hD 3 rfl rfl rfl rfl; obtain ⟨_, q232, x232, rfl, hx232⟩ := dep hD 7 rfl rfl rfl rfl; clear hF hD; refine want_none rfl ?_; go_simp; refine (HDA.out _ _ _ hx228 hx232).mono ?_; rintro e wy ⟨x, rfl, k, hx⟩; exact hK _ _ (Below.call hC k) k ⟨x, rfl, hx⟩
              refine RegSteps.cons ?_ ?_
              · intro _ az wz hC hF hD _ K hK; obtain ⟨_, q233, x233, rfl, hx233⟩ := dep hD 8 rfl rfl rfl rfl; clear hF hD; refine want_none rfl ?_; go_simp; exact hK _ _ hC (Below.refl _ _) ⟨x233, rfl, hx233⟩
              refine RegSteps.cons ?_ ?_
              · intro _ az wz hC hF hD _ K hK; obtain ⟨_, q224, x224, rfl, hx224⟩ := dep hD 9 rfl rfl rfl rfl; clear hF hD; refine want_none rfl ?_; go_simp; exact hK _ _ hC (Below.refl _ _) ⟨x224, rfl, hx224⟩
              refine RegSteps.cons ?_ ?_
              · intro _ az wz hC hF hD _ K hK; obtain ⟨_, q224, x224, rfl, hx224⟩ := dep hD 9 rfl rfl rfl rfl; clear hF hD; refine want_none rfl ?_; go_simp; exact hK _ _ hC (Below.refl _ _) rfl
              refine RegSteps.cons ?_ ?_
              · exact fun h => by cases h
              refine RegSteps.cons ?_ ?_
              · exact fun h => by cases h
              refine RegSteps.cons ?_ ?_
              · intro _ az wz hC hF hD _ K hK; obtain ⟨_, q235, rfl⟩ := dep hD 11 rfl rfl rfl rfl; clear hF hD; refine want_none rfl ?_; go_simp; exact hK _ _ hC (Below.refl _ _) rfl
              exact RegSteps.nil
            · refine ⟨?_, trivial⟩
              · refine ⟨⟨_, rfl, rfl, rfl, fun az wz K hK => by go_simp; exact hK⟩, ⟨_, rfl, rfl, rfl, ?_⟩, by simp [Word], by simp⟩
                intro az wz gz cs hC hF hD hA K hK
                obtain ⟨p1, p2, p3, p4, p5⟩ := hA
                obtain ⟨_, q234, x, rfl, hx⟩ := dep hD 10 rfl rfl rfl rfl
                obtain ⟨c0, c1, rfl⟩ := list_2 (l := cs) p4
                have z0 := p3.c0
                have z1 := p3.c1
                have f0 := p3.frozen 0
                have f1 := p3.frozen 1
                clear hF hD p3 p5
                refine want_none rfl ?_
                go_simp
                exact hK [.bool x.neg, .slice x.A x.n x.c] rfl (by simp [Word]) ⟨x, rfl, hx⟩
            intro u10 gs hC hgl hbf
            obtain ⟨bD, rfl⟩ := list_1 hgl
            obtain ⟨⟨hg0, us0, hOb0, ⟨dd, rfl, hdd⟩⟩, _⟩ := hbf
            rintro _ rfl _ rfl _ rfl _ ⟨y228, rfl, _⟩ _ rfl _ rfl _ rfl _ ⟨y232, rfl, _⟩ _ ⟨y233, rfl, _⟩ _ ⟨y224, rfl, _⟩ _ ⟨y234, rfl, _⟩ _ rfl _ rfl _ _ _ rfl
            simp only [FinOK, Act.put, List.setIfInBounds_toArray, List.set_cons_zero, List.set_cons_succ]
            replace hY0 := hY0.on hC
            replace hY1 := hY1.on hC
            replace hY2 := hY2.on hC
            replace hTab := hTab.on hC
            replace hnn := hnn.on hC
            replace hNN := hNN.on hC
            replace b1 := Below.call b1 hC
            have hDD := hOb0
            clear hOb0
            clear hC
            obtain ⟨c0_0, c0_1, _⟩ := hNN.all2
            obtain ⟨c1_0, c1_1, _⟩ := hDD.all2
            go_wp2_with fail
            refine (HMk.out _ _ _ hnn hdd).mono ?_
            rintro e u11 ⟨m, rfl, k1_, hm⟩
            clear c0_0 c0_1 c1_0 c1_1
            go_upto_region 33 with fail
            refine wp_new1 fun u12 hM k2_ => ?_
            obtain ⟨bM, e_⟩ : ∃ bM, bM = u11.heap.size := ⟨_, rfl⟩
            rw [← e_] at hM ⊢
            clear e_
            have kk_ := Below.call k1_ k2_
            replace hY0 := hY0.on kk_
            replace hY1 := hY1.on kk_
            replace hY2 := hY2.on kk_
            replace hTab := hTab.on kk_
            replace hnn := hnn.on kk_
            replace hNN := hNN.on kk_
            replace hdd := hdd.on kk_
            replace hDD := hDD.on kk_
            replace hm := hm.on k2_
            replace b1 := Below.call b1 kk_
            clear k1_ k2_ kk_
            clear hnn hNN hdd hDD
            go_upto_if 247 with fail
            by_cases h0 : ab = 0
            · have hd0 : decide (ab = 0) = true := decide_eq_true h0
              have hd1 : (ab == 0) = true := hd0
              try rw [hd1]
              try rw [hd0]
              go_wp2_with fail
              refine (lives4_any _ hTab).mono ?_
              rintro e w8 ⟨rfl, k1⟩
              have HB := Lib.hid (Below.call b1 k1)
              go_wp2
              go_returns
              exact ⟨rfl, HB.out⟩
            · have hd0 : decide (ab = 0) = false := decide_eq_false h0
              have hd1 : (ab == 0) = false := hd0
              try rw [hd1]
              try rw [hd0]
              go_upto_region 35 with fail
              refine wp_region_specs u12 [Spec.eq (.slice (some ⟨gX, 0, none⟩) 3 cap), Spec.eq (.pointer (some ⟨gX, 0, none⟩)), Spec.eq (.agg #[.bool y0.p.neg, .slice y0.p.A y0.p.n y0.p.c, .bool y0.l.neg, .slice y0.l.A y0.l.n y0.l.c]), Spec.eq (.agg #[.bool m.p.neg, .slice m.p.A m.p.n m.p.c, .bool m.l.neg, .slice m.l.A m.l.n m.l.c]), Spec.eq (.int .i64 ab), Spec.eq (.int .i64 ab), Spec.eq (.bool true), Spec.eq (.bool true), Spec.eq (.agg #[.bool m.p.neg, .slice m.p.A m.p.n m.p.c, .bool m.l.neg, .slice m.l.A m.l.n m.l.c]), Spec.eq (.slice (some ⟨gX, 0, none⟩) 3 cap), Spec.eq (.pointer (some ⟨gX, 4, none⟩)), Spec.eq (.agg #[.bool y1.p.neg, .slice y1.p.A y1.p.n y1.p.c, .bool y1.l.neg, .slice y1.l.A y1.l.n y1.l.c]), Spec.eq (.int .i64 ab), Spec.eq (.int .i64 ab), Spec.eq (.bool true), Spec.eq (.bool true), Spec.eq (.bool true), Spec.eq (.bool true), Spec.eq (.bool true), Spec.eq (.bool true)]
                  (by kernel_rfl) (by kernel_rfl) rfl (by kernel_rfl) (Below.drew (Below.refl _ _)) ?_ ?_
              ·
                refine RegSteps.cons ?_ ?_
                · intro _ az wz hC hF hD _ K hK; have q4 : az.tmps[4]? = some (.slice (some ⟨gX, 0, none⟩) 3 cap) := hF 4 rfl; clear hF hD; refine want_none rfl ?_; go_simp; exact hK _ _ hC (Below.refl _ _) rfl
                refine RegSteps.cons ?_ ?_
                · intro _ az wz hC hF hD _ K hK; obtain ⟨_, q249, rfl⟩ := dep hD 0 rfl rfl rfl rfl; clear hF hD; refine want_none rfl ?_; go_simp; exact hK _ _ hC (Below.refl _ _) rfl
                refine RegSteps.cons ?_ ?_
                · intro _ az wz hC hF hD _ K hK; obtain ⟨_, q250, rfl⟩ := dep hD 1 rfl rfl rfl rfl; obtain ⟨l0, l1, l2, l3⟩ := (hY0.on hC).at0; clear hF hD; refine want_none rfl ?_; go_simp; exact hK _ _ hC (Below.refl _ _) rfl
                refine RegSteps.cons ?_ ?_
                · intro _ az wz hC hF hD _ K hK; have q23 : az.tmps[23]? = some (.pointer (some ⟨bM, 0, none⟩)) := hF 23 rfl; obtain ⟨l0, l1, l2, l3, _⟩ := (hM.on hC).all4; clear hF hD; refine want_none rfl ?_; go_simp; exact hK _ _ hC (Below.refl _ _) rfl
                refine RegSteps.cons ?_ ?_
                · intro _ az wz hC hF hD _ K hK; obtain ⟨_, q251, rfl⟩ := dep hD 2 rfl rfl rfl rfl; obtain ⟨_, q252, rfl⟩ := dep hD 3 rfl rfl rfl rfl; clear hF hD; refine want_none rfl ?_; go_simp; refine (HM0.out _ _ (hY0.on hC).fr (hm.on hC)).mono ?_; rintro e wy ⟨rfl, k⟩; exact hK _ _ (Below.call hC k) k rfl
                refine RegSteps.cons ?_ ?_
                · intro _ az wz hC hF hD _ K hK; have q9 : az.tmps[9]? = some (.int .i64 ab) := hF 9 rfl; clear hF hD; refine want_none rfl ?_; go_simp; exact hK _ _ hC (Below.refl _ _) rfl
                refine RegSteps.cons ?_ ?_
                · intro _ az wz hC hF hD _ K hK; obtain ⟨_, q253, rfl⟩ := dep hD 4 rfl rfl rfl rfl; obtain ⟨_, q254, rfl⟩ := dep hD 5 rfl rfl rfl rfl; clear hF hD; refine want_none rfl ?_; go_simp; exact hK _ _ hC (Below.refl _ _) rfl
                refine RegSteps.cons ?_ ?_
                · intro _ az wz hC hF hD _ K hK; obtain ⟨_, q255, rfl⟩ := dep hD 6 rfl rfl rfl rfl; clear hF hD; refine want_none rfl ?_; go_simp; exact hK _ _ hC (Below.refl _ _) rfl
                refine RegSteps.cons ?_ ?_
                · intro _ az wz hC hF hD _ K hK; have q23 : az.tmps[23]? = some (.pointer (some ⟨bM, 0, none⟩)) := hF 23 rfl; obtain ⟨_, qg, rfl⟩ := dep hD 7 rfl rfl rfl rfl; obtain ⟨l0, l1, l2, l3, _⟩ := (hM.on hC).all4; clear hF hD; refine want_yes rfl rfl rfl qg ?_; go_simp; exact hK _ _ hC (Below.refl _ _) rfl
                refine RegSteps.cons ?_ ?_
                · intro _ az wz hC hF hD _ K hK; have q4 : az.tmps[4]? = some (.slice (some ⟨gX, 0, none⟩) 3 cap) := hF 4 rfl; obtain ⟨_, qg, rfl⟩ := dep hD 7 rfl rfl rfl rfl; clear hF hD; refine want_yes rfl rfl rfl qg ?_; go_simp; exact hK _ _ hC (Below.refl _ _) rfl
                refine RegSteps.cons ?_ ?_
                · intro _ az wz hC hF hD _ K hK; obtain ⟨_, q258, rfl⟩ := dep hD 9 rfl rfl rfl rfl; obtain ⟨_, qg, rfl⟩ := dep hD 7 rfl rfl rfl rfl; clear hF hD; refine want_yes rfl rfl rfl qg ?_; go_simp; exact hK _ _ hC (Below.refl _ _) rfl
                refine RegSteps.cons ?_ ?_
                · intro _ az wz hC hF hD _ K hK; obtain ⟨_, q259, rfl⟩ := dep hD 10 rfl rfl rfl rfl; obtain ⟨_, qg, rfl⟩ := dep hD 7 rfl rfl rfl rfl; obtain ⟨l0, l1, l2, l3⟩ := (hY1.on hC).at1; clear hF hD; refine want_yes rfl rfl rfl qg ?_; go_simp; exact hK _ _ hC (Below.refl _ _) rfl
                refine RegSteps.cons ?_ ?_
                · intro _ az wz hC hF hD _ K hK; obtain ⟨_, q257, rfl⟩ := dep hD 8 rfl rfl rfl rfl; obtain ⟨_, q260, rfl⟩ := dep hD 11 rfl rfl rfl rfl; obtain ⟨_, qg, rfl⟩ := dep hD 7 rfl rfl rfl rfl; clear hF hD; refine want_yes rfl rfl rfl qg ?_; go_simp; refine (HM1.out _ _ (hm.on hC) (hY1.on hC).fr).mono ?_; rintro e wy ⟨rfl, k⟩; exact hK _ _ (Below.call hC k) k rfl
                refine RegSteps.cons ?_ ?_
                · intro _ az wz hC hF hD _ K hK; have q9 : az.tmps[9]? = some (.int .i64 ab) := hF 9 rfl; obtain ⟨_, qg, rfl⟩ := dep hD 7 rfl rfl rfl rfl; clear hF hD; refine want_yes rfl rfl rfl qg ?_; go_simp; exact hK _ _ hC (Below.refl _ _) rfl
                refine RegSteps.cons ?_ ?_
                · intro _ az wz hC hF hD _ K hK; obtain ⟨_, q261, rfl⟩ := dep hD 12 rfl rfl rfl rfl; obtain ⟨_, q262, rfl⟩ := dep hD 13 rfl rfl rfl rfl; obtain ⟨_, qg, rfl⟩ := dep hD 7 rfl rfl rfl rfl; clear hF hD; refine want_yes rfl rfl rfl qg ?_; go_simp; exact hK _ _ hC (Below.refl _ _) rfl
                refine RegSteps.cons ?_ ?_
                · intro _ az wz hC hF hD _ K hK; obtain ⟨_, q256, rfl⟩ := dep hD 7 rfl rfl rfl rfl; obtain ⟨_, q263, rfl⟩ := dep hD 14 rfl rfl rfl rfl; clear hF hD; refine want_none rfl ?_; go_simp; exact hK _ _ hC (Below.refl _ _) rfl
                refine RegSteps.cons ?_ ?_
                · intro _ az wz hC hF hD _ K hK; obtain ⟨_, q264, rfl⟩ := dep hD 15 rfl rfl rfl rfl; clear hF hD; refine want_none rfl ?_; go_simp; exact hK _ _ hC (Below.refl _ _) rfl
                refine RegSteps.cons ?_ ?_
                · intro _ az wz hC hF hD _ K hK; obtain ⟨_, qg, rfl⟩ := dep hD 16 rfl rfl rfl rfl; clear hF hD; refine want_yes rfl rfl rfl qg ?_; go_simp; refine (lives4_any _ (hTab.on hC)).mono ?_; rintro e wy ⟨rfl, k⟩; exact hK _ _ (Below.call hC k) k rfl
                refine RegSteps.cons ?_ ?_
                · intro _ az wz hC hF hD _ K hK; obtain ⟨_, q265, rfl⟩ := dep hD 16 rfl rfl rfl rfl; obtain ⟨_, q266, rfl⟩ := dep hD 17 rfl rfl rfl rfl; clear hF hD; refine want_none rfl ?_; go_simp; exact hK _ _ hC (Below.refl _ _) rfl
                refine RegSteps.cons ?_ ?_
                · intro _ az wz hC hF hD _ K hK; obtain ⟨_, q267, rfl⟩ := dep hD 18 rfl rfl rfl rfl; clear hF hD; refine want_none rfl ?_; go_simp; exact hK _ _ hC (Below.refl _ _) rfl
                exact RegSteps.nil
              intro u13 hC
              rintro _ rfl _ rfl _ rfl _ rfl _ rfl _ rfl _ rfl _ rfl _ rfl _ rfl _ rfl _ rfl _ rfl _ rfl _ rfl _ rfl _ rfl _ rfl _ rfl _ rfl
              simp only [FinOK, Act.put, List.setIfInBounds_toArray, List.set_cons_zero, List.set_cons_succ]
              replace hY0 := hY0.on hC
              replace hY1 := hY1.on hC
              replace hY2 := hY2.on hC
              replace hTab := hTab.on hC
              replace hm := hm.on hC
              replace hM := hM.on hC
              replace b1 := Below.call b1 hC
              clear hC
              have HB := Lib.hid b1
              go_wp2
              go_returns
              exact ⟨rfl, HB.out⟩
end Go.Proofs.YthafhbogpfggjaaGreatDoor
