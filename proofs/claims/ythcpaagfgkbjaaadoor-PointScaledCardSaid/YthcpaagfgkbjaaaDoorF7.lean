/-
  Contracts of package frac: Of, Sign, String.
-/
import Derived.Test.YthcpaagfgkbjaaaDoorF3
namespace Go.Proofs.YthcpaagfgkbjaaaDoor
open Go.RowKit Mag

theorem MkE.size {w w' : World} {g : Nat} (h : Below w.heap.size w w') (hg : g < w.heap.size) : g < w'.heap.size := Nat.lt_of_lt_of_le hg h.size
set_option maxRecDepth 100000 in
set_option maxHeartbeats 1600000 in
theorem Of_any (n d : Int) (w : World) (n0 : -9223372036854775808 ≤ n) (n1 : n ≤ 9223372036854775807) (d0 : -9223372036854775808 ≤ d) (d1 : d ≤ 9223372036854775807) (hd : d ≠ 0) :
    Calls Tryd.prog 15 #[.int .i64 n, .int .i64 d] w (FracE w (mkP n d) (mkQ n d) 0) := by
  go_enter Tryd.func15, Tryd.ntmps15
  have hO := Own.new4 w 29 (.bool false) (.slice none 0 0) (.bool false) (.slice none 0 0)
  have hB := below_new w (.cells #[.bool false, .slice none 0 0, .bool false, .slice none 0 0] 29)
  go_upto_region 1 with fail
  generalize w.alloc (.cells #[.bool false, .slice none 0 0, .bool false, .slice none 0 0] 29) = W at hO hB ⊢
  go_wp2_with fail
  refine (from_iv n _ n0 n1).mono ?_
  rintro e w1 ⟨x, rfl, hb1, hx⟩
  go_wp2_with fail
  refine (from_iv d _ d0 d1).mono ?_
  rintro e w2 ⟨y, rfl, hb2, hy⟩
  go_wp2_with fail
  refine (Make_any (hx.on hb2) hy hd).mono ?_
  rintro e w3 ⟨f, rfl, hb3, hf⟩
  have oz := ((hO.on hb1).on hb2).on hb3
  have hB3 := Below.call (Below.call (Below.call hB hb1) hb2) hb3
  have z0 := oz.c0
  have z10 := oz.c1
  have z20 := oz.c2
  have z30 := oz.c3
  have f0 := oz.frozen 0
  have f1 := oz.frozen 1
  have f2 := oz.frozen 2
  have f3 := oz.frozen 3
  have hp := put_frac (err := 0) hB3 (Nat.le_refl _) oz (by simp) (by simp) (by simp) (by simp) hf
  have hO5 := oz.put4 (.bool f.p.neg) (.slice f.p.A f.p.n f.p.c) (.bool f.l.neg) (.slice f.l.A f.l.n f.l.c)
  have q0 := hO5.c0
  have q1 := hO5.c1
  have q2 := hO5.c2
  have q3 := hO5.c3
  have HP := Lib.hid hp
  clear hp hO5
  go_wp2
  exact bodyPost_ret (v := .tuple #[.agg #[.bool f.p.neg, .slice f.p.A f.p.n f.p.c, .bool f.l.neg, .slice f.l.A f.l.n f.l.c], .int .i64 0]) (by simp [results, Tryd.results15, go_sem, q0, q1, q2, q3]) rfl HP.out

theorem FV.is.drew {f : FV} {w : World} {p q : Int} (h : f.is w p q) : f.is w.drew p q := ⟨h.num.of_drew, h.less.of_drew, h.pos, h.fits, h.cop⟩
theorem Tab.drew {w : World} (h : Tab w) : Tab w.drew := h
/-- The text of a fraction. -/
def ftext (p q : Int) : List UInt8 := if q = 1 then Lib.itoa p else Lib.itoa p ++ 47 :: Lib.itoa q
set_option maxRecDepth 100000 in
set_option maxHeartbeats 1600000 in
theorem FString_any {f : FV} {p q : Int} {w : World} (hf : f.is w p q) (ht : Tab w) : Calls Tryd.prog 40 #[.agg #[.bool f.p.neg, .slice f.p.A f.p.n f.p.c, .bool f.l.neg, .slice f.l.A f.l.n f.l.c]] w (TxtPost w (ftext p q)) := by
  have hO := Own.newF w 29 f
  have hB := below_new w (.cells #[.bool f.p.neg, .slice f.p.A f.p.n f.p.c, .bool f.l.neg, .slice f.l.A f.l.n f.l.c] 29)
  go_enter Tryd.func40, Tryd.ntmps40
  go_upto_region 1 with fail
  generalize w.alloc (.cells #[.bool f.p.neg, .slice f.p.A f.p.n f.p.c, .bool f.l.neg, .slice f.l.A f.l.n f.l.c] 29) = W at hO hB ⊢
  have hfW := hf.on hB
  have htW := ht.on hB
  have x2 := hO.c2
  have x3 := hO.c3
  go_wp2_with fail
  refine (sign_iv hfW.less).mono ?_
  rintro e w1 ⟨rfl, hb1⟩
  have hO1 := hO.on hb1
  have hf1 := hfW.on hb1
  have ht1 := htW.on hb1
  have hB1 := Below.call hB hb1
  clear x2 x3 hO hB hfW htW
  have hq := hf.pos
  rcases (by omega : q = 1 ∨ 1 < q) with h1 | h1
  · subst h1
    have hc : (cmpI (1 - 1) 0 == 0) = true := rfl
    have x0 := hO1.c0
    have x1 := hO1.c1
    go_wp2_with fail
    refine (string_iv hf1.num ht1).mono ?_
    rintro e w2 ⟨rfl, hb2⟩
    go_wp2_with fail
    go_ret
    exact ⟨by unfold ftext; rw [if_pos rfl]; rfl, Below.call hB1 hb2⟩
  · have hc : (cmpI (q - 1) 0 == 0) = false := by rw [cmpI_gt (by omega)]; rfl
    obtain ⟨sp, hsp⟩ : ∃ sp : ByteArray, sp = ⟨(Lib.itoa p).toArray⟩ := ⟨_, rfl⟩
    obtain ⟨sq, hsq⟩ : ∃ sq : ByteArray, sq = ⟨(Lib.itoa q).toArray⟩ := ⟨_, rfl⟩
    have hl1 : sp.size ≤ 10000 := by rw [hsp]; show ((Lib.itoa p).toArray).size ≤ _; simpa using itoa_len hf.num.fits
    have hl2 : sq.size ≤ 10000 := by rw [hsq]; show ((Lib.itoa q).toArray).size ≤ _; simpa using itoa_len hf.fits
    have hl3 : ¬ 9223372036854775807 < sp.size + 1 := by omega
    have hl4 : ¬ 9223372036854775807 ≤ sp.size := by omega
    have hl5 : ¬ 9223372036854775807 < sp.size + 1 + sq.size := by omega
    have hfin : Value.string (sp ++ ⟨#[47]⟩ ++ sq) = .string ⟨(ftext p q).toArray⟩ := by
      unfold ftext
      rw [if_neg (by omega), hsp, hsq]
      congr 1
      exact ByteArray.ext (by simp)
    have HSP := Lib.hid hsp
    have HSQ := Lib.hid hsq
    have HF := Lib.hid hfin
    clear hsp hsq hfin
    go_wp2_with fail
    go_region_held3 (fun w' => w'.cell? ⟨w.heap.size, 0, none⟩ = some (.bool f.p.neg) ∧ w'.cell? ⟨w.heap.size, 1, none⟩ = some (.slice f.p.A f.p.n f.p.c) ∧ w'.cell? ⟨w.heap.size, 2, none⟩ = some (.bool f.l.neg) ∧ w'.cell? ⟨w.heap.size, 3, none⟩ = some (.slice f.l.A f.l.n f.l.c))
      (first | with_reducible exact ⟨hO1.drew.c0, hO1.drew.c1, hO1.drew.c2, hO1.drew.c3⟩ | with_reducible exact ⟨hO2.c0, hO2.c1, hO2.c2, hO2.c3⟩ | with_reducible exact ⟨hO3.c0, hO3.c1, hO3.c2, hO3.c3⟩ | with_reducible exact ⟨hO4.c0, hO4.c1, hO4.c2, hO4.c3⟩)
      (first
        | (go_at_call 61; first
            | ((with_reducible refine (string_iv (x := f.p) hf1.num.of_drew (Tab.drew ht1)).mono ?_); rintro e w2 ⟨rfl, k2⟩; rw [← HSP.out]; have hO2 := hO1.drew.on k2; have hf2 := (FV.is.drew hf1).on k2; have ht2 := (Tab.drew ht1).on k2; have hB2 := Below.call (Below.drew hB1) k2)
            | ((with_reducible refine (string_iv (x := d) hd ht3).mono ?_); rintro e w4 ⟨rfl, k4⟩; rw [← HSQ.out]; have hO4 := hO3.on k4; have hB4 := Below.call hB3 k4))
        | (go_at_call 46; (with_reducible refine (Den_any hf2).mono ?_); rintro e w3 ⟨d, rfl, k3, hd⟩; have hO3 := hO2.on k3; have ht3 := ht2.on k3; have hB3 := Below.call hB2 k3))
    go_wp2_with fail
    go_ret
    exact ⟨congrArg Ending.returned HF.out, hB4⟩
end Go.Proofs.YthcpaagfgkbjaaaDoor
