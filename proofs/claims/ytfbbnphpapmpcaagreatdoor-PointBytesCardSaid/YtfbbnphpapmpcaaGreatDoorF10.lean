/-
  Contracts of package frac: Of, Sign, String.
-/
import Derived.Test.YtfbbnphpapmpcaaGreatDoorF4
import Derived.Test.YtfbbnphpapmpcaaGreatDoorF8
import Derived.Test.YtfbbnphpapmpcaaGreatDoorF6
namespace Go.Proofs.YtfbbnphpapmpcaaGreatDoor
open Go.RowKit Mag

theorem MkE.size {w w' : World} {g : Nat} (h : Below w.heap.size w w') (hg : g < w.heap.size) : g < w'.heap.size := Nat.lt_of_lt_of_le hg h.size
set_option maxRecDepth 100000 in
set_option maxHeartbeats 1600000 in
theorem Of_any (n d : Int) (w : World) (n0 : -9223372036854775808 ≤ n) (n1 : n ≤ 9223372036854775807) (d0 : -9223372036854775808 ≤ d) (d1 : d ≤ 9223372036854775807) (hd : d ≠ 0) :
    Calls Tryz.prog 23 #[.int .i64 n, .int .i64 d] w (FracE w (mkP n d) (mkQ n d) 0) := by
  go_enter Tryz.func23, Tryz.ntmps23
  have hO := Own.new4 w 31 (.bool false) (.slice none 0 0) (.bool false) (.slice none 0 0)
  have hB := below_new w (.cells #[.bool false, .slice none 0 0, .bool false, .slice none 0 0] 31)
  go_upto_region 1 with fail
  generalize w.alloc (.cells #[.bool false, .slice none 0 0, .bool false, .slice none 0 0] 31) = W at hO hB ⊢
  go_wp2_with fail
  refine (from_iv n _ n0 n1).mono ?_
  rintro e w1 ⟨x, rfl, hb1, hx⟩
  go_wp2_with fail
  refine (from_iv d _ d0 d1).mono ?_
  rintro e w2 ⟨y, rfl, hb2, hy⟩
  go_wp2_with fail
  refine (Make_any (hx.on hb2) hy hd).mono ?_
  rintro e w3 ⟨f, rfl, hb3, hf⟩
  have oz := ((hO.on hb1).on hb2).on hb3
  have hB3 := Below.call (Below.call (Below.call hB hb1) hb2) hb3
  have z0 := oz.c0
  have z10 := oz.c1
  have z20 := oz.c2
  have z30 := oz.c3
  have f0 := oz.frozen 0
  have f1 := oz.frozen 1
  have f2 := oz.frozen 2
  have f3 := oz.frozen 3
  have hp := put_frac (err := 0) hB3 (Nat.le_refl _) oz (by simp) (by simp) (by simp) (by simp) hf
  have hO5 := oz.put4 (.bool f.p.neg) (.slice f.p.A f.p.n f.p.c) (.bool f.l.neg) (.slice f.l.A f.l.n f.l.c)
  have q0 := hO5.c0
  have q1 := hO5.c1
  have q2 := hO5.c2
  have q3 := hO5.c3
  have HP := Lib.hid hp
  clear hp hO5
  go_wp2
  exact bodyPost_ret (v := .tuple #[.agg #[.bool f.p.neg, .slice f.p.A f.p.n f.p.c, .bool f.l.neg, .slice f.l.A f.l.n f.l.c], .int .i64 0]) (by simp [results, Tryz.results23, go_sem, q0, q1, q2, q3]) rfl HP.out

theorem FV.is.drew {f : FV} {w : World} {p q : Int} (h : f.is w p q) : f.is w.drew p q := ⟨h.num.of_drew, h.less.of_drew, h.pos, h.fits, h.cop⟩
theorem Tab.drew {w : World} (h : Tab w) : Tab w.drew := h
/-- The text of a fraction. -/
def ftext (p q : Int) : List UInt8 := if q = 1 then Lib.itoa p else Lib.itoa p ++ 47 :: Lib.itoa q
set_option maxRecDepth 100000 in
set_option maxHeartbeats 1600000 in
theorem FString_any {f : FV} {p q : Int} {w : World} (hf : f.is w p q) (ht : Tab w) : Calls Tryz.prog 13 #[.agg #[.bool f.p.neg, .slice f.p.A f.p.n f.p.c, .bool f.l.neg, .slice f.l.A f.l.n f.l.c]] w (TxtPost w (ftext p q)) := by
  have hO := Own.newF w 31 f
  have hB := below_new w (.cells #[.bool f.p.neg, .slice f.p.A f.p.n f.p.c, .bool f.l.neg, .slice f.l.A f.l.n f.l.c] 31)
  go_enter Tryz.func13, Tryz.ntmps13
  go_upto_region 1 with fail
  generalize w.alloc (.cells #[.bool f.p.neg, .slice f.p.A f.p.n f.p.c, .bool f.l.neg, .slice f.l.A f.l.n f.l.c] 31) = W at hO hB ⊢
  have hfW := hf.on hB
  have htW := ht.on hB
  have x2 := hO.c2
  have x3 := hO.c3
  go_wp2_with fail
  refine (sign_iv hfW.less).mono ?_
  rintro e w1 ⟨rfl, hb1⟩
  have hO1 := hO.on hb1
  have hf1 := hfW.on hb1
  have ht1 := htW.on hb1
  have hB1 := Below.call hB hb1
  clear x2 x3 hO hB hfW htW
  have hq := hf.pos
  rcases (by omega : q = 1 ∨ 1 < q) with h1 | h1
  · subst h1
    have hc : (cmpI (1 - 1) 0 == 0) = true := rfl
    have x0 := hO1.c0
    have x1 := hO1.c1
    go_wp2_with fail
    refine (string_iv hf1.num ht1).mono ?_
    rintro e w2 ⟨rfl, hb2⟩
    go_wp2_with fail
    go_ret
    exact ⟨by unfold ftext; rw [if_pos rfl]; rfl, Below.call hB1 hb2⟩
  · have hc : (cmpI (q - 1) 0 == 0) = false := by rw [cmpI_gt (by omega)]; rfl
    obtain ⟨sp, hsp⟩ : ∃ sp : ByteArray, sp = ⟨(Lib.itoa p).toArray⟩ := ⟨_, rfl⟩
    obtain ⟨sq, hsq⟩ : ∃ sq : ByteArray, sq = ⟨(Lib.itoa q).toArray⟩ := ⟨_, rfl⟩
    have hl1 : sp.size ≤ 10000 := by rw [hsp]; show ((Lib.itoa p).toArray).size ≤ _; simpa using itoa_len hf.num.fits
    have hl2 : sq.size ≤ 10000 := by rw [hsq]; show ((Lib.itoa q).toArray).size ≤ _; simpa using itoa_len hf.fits
    have hl3 : ¬ 9223372036854775807 < sp.size + 1 := by omega
    have hl4 : ¬ 9223372036854775807 ≤ sp.size := by omega
    have hl5 : ¬ 9223372036854775807 < sp.size + 1 + sq.size := by omega
    have hfin : Value.string (sp ++ ⟨#[47]⟩ ++ sq) = .string ⟨(ftext p q).toArray⟩ := by
      unfold ftext
      rw [if_neg (by omega), hsp, hsq]
      congr 1
      exact ByteArray.ext (by simp)
    have HSP := Lib.hid hsp
    have HSQ := Lib.hid hsq
    have HF := Lib.hid hfin
    clear hsp hsq hfin
    go_wp2_with fail
    go_region_held3 (fun w' => w'.cell? ⟨w.heap.size, 0, none⟩ = some (.bool f.p.neg) ∧ w'.cell? ⟨w.heap.size, 1, none⟩ = some (.slice f.p.A f.p.n f.p.c) ∧ w'.cell? ⟨w.heap.size, 2, none⟩ = some (.bool f.l.neg) ∧ w'.cell? ⟨w.heap.size, 3, none⟩ = some (.slice f.l.A f.l.n f.l.c))
      (first | with_reducible exact ⟨hO1.drew.c0, hO1.drew.c1, hO1.drew.c2, hO1.drew.c3⟩ | with_reducible exact ⟨hO2.c0, hO2.c1, hO2.c2, hO2.c3⟩ | with_reducible exact ⟨hO3.c0, hO3.c1, hO3.c2, hO3.c3⟩ | with_reducible exact ⟨hO4.c0, hO4.c1, hO4.c2, hO4.c3⟩)
      (first
        | (go_at_call 30; first
            | ((with_reducible refine (string_iv (x := f.p) hf1.num.of_drew (Tab.drew ht1)).mono ?_); rintro e w2 ⟨rfl, k2⟩; rw [← HSP.out]; have hO2 := hO1.drew.on k2; have hf2 := (FV.is.drew hf1).on k2; have ht2 := (Tab.drew ht1).on k2; have hB2 := Below.call (Below.drew hB1) k2)
            | ((with_reducible refine (string_iv (x := d) hd ht3).mono ?_); rintro e w4 ⟨rfl, k4⟩; rw [← HSQ.out]; have hO4 := hO3.on k4; have hB4 := Below.call hB3 k4))
        | (go_at_call 31; (with_reducible refine (Den_any hf2).mono ?_); rintro e w3 ⟨d, rfl, k3, hd⟩; have hO3 := hO2.on k3; have ht3 := ht2.on k3; have hB3 := Below.call hB2 k3))
    go_wp2_with fail
    go_ret
    exact ⟨congrArg Ending.returned HF.out, hB4⟩
end Go.Proofs.YtfbbnphpapmpcaaGreatDoor

/-
  (second part)
-/
namespace Go.Proofs.YtfbbnphpapmpcaaGreatDoor
open Go.RowKit Mag

theorem IV.is.fits_neg {x : IV} {w : World} {z : Int} (h : x.is w z) : (-z).natAbs < top := by rw [Int.natAbs_neg]; exact h.fits
theorem FV.is.neg {f : FV} {w : World} {p q : Int} (h : f.is w p q) {x : IV} (hx : x.is w (-p)) : FV.is ⟨x, f.l⟩ w (-p) q := ⟨hx, h.less, h.pos, h.fits, by rw [Int.neg_gcd]; exact h.cop⟩

/-- What Add's result is, without its ending. -/
def AddS (p q r s P Q err : Int) : Prop := (addOK p q r s ∧ P = mkP (p * s + r * q) (q * s) ∧ Q = mkQ (p * s + r * q) (q * s) ∧ err = 0) ∨ (¬ addOK p q r s ∧ P = 0 ∧ Q = 1 ∧ err = 4)
theorem AddL.open_ {w w' : World} {p q r s : Int} {e : Ending} (h : AddL w p q r s e w') : ∃ err f P Q, e = .returned (.tuple #[.agg #[.bool f.p.neg, .slice f.p.A f.p.n f.p.c, .bool f.l.neg, .slice f.l.A f.l.n f.l.c], .int .i64 err]) ∧ Below w.heap.size w w' ∧ FV.is f w' P Q ∧ AddS p q r s P Q err := by
  rcases h with ⟨h1, f, h2, h3, h4⟩ | ⟨h1, f, h2, h3, h4⟩
  · exact ⟨0, f, _, _, h2, h3, h4, .inl ⟨h1, rfl, rfl, rfl⟩⟩
  · exact ⟨4, f, _, _, h2, h3, h4, .inr ⟨h1, rfl, rfl, rfl⟩⟩
theorem AddL.of {w w' : World} {p q r s P Q err : Int} {e : Ending} (h : AddS p q r s P Q err) (hp : FracE w P Q err e w') : AddL w p q r s e w' := by
  rcases h with ⟨h1, rfl, rfl, rfl⟩ | ⟨h1, rfl, rfl, rfl⟩
  · exact .inl ⟨h1, hp⟩
  · exact .inr ⟨h1, hp⟩

end Go.Proofs.YtfbbnphpapmpcaaGreatDoor

/-
  (second part)
-/
namespace Go.Proofs.YtfbbnphpapmpcaaGreatDoor
open Go.RowKit Mag

def IsF (w : World) (v : Value) (P Q : Int) : Prop := ∃ f, v = .agg #[.bool f.p.neg, .slice f.p.A f.p.n f.p.c, .bool f.l.neg, .slice f.l.A f.l.n f.l.c] ∧ FV.is f w P Q
theorem IsF.on {w w' : World} {v : Value} {P Q : Int} (h : IsF w v P Q) (hb : Below w.heap.size w w') : IsF w' v P Q := by
  obtain ⟨f, e, hf⟩ := h
  exact ⟨f, e, hf.on hb⟩
theorem FV.is.put4 {f : FV} {w : World} {P Q : Int} (h : f.is w P Q) {g : Nat} {t : TypeId} {a b c d : Value} (hO : Own w g t [a, b, c, d]) (ha : ∀ n, a ≠ .int .u32 n) (hb : ∀ n, b ≠ .int .u32 n) (hc : ∀ n, c ≠ .int .u32 n) (hd : ∀ n, d ≠ .int .u32 n) (u v s r : Value) :
    f.is ((((w.setCell ⟨g, 0, none⟩ u).setCell ⟨g, 1, none⟩ v).setCell ⟨g, 2, none⟩ s).setCell ⟨g, 3, none⟩ r) P Q :=
  ⟨h.num.put4 hO ha hb hc hd u v s r, h.less.put4 hO ha hb hc hd u v s r, h.pos, h.fits, h.cop⟩
theorem IsF.put4 {w : World} {v : Value} {P Q : Int} (h : IsF w v P Q) {g : Nat} {t : TypeId} {a b c d : Value} (hO : Own w g t [a, b, c, d]) (ha : ∀ n, a ≠ .int .u32 n) (hb : ∀ n, b ≠ .int .u32 n) (hc : ∀ n, c ≠ .int .u32 n) (hd : ∀ n, d ≠ .int .u32 n) (u z s r : Value) :
    IsF ((((w.setCell ⟨g, 0, none⟩ u).setCell ⟨g, 1, none⟩ z).setCell ⟨g, 2, none⟩ s).setCell ⟨g, 3, none⟩ r) v P Q := by
  obtain ⟨f, e, hf⟩ := h
  exact ⟨f, e, hf.put4 hO ha hb hc hd u z s r⟩
theorem IsI.put4 {w : World} {v : Value} {z : Int} (h : IsI w v z) {g : Nat} {t : TypeId} {a b c d : Value} (hO : Own w g t [a, b, c, d]) (ha : ∀ n, a ≠ .int .u32 n) (hb : ∀ n, b ≠ .int .u32 n) (hc : ∀ n, c ≠ .int .u32 n) (hd : ∀ n, d ≠ .int .u32 n) (u y s r : Value) :
    IsI ((((w.setCell ⟨g, 0, none⟩ u).setCell ⟨g, 1, none⟩ y).setCell ⟨g, 2, none⟩ s).setCell ⟨g, 3, none⟩ r) v z := by
  obtain ⟨x, e, hx⟩ := h
  exact ⟨x, e, hx.put4 hO ha hb hc hd u y s r⟩
def IsFE (w : World) (v : Value) (P Q er : Int) : Prop := ∃ f, v = .tuple #[.agg #[.bool f.p.neg, .slice f.p.A f.p.n f.p.c, .bool f.l.neg, .slice f.l.A f.l.n f.l.c], .int .i64 er] ∧ FV.is f w P Q
theorem IsFE.on {w w' : World} {v : Value} {P Q er : Int} (h : IsFE w v P Q er) (hb : Below w.heap.size w w') : IsFE w' v P Q er := by
  obtain ⟨f, e, hf⟩ := h
  exact ⟨f, e, hf.on hb⟩
theorem IsFE.put4 {w : World} {v : Value} {P Q er : Int} (h : IsFE w v P Q er) {g : Nat} {t : TypeId} {a b c d : Value} (hO : Own w g t [a, b, c, d]) (ha : ∀ n, a ≠ .int .u32 n) (hb : ∀ n, b ≠ .int .u32 n) (hc : ∀ n, c ≠ .int .u32 n) (hd : ∀ n, d ≠ .int .u32 n) (u z s r : Value) :
    IsFE ((((w.setCell ⟨g, 0, none⟩ u).setCell ⟨g, 1, none⟩ z).setCell ⟨g, 2, none⟩ s).setCell ⟨g, 3, none⟩ r) v P Q er := by
  obtain ⟨f, e, hf⟩ := h
  exact ⟨f, e, hf.put4 hO ha hb hc hd u z s r⟩
/-- v points to a box of four cells in a block from W on; dn: it holds src. -/
def BoxAt4 (W w : World) (t : TypeId) (v : Value) (dn : Prop) (src : Value) : Prop :=
  ∃ g c0 c1 c2 c3, v = .pointer (some ⟨g, 0, none⟩) ∧ W.heap.size ≤ g ∧ Own w g t [c0, c1, c2, c3] ∧ (∀ n, c0 ≠ .int .u32 n) ∧ (∀ n, c1 ≠ .int .u32 n) ∧ (∀ n, c2 ≠ .int .u32 n) ∧ (∀ n, c3 ≠ .int .u32 n) ∧ (dn → src = .agg #[c0, c1, c2, c3])
section
variable {W w w' : World} {t : TypeId} {v src src' : Value} {dn dn' : Prop}
theorem BoxAt4.on (h : BoxAt4 W w t v dn src) (hb : Below w.heap.size w w') : BoxAt4 W w' t v dn src := by
  obtain ⟨g, c0, c1, c2, c3, h1, h2, h3, h4⟩ := h
  exact ⟨g, c0, c1, c2, c3, h1, h2, h3.on hb, h4⟩
theorem BoxAt4.imp (h : BoxAt4 W w t v dn src) (hd : dn' → dn) : BoxAt4 W w t v dn' src := by
  obtain ⟨g, c0, c1, c2, c3, h1, h2, h3, h4, h5, h6, h7, h8⟩ := h
  exact ⟨g, c0, c1, c2, c3, h1, h2, h3, h4, h5, h6, h7, fun x => h8 (hd x)⟩
theorem BoxAt4.resrc (h : BoxAt4 W w t v dn src) (hd : ¬ dn') : BoxAt4 W w t v dn' src' := by
  obtain ⟨g, c0, c1, c2, c3, h1, h2, h3, h4, h5, h6, h7, h8⟩ := h
  exact ⟨g, c0, c1, c2, c3, h1, h2, h3, h4, h5, h6, h7, fun x => absurd x hd⟩
theorem BoxAt4.new (hW : W.heap.size ≤ w.heap.size) (hd : ¬ dn) : BoxAt4 W (w.alloc (.cells #[.bool false, .slice none 0 0, .bool false, .slice none 0 0] t)) t (.pointer (some ⟨w.heap.size, 0, none⟩)) dn src :=
  ⟨_, _, _, _, _, rfl, hW, Own.new4 w t _ _ _ _, by simp, by simp, by simp, by simp, fun x => absurd x hd⟩
end
def IsBox4 (W w : World) (v : Value) (P Q : Int) : Prop := ∃ g f, v = .pointer (some ⟨g, 0, none⟩) ∧ W.heap.size ≤ g ∧ Own w g 31 [.bool f.p.neg, .slice f.p.A f.p.n f.p.c, .bool f.l.neg, .slice f.l.A f.l.n f.l.c] ∧ FV.is f w P Q
theorem IsBox4.of {W w : World} {v src : Value} {P Q : Int} {dn : Prop} (h : BoxAt4 W w 31 v dn src) (hd : dn) (hs : IsF w src P Q) : IsBox4 W w v P Q := by
  obtain ⟨g, c0, c1, c2, c3, h1, h2, h3, h4, h5, h6, h7, h8⟩ := h
  obtain ⟨f, e, hf⟩ := hs
  have h9 := (h8 hd).symm.trans e
  simp at h9
  obtain ⟨rfl, rfl, rfl, rfl⟩ := h9
  exact ⟨g, f, h1, h2, h3, hf⟩
/-- What Make gives, without its ending. -/
def MkS (p q P Q er : Int) : Prop := (q = 0 ∧ P = 0 ∧ Q = 1 ∧ er = 1) ∨ (q ≠ 0 ∧ P = mkP p q ∧ Q = mkQ p q ∧ er = 0)
theorem Make_b {x y : IV} {p q P Q er : Int} {W w : World} (hx : x.is w p) (hy : y.is w q) (hb : Below W.heap.size W w) (hs : MkS p q P Q er) : Calls Tryz.prog 41 #[.agg #[.bool x.neg, .slice x.A x.n x.c], .agg #[.bool y.neg, .slice y.A y.n y.c]] w fun e w' => ∃ v : Value, e = .returned v ∧ Below W.heap.size W w' ∧ Below w.heap.size w w' ∧ IsFE w' v P Q er := by
  rcases hs with ⟨h0, rfl, rfl, rfl⟩ | ⟨h0, rfl, rfl, rfl⟩
  · subst h0
    exact (Make_zero hx hy).mono (fun e w' ⟨f, h1, h2, h3⟩ => ⟨_, h1, Below.call hb h2, h2, f, rfl, h3⟩)
  · exact (Make_any hx hy h0).mono (fun e w' ⟨f, h1, h2, h3⟩ => ⟨_, h1, Below.call hb h2, h2, f, rfl, h3⟩)
theorem mk_turn {a b : Int} : mkP (-a) (-b) = mkP a b ∧ mkQ (-a) (-b) = mkQ a b := by
  unfold mkP mkQ
  rw [Int.neg_gcd, Int.gcd_neg, Int.natAbs_neg, Int.sign_neg, Int.neg_mul_neg]
  exact ⟨rfl, rfl⟩
theorem mk_scale2 {a b k : Int} (hk : 0 < k) : mkP (a * k) (b * k) = mkP a b ∧ mkQ (a * k) (b * k) = mkQ a b := by
  unfold mkP mkQ
  have hk0 : k ≠ 0 := by omega
  rw [Int.gcd_mul_right, Int.sign_mul, Int.sign_eq_one_of_pos hk, Int.mul_one, Int.natAbs_mul, Int.natCast_mul, Int.natCast_mul, Int.natAbs_of_nonneg (by omega : 0 ≤ k)]
  constructor
  · rw [← Int.mul_assoc, Int.mul_ediv_mul_of_pos_left _ _ hk]
  · rw [Int.mul_ediv_mul_of_pos_left _ _ hk]
theorem div_frac {p q r s : Int} (hr : r ≠ 0) : mkP (p * mkP s r) (q * mkQ s r) = mkP (p * s) (q * r) ∧ mkQ (p * mkP s r) (q * mkQ s r) = mkQ (p * s) (q * r) := by
  have g1 : 0 < Int.gcd s r := Int.gcd_pos_of_ne_zero_right _ hr
  have g2 : (0 : Int) < (Int.gcd s r : Nat) := by omega
  have a1 : ((Int.gcd s r : Nat) : Int) ∣ r.sign * s := Int.dvd_trans (Int.gcd_dvd_left s r) ⟨r.sign, Int.mul_comm _ _⟩
  have a2 : ((Int.gcd s r : Nat) : Int) ∣ (r.natAbs : Int) := Int.dvd_natAbs.mpr (Int.gcd_dvd_right s r)
  have e1 : mkP s r * (Int.gcd s r : Nat) = r.sign * s := Int.ediv_mul_cancel a1
  have e2 : mkQ s r * (Int.gcd s r : Nat) = (r.natAbs : Int) := Int.ediv_mul_cancel a2
  obtain ⟨m1, m2⟩ := mk_scale2 (a := p * mkP s r) (b := q * mkQ s r) g2
  rw [Int.mul_assoc, Int.mul_assoc, e1, e2] at m1 m2
  rw [← m1, ← m2]
  rcases Int.lt_or_gt_of_ne hr with h | h
  · rw [Int.sign_eq_neg_one_of_neg h, (by omega : (r.natAbs : Int) = -r), Int.neg_one_mul, Int.mul_neg, Int.mul_neg]
    exact mk_turn
  · rw [Int.sign_eq_one_of_pos h, Int.one_mul, (by omega : (r.natAbs : Int) = r)]
    exact ⟨rfl, rfl⟩
/-- What holds when the operations L of the region have come up. -/
structure DivR1 (L : Array Bool) (W : World) (f g : FV) (P Q er : Int) (s : Int) (b2 : Nat) (s9 s10 s11 s12 s13 s8 s14 s15 s6 s7 : Value) (w : World) : Prop where
  bel : Below W.heap.size W w
  p0 : done L 0 → s9 = .agg #[.bool g.p.neg, .slice g.p.A g.p.n g.p.c, .bool g.l.neg, .slice g.l.A g.l.n g.l.c]
  c1 : done L 1 → IsI w s10 s
  p2 : done L 2 → s11 = .pointer (some ⟨b2, 0, none⟩)
  p3 : done L 3 → s12 = .agg #[.bool g.p.neg, .slice g.p.A g.p.n g.p.c]
  c4 : done L 4 → IsFE w s13 P Q er
  c5 : done L 5 → IsFE w s8 P Q er
  c6 : done L 6 → IsF w s14 P Q
  p7 : done L 7 → s15 = .int .i64 er
  a8 : done L 8 → BoxAt4 W w 31 s6 (done L 9) s14
  e9 : done L 9 → done L 8 ∧ done L 6
  p10 : done L 10 → s7 = .int .i64 er
theorem DivR1.up {L : Array Bool} {W : World} {f g : FV} {P Q er : Int} {s : Int} {b2 : Nat} {s9 s10 s11 s12 s13 s8 s14 s15 s6 s7 : Value} {w : World} (h : DivR1 L W f g P Q er s b2 s9 s10 s11 s12 s13 s8 s14 s15 s6 s7 w) {w' : World} (hb : Below w.heap.size w w') : DivR1 L W f g P Q er s b2 s9 s10 s11 s12 s13 s8 s14 s15 s6 s7 w' :=
  ⟨Below.call h.bel hb, h.p0, fun d => (h.c1 d).on hb, h.p2, h.p3, fun d => (h.c4 d).on hb, fun d => (h.c5 d).on hb, fun d => (h.c6 d).on hb, h.p7, fun d => (h.a8 d).on hb, h.e9, h.p10⟩
theorem DivR1.set0 {L : Array Bool} {W : World} {f g : FV} {P Q er : Int} {s : Int} {b2 : Nat} {s9 s10 s11 s12 s13 s8 s14 s15 s6 s7 : Value} {w : World} (h : DivR1 L W f g P Q er s b2 s9 s10 s11 s12 s13 s8 s14 s15 s6 s7 w) (_hk : ¬ done L 0) {v : Value} (hv : v = .agg #[.bool g.p.neg, .slice g.p.A g.p.n g.p.c, .bool g.l.neg, .slice g.l.A g.l.n g.l.c]) : DivR1 (L.setIfInBounds 0 true) W f g P Q er s b2 v s10 s11 s12 s13 s8 s14 s15 s6 s7 w :=
  ⟨h.bel, fun _ => hv, fun d => h.c1 (done_set d (by decide)), fun d => h.p2 (done_set d (by decide)), fun d => h.p3 (done_set d (by decide)), fun d => h.c4 (done_set d (by decide)), fun d => h.c5 (done_set d (by decide)), fun d => h.c6 (done_set d (by decide)), fun d => h.p7 (done_set d (by decide)), fun d => (h.a8 (done_set d (by decide))).imp (fun x => done_set x (by decide)), fun d => ⟨done_up (h.e9 (done_set d (by decide))).1, done_up (h.e9 (done_set d (by decide))).2⟩, fun d => h.p10 (done_set d (by decide))⟩
theorem DivR1.set1 {L : Array Bool} {W : World} {f g : FV} {P Q er : Int} {s : Int} {b2 : Nat} {s9 s10 s11 s12 s13 s8 s14 s15 s6 s7 : Value} {w : World} (h : DivR1 L W f g P Q er s b2 s9 s10 s11 s12 s13 s8 s14 s15 s6 s7 w) (_hk : ¬ done L 1) {v : Value} (hv : IsI w v s) : DivR1 (L.setIfInBounds 1 true) W f g P Q er s b2 s9 v s11 s12 s13 s8 s14 s15 s6 s7 w :=
  ⟨h.bel, fun d => h.p0 (done_set d (by decide)), fun _ => hv, fun d => h.p2 (done_set d (by decide)), fun d => h.p3 (done_set d (by decide)), fun d => h.c4 (done_set d (by decide)), fun d => h.c5 (done_set d (by decide)), fun d => h.c6 (done_set d (by decide)), fun d => h.p7 (done_set d (by decide)), fun d => (h.a8 (done_set d (by decide))).imp (fun x => done_set x (by decide)), fun d => ⟨done_up (h.e9 (done_set d (by decide))).1, done_up (h.e9 (done_set d (by decide))).2⟩, fun d => h.p10 (done_set d (by decide))⟩
theorem DivR1.set2 {L : Array Bool} {W : World} {f g : FV} {P Q er : Int} {s : Int} {b2 : Nat} {s9 s10 s11 s12 s13 s8 s14 s15 s6 s7 : Value} {w : World} (h : DivR1 L W f g P Q er s b2 s9 s10 s11 s12 s13 s8 s14 s15 s6 s7 w) (_hk : ¬ done L 2) {v : Value} (hv : v = .pointer (some ⟨b2, 0, none⟩)) : DivR1 (L.setIfInBounds 2 true) W f g P Q er s b2 s9 s10 v s12 s13 s8 s14 s15 s6 s7 w :=
  ⟨h.bel, fun d => h.p0 (done_set d (by decide)), fun d => h.c1 (done_set d (by decide)), fun _ => hv, fun d => h.p3 (done_set d (by decide)), fun d => h.c4 (done_set d (by decide)), fun d => h.c5 (done_set d (by decide)), fun d => h.c6 (done_set d (by decide)), fun d => h.p7 (done_set d (by decide)), fun d => (h.a8 (done_set d (by decide))).imp (fun x => done_set x (by decide)), fun d => ⟨done_up (h.e9 (done_set d (by decide))).1, done_up (h.e9 (done_set d (by decide))).2⟩, fun d => h.p10 (done_set d (by decide))⟩
theorem DivR1.set3 {L : Array Bool} {W : World} {f g : FV} {P Q er : Int} {s : Int} {b2 : Nat} {s9 s10 s11 s12 s13 s8 s14 s15 s6 s7 : Value} {w : World} (h : DivR1 L W f g P Q er s b2 s9 s10 s11 s12 s13 s8 s14 s15 s6 s7 w) (_hk : ¬ done L 3) {v : Value} (hv : v = .agg #[.bool g.p.neg, .slice g.p.A g.p.n g.p.c]) : DivR1 (L.setIfInBounds 3 true) W f g P Q er s b2 s9 s10 s11 v s13 s8 s14 s15 s6 s7 w :=
  ⟨h.bel, fun d => h.p0 (done_set d (by decide)), fun d => h.c1 (done_set d (by decide)), fun d => h.p2 (done_set d (by decide)), fun _ => hv, fun d => h.c4 (done_set d (by decide)), fun d => h.c5 (done_set d (by decide)), fun d => h.c6 (done_set d (by decide)), fun d => h.p7 (done_set d (by decide)), fun d => (h.a8 (done_set d (by decide))).imp (fun x => done_set x (by decide)), fun d => ⟨done_up (h.e9 (done_set d (by decide))).1, done_up (h.e9 (done_set d (by decide))).2⟩, fun d => h.p10 (done_set d (by decide))⟩
theorem DivR1.set4 {L : Array Bool} {W : World} {f g : FV} {P Q er : Int} {s : Int} {b2 : Nat} {s9 s10 s11 s12 s13 s8 s14 s15 s6 s7 : Value} {w : World} (h : DivR1 L W f g P Q er s b2 s9 s10 s11 s12 s13 s8 s14 s15 s6 s7 w) (_hk : ¬ done L 4) {v : Value} (hv : IsFE w v P Q er) : DivR1 (L.setIfInBounds 4 true) W f g P Q er s b2 s9 s10 s11 s12 v s8 s14 s15 s6 s7 w :=
  ⟨h.bel, fun d => h.p0 (done_set d (by decide)), fun d => h.c1 (done_set d (by decide)), fun d => h.p2 (done_set d (by decide)), fun d => h.p3 (done_set d (by decide)), fun _ => hv, fun d => h.c5 (done_set d (by decide)), fun d => h.c6 (done_set d (by decide)), fun d => h.p7 (done_set d (by decide)), fun d => (h.a8 (done_set d (by decide))).imp (fun x => done_set x (by decide)), fun d => ⟨done_up (h.e9 (done_set d (by decide))).1, done_up (h.e9 (done_set d (by decide))).2⟩, fun d => h.p10 (done_set d (by decide))⟩
theorem DivR1.set5 {L : Array Bool} {W : World} {f g : FV} {P Q er : Int} {s : Int} {b2 : Nat} {s9 s10 s11 s12 s13 s8 s14 s15 s6 s7 : Value} {w : World} (h : DivR1 L W f g P Q er s b2 s9 s10 s11 s12 s13 s8 s14 s15 s6 s7 w) (_hk : ¬ done L 5) {v : Value} (hv : IsFE w v P Q er) : DivR1 (L.setIfInBounds 5 true) W f g P Q er s b2 s9 s10 s11 s12 s13 v s14 s15 s6 s7 w :=
  ⟨h.bel, fun d => h.p0 (done_set d (by decide)), fun d => h.c1 (done_set d (by decide)), fun d => h.p2 (done_set d (by decide)), fun d => h.p3 (done_set d (by decide)), fun d => h.c4 (done_set d (by decide)), fun _ => hv, fun d => h.c6 (done_set d (by decide)), fun d => h.p7 (done_set d (by decide)), fun d => (h.a8 (done_set d (by decide))).imp (fun x => done_set x (by decide)), fun d => ⟨done_up (h.e9 (done_set d (by decide))).1, done_up (h.e9 (done_set d (by decide))).2⟩, fun d => h.p10 (done_set d (by decide))⟩
theorem DivR1.set6 {L : Array Bool} {W : World} {f g : FV} {P Q er : Int} {s : Int} {b2 : Nat} {s9 s10 s11 s12 s13 s8 s14 s15 s6 s7 : Value} {w : World} (h : DivR1 L W f g P Q er s b2 s9 s10 s11 s12 s13 s8 s14 s15 s6 s7 w) (hk : ¬ done L 6) {v : Value} (hv : IsF w v P Q) : DivR1 (L.setIfInBounds 6 true) W f g P Q er s b2 s9 s10 s11 s12 s13 s8 v s15 s6 s7 w :=
  ⟨h.bel, fun d => h.p0 (done_set d (by decide)), fun d => h.c1 (done_set d (by decide)), fun d => h.p2 (done_set d (by decide)), fun d => h.p3 (done_set d (by decide)), fun d => h.c4 (done_set d (by decide)), fun d => h.c5 (done_set d (by decide)), fun _ => hv, fun d => h.p7 (done_set d (by decide)), fun d => (h.a8 (done_set d (by decide))).resrc (fun x => hk (h.e9 (done_set x (by decide))).2), fun d => ⟨done_up (h.e9 (done_set d (by decide))).1, done_up (h.e9 (done_set d (by decide))).2⟩, fun d => h.p10 (done_set d (by decide))⟩
theorem DivR1.set7 {L : Array Bool} {W : World} {f g : FV} {P Q er : Int} {s : Int} {b2 : Nat} {s9 s10 s11 s12 s13 s8 s14 s15 s6 s7 : Value} {w : World} (h : DivR1 L W f g P Q er s b2 s9 s10 s11 s12 s13 s8 s14 s15 s6 s7 w) (_hk : ¬ done L 7) {v : Value} (hv : v = .int .i64 er) : DivR1 (L.setIfInBounds 7 true) W f g P Q er s b2 s9 s10 s11 s12 s13 s8 s14 v s6 s7 w :=
  ⟨h.bel, fun d => h.p0 (done_set d (by decide)), fun d => h.c1 (done_set d (by decide)), fun d => h.p2 (done_set d (by decide)), fun d => h.p3 (done_set d (by decide)), fun d => h.c4 (done_set d (by decide)), fun d => h.c5 (done_set d (by decide)), fun d => h.c6 (done_set d (by decide)), fun _ => hv, fun d => (h.a8 (done_set d (by decide))).imp (fun x => done_set x (by decide)), fun d => ⟨done_up (h.e9 (done_set d (by decide))).1, done_up (h.e9 (done_set d (by decide))).2⟩, fun d => h.p10 (done_set d (by decide))⟩
theorem DivR1.set8 {L : Array Bool} {W : World} {f g : FV} {P Q er : Int} {s : Int} {b2 : Nat} {s9 s10 s11 s12 s13 s8 s14 s15 s6 s7 : Value} {w : World} (h : DivR1 L W f g P Q er s b2 s9 s10 s11 s12 s13 s8 s14 s15 s6 s7 w) (hk : ¬ done L 8) : DivR1 (L.setIfInBounds 8 true) W f g P Q er s b2 s9 s10 s11 s12 s13 s8 s14 s15 (.pointer (some ⟨w.heap.size, 0, none⟩)) s7 (w.alloc (.cells #[.bool false, .slice none 0 0, .bool false, .slice none 0 0] 31)) :=
  have h' := h.up (below_new w (.cells #[.bool false, .slice none 0 0, .bool false, .slice none 0 0] 31))
  ⟨h'.bel, fun d => h'.p0 (done_set d (by decide)), fun d => h'.c1 (done_set d (by decide)), fun d => h'.p2 (done_set d (by decide)), fun d => h'.p3 (done_set d (by decide)), fun d => h'.c4 (done_set d (by decide)), fun d => h'.c5 (done_set d (by decide)), fun d => h'.c6 (done_set d (by decide)), fun d => h'.p7 (done_set d (by decide)), fun _ => BoxAt4.new h.bel.size (fun x => hk (h.e9 (done_set x (by decide))).1), fun d => ⟨done_up (h.e9 (done_set d (by decide))).1, done_up (h.e9 (done_set d (by decide))).2⟩, fun d => h'.p10 (done_set d (by decide))⟩
theorem DivR1.set9 {L : Array Bool} {W : World} {f g : FV} {P Q er : Int} {s : Int} {b2 : Nat} {s9 s10 s11 s12 s13 s8 s14 s15 s6 s7 : Value} {w : World} (h : DivR1 L W f g P Q er s b2 s9 s10 s11 s12 s13 s8 s14 s15 s6 s7 w) (da : done L 8) (ds : done L 6) {x : FV} {gb : Nat} {c0 c1 c2 c3 : Value} (es : s6 = .pointer (some ⟨gb, 0, none⟩)) (ex : s14 = .agg #[.bool x.p.neg, .slice x.p.A x.p.n x.p.c, .bool x.l.neg, .slice x.l.A x.l.n x.l.c]) (hgb : W.heap.size ≤ gb) (hO : Own w gb 31 [c0, c1, c2, c3]) (h0 : ∀ n, c0 ≠ .int .u32 n) (h1 : ∀ n, c1 ≠ .int .u32 n) (h2 : ∀ n, c2 ≠ .int .u32 n) (h3 : ∀ n, c3 ≠ .int .u32 n) :
    DivR1 (L.setIfInBounds 9 true) W f g P Q er s b2 s9 s10 s11 s12 s13 s8 s14 s15 s6 s7 ((((w.setCell ⟨gb, 0, none⟩ (.bool x.p.neg)).setCell ⟨gb, 1, none⟩ (.slice x.p.A x.p.n x.p.c)).setCell ⟨gb, 2, none⟩ (.bool x.l.neg)).setCell ⟨gb, 3, none⟩ (.slice x.l.A x.l.n x.l.c)) :=
  ⟨Below.put4 h.bel hgb _ _ _ _, fun d => h.p0 (done_set d (by decide)), fun d => (h.c1 (done_set d (by decide))).put4 hO h0 h1 h2 h3 _ _ _ _, fun d => h.p2 (done_set d (by decide)), fun d => h.p3 (done_set d (by decide)), fun d => (h.c4 (done_set d (by decide))).put4 hO h0 h1 h2 h3 _ _ _ _, fun d => (h.c5 (done_set d (by decide))).put4 hO h0 h1 h2 h3 _ _ _ _, fun d => (h.c6 (done_set d (by decide))).put4 hO h0 h1 h2 h3 _ _ _ _, fun d => h.p7 (done_set d (by decide)), fun _ => ⟨gb, _, _, _, _, es, hgb, hO.put4 _ _ _ _, by simp, by simp, by simp, by simp, fun _ => ex⟩, fun _ => ⟨done_up da, done_up ds⟩, fun d => h.p10 (done_set d (by decide))⟩
theorem DivR1.set10 {L : Array Bool} {W : World} {f g : FV} {P Q er : Int} {s : Int} {b2 : Nat} {s9 s10 s11 s12 s13 s8 s14 s15 s6 s7 : Value} {w : World} (h : DivR1 L W f g P Q er s b2 s9 s10 s11 s12 s13 s8 s14 s15 s6 s7 w) (_hk : ¬ done L 10) {v : Value} (hv : v = .int .i64 er) : DivR1 (L.setIfInBounds 10 true) W f g P Q er s b2 s9 s10 s11 s12 s13 s8 s14 s15 s6 v w :=
  ⟨h.bel, fun d => h.p0 (done_set d (by decide)), fun d => h.c1 (done_set d (by decide)), fun d => h.p2 (done_set d (by decide)), fun d => h.p3 (done_set d (by decide)), fun d => h.c4 (done_set d (by decide)), fun d => h.c5 (done_set d (by decide)), fun d => h.c6 (done_set d (by decide)), fun d => h.p7 (done_set d (by decide)), fun d => (h.a8 (done_set d (by decide))).imp (fun x => done_set x (by decide)), fun d => ⟨done_up (h.e9 (done_set d (by decide))).1, done_up (h.e9 (done_set d (by decide))).2⟩, fun _ => hv⟩
theorem DivR1.start {W : World} {f g : FV} {P Q er : Int} {s : Int} {b2 : Nat} {s9 s10 s11 s12 s13 s8 s14 s15 s6 s7 : Value} : DivR1 (Array.replicate 11 false) W f g P Q er s b2 s9 s10 s11 s12 s13 s8 s14 s15 s6 s7 W.drew :=
  ⟨Below.drew (Below.refl _ _), fun d => absurd d (done_none _ _), fun d => absurd d (done_none _ _), fun d => absurd d (done_none _ _), fun d => absurd d (done_none _ _), fun d => absurd d (done_none _ _), fun d => absurd d (done_none _ _), fun d => absurd d (done_none _ _), fun d => absurd d (done_none _ _), fun d => absurd d (done_none _ _), fun d => absurd d (done_none _ _), fun d => absurd d (done_none _ _)⟩
/-- The same of a frame. -/
def DivR1J (W : World) (f g : FV) (P Q er : Int) (s : Int) (b2 : Nat) (b1 b3 : Nat) (L : Array Bool) (ac : Act) (wx : World) : Prop := ∃ s9 s10 s11 s12 s13 s8 s14 s15 s6 s7 : Value, ac = { tmps := #[.agg #[.bool f.p.neg, .slice f.p.A f.p.n f.p.c, .bool f.l.neg, .slice f.l.A f.l.n f.l.c], .agg #[.bool g.p.neg, .slice g.p.A g.p.n g.p.c, .bool g.l.neg, .slice g.l.A g.l.n g.l.c], .pointer (some ⟨b1, 0, none⟩), .pointer (some ⟨b2, 0, none⟩), .pointer (some ⟨b3, 0, none⟩), .int .i64 0, s6, s7, s8, s9, s10, s11, s12, s13, s14, s15, undef, undef, undef, undef, undef, undef, undef, undef, undef], defers := [] } ∧ L.size = 11 ∧ DivR1 L W f g P Q er s b2 s9 s10 s11 s12 s13 s8 s14 s15 s6 s7 wx

def DivL (w : World) (p q r s : Int) (e : Ending) (w' : World) : Prop := (r = 0 ∧ FracE w 0 1 1 e w') ∨ (r ≠ 0 ∧ FracL w (mkP (p * s) (q * r)) (mkQ (p * s) (q * r)) e w')

set_option maxRecDepth 100000 in
set_option maxHeartbeats 3200000 in
theorem DivF_any {f g : FV} {p q r s : Int} {w : World} (hf : f.is w p q) (hg : g.is w r s) : Calls Tryz.prog 45 #[.agg #[.bool f.p.neg, .slice f.p.A f.p.n f.p.c, .bool f.l.neg, .slice f.l.A f.l.n f.l.c], .agg #[.bool g.p.neg, .slice g.p.A g.p.n g.p.c, .bool g.l.neg, .slice g.l.A g.l.n g.l.c]] w (DivL w p q r s) := by
  go_enter Tryz.func45, Tryz.ntmps45
  have hS := TwoSt.start hf hg
  go_upto_region 1 with fail
  generalize ((w.alloc (.cells #[.bool f.p.neg, .slice f.p.A f.p.n f.p.c, .bool f.l.neg, .slice f.l.A f.l.n f.l.c] 31)).alloc (.cells #[.bool g.p.neg, .slice g.p.A g.p.n g.p.c, .bool g.l.neg, .slice g.l.A g.l.n g.l.c] 31)).alloc (.cells #[.bool false, .slice none 0 0, .bool false, .slice none 0 0] 31) = W at hS ⊢
  obtain ⟨b1, hb1⟩ : ∃ b1, b1 = w.heap.size := ⟨_, rfl⟩
  obtain ⟨b2, hb2⟩ : ∃ b2, b2 = w.heap.size + 1 := ⟨_, rfl⟩
  obtain ⟨b3, hb3⟩ : ∃ b3, b3 = w.heap.size + 1 + 1 := ⟨_, rfl⟩
  have hS1 := hS.of_
  have hS2 := hS.og
  have hS3 := hS.oz
  rw [← hb1] at hS1
  rw [← hb2] at hS2
  rw [← hb3] at hS3
  rw [← hb3, ← hb2, ← hb1]
  have hfW := hS.if_
  have hgW := hS.ig
  have hBW := hS.bel
  have hw3 : w.heap.size ≤ b3 := by omega
  clear hS hb1 hb2 hb3
  obtain ⟨P, Q, er, hM⟩ : ∃ P Q er, MkS s r P Q er := by
    by_cases h0 : r = 0
    · exact ⟨_, _, _, .inl ⟨h0, rfl, rfl, rfl⟩⟩
    · exact ⟨_, _, _, .inr ⟨h0, rfl, rfl, rfl⟩⟩
  have HM := Lib.hid hM
  clear hM
  go_cut [6, 7] (fun s6 s7 wx => IsBox4 W wx s6 P Q ∧ s7 = .int .i64 er ∧ Below W.heap.size W wx)
  case first =>
    refine region_inv (by kernel_rfl) (DivR1J W f g P Q er s b2 b1 b3) ?_ ?_ ?_
    · exact ⟨_, _, _, _, _, _, _, _, _, _, rfl, by simp, DivR1.start⟩
    · intro L a wx i hJ hi
      obtain ⟨hlt, hnd, hdep⟩ := ready_spec hi
      obtain ⟨s9, s10, s11, s12, s13, s8, s14, s15, s6, s7, rfl, hsz, h⟩ := hJ
      have hlt2 : i < 11 := hlt
      clear hi hlt
      rcases (by omega : i = 0 ∨ i = 1 ∨ i = 2 ∨ i = 3 ∨ i = 4 ∨ i = 5 ∨ i = 6 ∨ i = 7 ∨ i = 8 ∨ i = 9 ∨ i = 10) with rfl | rfl | rfl | rfl | rfl | rfl | rfl | rfl | rfl | rfl | rfl
      · have l0 := (hS2.on h.bel).c0
        have l1 := (hS2.on h.bel).c1
        have l2 := (hS2.on h.bel).c2
        have l3 := (hS2.on h.bel).c3
        clear hdep
        refine wpOp_step rfl (fun K hK => ?_)
        go_wp2_with fail
        exact ⟨_, _, _, _, _, _, _, _, _, _, rfl, by simp [hsz], h.set0 hnd rfl⟩
      · have d0 : done L 0 := hdep _ rfl { on := 0, ground := Ground.data } (by simp) rfl
        have e0 := h.p0 d0
        subst e0
        clear hdep
        refine wpOp_step rfl (fun K hK => ?_)
        go_wp2_with fail
        refine (Den_b (f := g) hgW h.bel).mono ?_
        rintro e v ⟨r1, rfl, j, k, hr⟩
        go_wp2_with fail
        exact ⟨_, _, _, _, _, _, _, _, _, _, rfl, by simp [hsz], (h.up k).set1 hnd ⟨r1, rfl, hr⟩⟩
      · clear hdep
        refine wpOp_step rfl (fun K hK => ?_)
        go_wp2_with fail
        exact ⟨_, _, _, _, _, _, _, _, _, _, rfl, by simp [hsz], h.set2 hnd rfl⟩
      · have d2 : done L 2 := hdep _ rfl { on := 2, ground := Ground.data } (by simp) rfl
        have e2 := h.p2 d2
        subst e2
        have l0 := (hS2.on h.bel).c0
        have l1 := (hS2.on h.bel).c1
        clear hdep
        refine wpOp_step rfl (fun K hK => ?_)
        go_wp2_with fail
        exact ⟨_, _, _, _, _, _, _, _, _, _, rfl, by simp [hsz], h.set3 hnd rfl⟩
      · have d1 : done L 1 := hdep _ rfl { on := 1, ground := Ground.data } (by simp) rfl
        have d3 : done L 3 := hdep _ rfl { on := 3, ground := Ground.data } (by simp) rfl
        obtain ⟨x1, e1, hx1⟩ := h.c1 d1
        have e3 := h.p3 d3
        subst e1
        subst e3
        clear hdep
        refine wpOp_step rfl (fun K hK => ?_)
        go_wp2_with fail
        refine (Make_b hx1 (hgW.num.on h.bel) h.bel HM.out).mono ?_
        rintro e v ⟨v, rfl, j, k, hr⟩
        go_wp2_with fail
        exact ⟨_, _, _, _, _, _, _, _, _, _, rfl, by simp [hsz], (h.up k).set4 hnd hr⟩
      · have d4 : done L 4 := hdep _ rfl { on := 4, ground := Ground.data } (by simp) rfl
        obtain ⟨x4, e4, hx4⟩ := h.c4 d4
        subst e4
        clear hdep
        refine wpOp_step rfl (fun K hK => ?_)
        go_wp2_with fail
        exact ⟨_, _, _, _, _, _, _, _, _, _, rfl, by simp [hsz], h.set5 hnd ⟨x4, rfl, hx4⟩⟩
      · have d5 : done L 5 := hdep _ rfl { on := 5, ground := Ground.data } (by simp) rfl
        obtain ⟨x5, e5, hx5⟩ := h.c5 d5
        subst e5
        clear hdep
        refine wpOp_step rfl (fun K hK => ?_)
        go_wp2_with fail
        exact ⟨_, _, _, _, _, _, _, _, _, _, rfl, by simp [hsz], h.set6 hnd ⟨x5, rfl, hx5⟩⟩
      · have d5 : done L 5 := hdep _ rfl { on := 5, ground := Ground.data } (by simp) rfl
        obtain ⟨x5, e5, hx5⟩ := h.c5 d5
        subst e5
        clear hdep
        refine wpOp_step rfl (fun K hK => ?_)
        go_wp2_with fail
        exact ⟨_, _, _, _, _, _, _, _, _, _, rfl, by simp [hsz], h.set7 hnd rfl⟩
      · clear hdep
        refine wpOp_step rfl (fun K hK => ?_)
        go_wp2_with fail
        exact ⟨_, _, _, _, _, _, _, _, _, _, rfl, by simp [hsz], h.set8 hnd⟩
      · have d8 : done L 8 := hdep _ rfl { on := 8, ground := Ground.data } (by simp) rfl
        have d6 : done L 6 := hdep _ rfl { on := 6, ground := Ground.data } (by simp) rfl
        obtain ⟨gb, c0, c1, c2, c3, es, hgb, hO, h0, h1, h2, h3, _⟩ := h.a8 d8
        obtain ⟨x, ex, _⟩ := h.c6 d6
        have hn := h.set9 d8 d6 es ex hgb hO h0 h1 h2 h3
        have z0 := hO.c0
        have z1 := hO.c1
        have z2 := hO.c2
        have z3 := hO.c3
        have f0 := hO.frozen 0
        have f1 := hO.frozen 1
        have f2 := hO.frozen 2
        have f3 := hO.frozen 3
        have HN := Lib.hid hn
        clear hn hdep
        subst es ex
        refine wpOp_step rfl (fun K hK => ?_)
        go_wp2_with fail
        exact ⟨_, _, _, _, _, _, _, _, _, _, rfl, by simp [hsz], HN.out⟩
      · have d7 : done L 7 := hdep _ rfl { on := 7, ground := Ground.data } (by simp) rfl
        have e7 := h.p7 d7
        subst e7
        clear hdep
        refine wpOp_step rfl (fun K hK => ?_)
        go_wp2_with fail
        exact ⟨_, _, _, _, _, _, _, _, _, _, rfl, by simp [hsz], h.set10 hnd rfl⟩
    · intro L a wx hJ hr
      obtain ⟨s9, s10, s11, s12, s13, s8, s14, s15, s6, s7, rfl, hsz, h⟩ := hJ
      have D := all_done hr hsz (by kernel_rfl)
      have D2 : ∀ k, k < 11 → done L k := D
      clear D
      have B6 := IsBox4.of (h.a8 (D2 8 (by omega))) (D2 9 (by omega)) (h.c6 (D2 6 (by omega)))
      have e7 := h.p10 (D2 10 (by omega))
      have hbw := h.bel
      clear h D2
      go_wp2_with fail
      go_meet
      exact ⟨B6, e7, hbw⟩
  case rest =>
    obtain ⟨⟨g6, x, rfl, l6, hO6, hx⟩, rfl, hbw⟩ := hcut
    have hS1 := hS1.on hbw
    have hS3 := hS3.on hbw
    have hfW := hfW.on hbw
    have hB2 := Below.call hBW hbw
    have z0 := hS3.c0
    have z10 := hS3.c1
    have z20 := hS3.c2
    have z30 := hS3.c3
    have f0 := hS3.frozen 0
    have f1 := hS3.frozen 1
    have f2 := hS3.frozen 2
    have f3 := hS3.frozen 3
    clear hbw hBW l6
    rcases HM.out with ⟨h0, h1, h2, h3⟩ | ⟨h0, h1, h2, h3⟩
    · rw [h3]
      have hp := put_frac (err := 1) hB2 hw3 hS3 (by simp) (by simp) (by simp) (by simp) (FV.zero_is wc)
      have hO5 := hS3.put4 (.bool false) (.slice none 0 0) (.bool false) (.slice none 0 0)
      have q0 := hO5.c0
      have q1 := hO5.c1
      have q2 := hO5.c2
      have q3 := hO5.c3
      have HP : Hid (DivL w p q r s (.returned (.tuple #[.agg #[.bool false, .slice none 0 0, .bool false, .slice none 0 0], .int .i64 1])) _) := Lib.hid (.inl ⟨h0, hp⟩)
      clear hp hO5 h1 h2 h3
      go_wp2
      exact bodyPost_ret (v := .tuple #[.agg #[.bool false, .slice none 0 0, .bool false, .slice none 0 0], .int .i64 1]) (by simp [results, Tryz.results45, go_sem, q0, q1, q2, q3]) rfl HP.out
    · rw [h3]
      have k0 := hS1.c0
      have k1 := hS1.c1
      have k2 := hS1.c2
      have k3 := hS1.c3
      have y0 := hO6.c0
      have y1 := hO6.c1
      have y2 := hO6.c2
      have y3 := hO6.c3
      have H1 := Lib.hid h1
      have H2 := Lib.hid h2
      clear h1 h2 h3 z0 z10 z20 z30 f0 f1 f2 f3
      go_wp2_with fail
      refine (Mul_frac hfW hx).mono ?_
      rintro e w3 hmul
      have hmul2 : ∃ err f' P' Q', e = .returned (.tuple #[.agg #[.bool f'.p.neg, .slice f'.p.A f'.p.n f'.p.c, .bool f'.l.neg, .slice f'.l.A f'.l.n f'.l.c], .int .i64 err]) ∧ Below wc.heap.size wc w3 ∧ FV.is f' w3 P' Q' ∧ (∀ wz, FracE w P' Q' err (.returned (.tuple #[.agg #[.bool f'.p.neg, .slice f'.p.A f'.p.n f'.p.c, .bool f'.l.neg, .slice f'.l.A f'.l.n f'.l.c], .int .i64 err])) wz → DivL w p q r s (.returned (.tuple #[.agg #[.bool f'.p.neg, .slice f'.p.A f'.p.n f'.p.c, .bool f'.l.neg, .slice f'.l.A f'.l.n f'.l.c], .int .i64 err])) wz) := by
        obtain ⟨d1, d2⟩ := div_frac (p := p) (q := q) (s := s) h0
        rw [H1.out, H2.out, d1, d2] at hmul
        rcases hmul with ⟨i1, f', i2, i3, i4⟩ | ⟨i1, f', i2, i3, i4⟩
        · exact ⟨0, f', _, _, i2, i3, i4, fun wz hz => .inr ⟨h0, .inl ⟨i1, hz⟩⟩⟩
        · exact ⟨4, f', _, _, i2, i3, i4, fun wz hz => .inr ⟨h0, .inr ⟨i1, hz⟩⟩⟩
      clear hmul
      obtain ⟨err, f', P', Q', rfl, hb5, hf', hend⟩ := hmul2
      have oz := hS3.on hb5
      have hB5 := Below.call hB2 hb5
      have z0 := oz.c0
      have z10 := oz.c1
      have z20 := oz.c2
      have z30 := oz.c3
      have f0 := oz.frozen 0
      have f1 := oz.frozen 1
      have f2 := oz.frozen 2
      have f3 := oz.frozen 3
      have hp := put_frac (err := err) hB5 hw3 oz (by simp) (by simp) (by simp) (by simp) hf'
      have hO5 := oz.put4 (.bool f'.p.neg) (.slice f'.p.A f'.p.n f'.p.c) (.bool f'.l.neg) (.slice f'.l.A f'.l.n f'.l.c)
      have q0 := hO5.c0
      have q1 := hO5.c1
      have q2 := hO5.c2
      have q3 := hO5.c3
      have HP := Lib.hid (hend _ hp)
      clear hp hO5 hend
      go_wp2
      exact bodyPost_ret (v := .tuple #[.agg #[.bool f'.p.neg, .slice f'.p.A f'.p.n f'.p.c, .bool f'.l.neg, .slice f'.l.A f'.l.n f'.l.c], .int .i64 err]) (by simp [results, Tryz.results45, go_sem, q0, q1, q2, q3]) rfl HP.out
end Go.Proofs.YtfbbnphpapmpcaaGreatDoor
