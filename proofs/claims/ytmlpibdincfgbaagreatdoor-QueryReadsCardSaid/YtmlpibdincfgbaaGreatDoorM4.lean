/-
  Chapter 38's reference: region.
-/
import Derived.Test.YtmlpibdincfgbaaGreatDoorM3
import Derived.Test.YtmlpibdincfgbaaGreatDoorK15
namespace Qy
/-! ### No reading function gives tokens back -/
theorem adv_le (s : St) : (adv s).1.length ≤ s.1.length := stp_le s.1
theorem failS_le (e : Int) (s : St) : (failS e s).1.length ≤ s.1.length := by
 unfold failS
 split <;> exact Nat.le_refl _
theorem needS_le (t : Bs) (s : St) : (needS t s).1.length ≤ s.1.length := by
 unfold needS
 split
 ·split
  ·exact Nat.le_refl _
  ·exact adv_le s
 ·exact failS_le 2 s
theorem numS_le (lo hi : Int) (s : St) : (numS lo hi s).2.1.length ≤ s.1.length := by
 unfold numS
 split
 ·split
  ·exact adv_le s
  ·exact failS_le 5 s
 ·exact failS_le 2 s
theorem pointS_le (x y : Int) (s : St) : (pointS x y s).2.1.length ≤ s.1.length := by
 unfold pointS
 exact Nat.le_trans (numS_le _ _ _) (Nat.le_trans (needS_le _ _) (numS_le _ _ _))
theorem nameS_le (s : St) : (nameS s).2.1.length ≤ s.1.length := by
 unfold nameS
 split
 ·exact failS_le 2 s
 split
 ·exact failS_le 6 s
 ·exact adv_le s
structure Lens (f : Nat) : Prop where
 reg : ∀ s, (rReg f s).2.1.length ≤ s.1.length
 join : ∀ op acc s, (rJoin f op acc s).2.1.length ≤ s.1.length
 kids : ∀ s, (rKids f s).2.1.length ≤ s.1.length
 more : ∀ acc s, (rMore f acc s).2.1.length ≤ s.1.length
 item : ∀ s, (rItem f s).2.1.length ≤ s.1.length
theorem lens : ∀ f, Lens f
 | 0 => ⟨fun s => by rw [rReg]; exact Nat.le_refl _, fun _ _ s => by rw [rJoin]; exact Nat.le_refl _, fun s => by rw [rKids]; exact Nat.le_refl _, fun _ s => by rw [rMore]; exact Nat.le_refl _, fun s => by rw [rItem]; exact Nat.le_refl _⟩
 | f + 1 => by
  have IH := lens f
  refine ⟨fun s => ?_, fun op acc s => ?_, fun s => ?_, fun acc s => ?_, fun s => ?_⟩
  ·rw [rReg]
   split
   ·exact Nat.le_trans (IH.join _ _ _) (IH.item s)
   ·exact IH.item s
  ·rw [rJoin]
   split
   ·exact Nat.le_trans (IH.join _ _ _) (Nat.le_trans (IH.item _) (adv_le s))
   ·exact Nat.le_refl _
  ·rw [rKids]
   simp only
   split
   ·exact Nat.le_trans (adv_le _) (needS_le _ s)
   ·exact Nat.le_trans (IH.more _ _) (Nat.le_trans (IH.reg _) (needS_le _ s))
  ·rw [rMore]
   split
   ·exact Nat.le_trans (IH.more _ _) (Nat.le_trans (IH.reg _) (adv_le s))
   ·exact needS_le _ s
  ·rw [rItem]
   repeat' split
   ·exact Nat.le_trans (needS_le _ _) (Nat.le_trans (IH.reg _) (adv_le s))
   ·exact adv_le s
   ·exact Nat.le_trans (nameS_le _) (adv_le s)
   ·exact Nat.le_trans (pointS_le _ _ _) (adv_le s)
   ·exact Nat.le_trans (pointS_le _ _ _) (Nat.le_trans (needS_le _ _) (Nat.le_trans (pointS_le _ _ _) (adv_le s)))
   ·exact Nat.le_trans (IH.kids _) (adv_le s)
   ·exact Nat.le_trans (IH.kids _) (adv_le s)
   ·exact Nat.le_trans (IH.item _) (adv_le s)
   ·exact failS_le 2 s
/-- The fuel is enough. -/
def FOK (k f : Nat) (s : St) : Prop := k ≤ f ∧ (s.2 = none → 3 * s.1.length + k ≤ f)
/-- A token that is there is gone behind it. -/
theorem adv_lt {s : St} (hg : Good s.1) (hne : see s ≠ []) (hn : see s ≠ [32]) : s.2 = none ∧ (adv s).2 = none ∧ (adv s).1.length < s.1.length := by
 obtain ⟨h1, h2⟩ := see_none hn
 exact ⟨h1, h1, hg.stp_lt (by rw [← h2]; exact hne)⟩
theorem item_none {f : Nat} {s : St} (h : (rItem f s).2.2 = none) : s.2 = none := by
 obtain ⟨l, o⟩ := s
 cases o with
 | none => rfl
 | some b => rw [rItem_bad] at h; cases h
theorem reg_none {f : Nat} {s : St} (h : (rReg f s).2.2 = none) : s.2 = none := by
 obtain ⟨l, o⟩ := s
 cases o with
 | none => rfl
 | some b => rw [rReg_bad] at h; cases h
end Qy
namespace Go.Proofs.YtmlpibdincfgbaaGreatDoor
open Go.RowKit
set_option linter.unusedSimpArgs false
set_option linter.unusedVariables false

theorem reg_infoF : (Tryz.prog.info? 32).map (fun i => (i.zero, i.size, i.bytes)) = some (some (.agg #[.int .i64 0, .string ⟨#[]⟩, .int .i64 0, .int .i64 0, .int .i64 0, .int .i64 0, .int .i64 0, .int .i64 0, .slice none 0 0]), 9, 96) := by kernel_rfl
/-- The contracts of the reference's readers, with f as fuel. -/
def RegF (B r f : Nat) : Prop := ∀ s w, RfAt B r s w → Qy.FOK 2 f s → Calls Tryz.prog 41 #[.pointer (some ⟨r, 0, none⟩)] w (EndF B r w (Qy.rReg f s) (regV w))
def KidsF (B r f : Nat) : Prop := ∀ s w, RfAt B r s w → Qy.FOK 1 f s → s.2 = none → Calls Tryz.prog 118 #[.pointer (some ⟨r, 0, none⟩)] w (EndF B r w (Qy.rKids f s) (listV w))
def ItemF (B r f : Nat) : Prop := ∀ s w, RfAt B r s w → Qy.FOK 1 f s → Calls Tryz.prog 79 #[.pointer (some ⟨r, 0, none⟩)] w (EndF B r w (Qy.rItem f s) (regV w))
theorem RfAt.short {B r : Nat} {s : Qy.St} {w : World} (h : RfAt B r s w) : s.1.length ≤ 5000 := by
 obtain ⟨_, _, _, all, i, A, c, a, b, e1, hl, _⟩ := h
 rw [← e1, List.length_drop]
 omega
def sReg5F (N : Nat → Prop) (acc : List Qy.Reg) (RI : Qy.Res Qy.Reg) : SpecE := sE fun v w => ∃ x : Value, v = x ∧ ∃ R l3 A c, x = .slice A (acc.length + 1) c ∧ RI = .ok R l3 ∧ KRow 32 N w x (acc ++ [R])
structure JF (B r g2 g5 : Nat) (KK : Int) (N : Nat → Prop) (w wi : World) (A : Option Addr) (c : Nat) (acc : List Qy.Reg) (s2 s3 : Qy.St) (D : Nat → Prop) (wz : World) : Prop where
 at1 : At1 r w wz
 sz : wi.heap.size ≤ wz.heap.size
 o2 : Own wz g2 32 [.int .i64 0, .string ⟨#[]⟩, .int .i64 0, .int .i64 0, .int .i64 0, .int .i64 0, .int .i64 0, .int .i64 0, .slice none 0 0]
 o5 : Own wz g5 32 [.int .i64 KK, .string ⟨#[]⟩, .int .i64 0, .int .i64 0, .int .i64 0, .int .i64 0, .int .i64 0, .int .i64 0, .slice A acc.length c]
 row : ¬ D 5 → KRow 32 N wz (.slice A acc.length c) acc
 rd : ¬ D 3 → RfAt B r s2 wz
 rd3 : D 3 → RfAt B r s3 wz
section
variable {B r g2 g5 : Nat} {KK : Int} {N : Nat → Prop} {w wi : World} {A : Option Addr} {c : Nat} {acc : List Qy.Reg} {s2 s3 : Qy.St} {D : Nat → Prop} {wz wy : World} {i : Nat}
theorem JF.on (h : JF B r g2 g5 KK N w wi A c acc s2 s3 D wz) (k : Below wz.heap.size wz wy) (h3 : i ≠ 3) (_ : i ≠ 5) : JF B r g2 g5 KK N w wi A c acc s2 s3 (fun k => D k ∨ k = i) wy :=
 ⟨h.at1.trans (At1.of_below k), Nat.le_trans h.sz k.size, h.o2.on k, h.o5.on k, fun hn => (h.row fun hd => hn (.inl hd)).on k, fun hn => (h.rd fun hd => hn (.inl hd)).on k, fun hd => by
  rcases hd with hd | hd
  ·exact (h.rd3 hd).on k
  ·exact absurd hd.symm h3⟩
theorem JF.pure (h : JF B r g2 g5 KK N w wi A c acc s2 s3 D wz) (h3 : i ≠ 3) (h5 : i ≠ 5) : JF B r g2 g5 KK N w wi A c acc s2 s3 (fun k => D k ∨ k = i) wz := h.on (Below.refl _ _) h3 h5
theorem JF.call (h : JF B r g2 g5 KK N w wi A c acc s2 s3 D wz) (k : At1 r wz wy) (hrd : RfAt B r s3 wy) (hN : ¬ N r) (hg2 : g2 ≠ r) (hg5 : g5 ≠ r) : JF B r g2 g5 KK N w wi A c acc s2 s3 (fun k => D k ∨ k = 3) wy :=
 ⟨h.at1.trans k, Nat.le_trans h.sz k.size, h.o2.at1 k hg2, h.o5.at1 k hg5, fun hn => (h.row fun hd => hn (.inl hd)).at1 k hN, fun hn => absurd (.inr rfl) hn, fun _ => hrd⟩
theorem JF.push (h : JF B r g2 g5 KK N w wi A c acc s2 s3 D wz) (k : wz.grownBy wy (Value.slice A acc.length c).ownBlock) (hv : ∀ g, (Value.slice A acc.length c).ownBlock = some g → w.heap.size ≤ g ∧ g ≠ g2 ∧ g ≠ g5) (hB : B ≤ w.heap.size) :
  JF B r g2 g5 KK N w wi A c acc s2 s3 (fun k => D k ∨ k = 5) wy :=
 ⟨h.at1.row k (fun g e => (hv g e).1), Nat.le_trans h.sz k.size, h.o2.grown k (fun e => (hv g2 e.symm).2.1 rfl), h.o5.grown k (fun e => (hv g5 e.symm).2.2 rfl), fun hn => absurd (.inr rfl) hn, fun hn => (h.rd fun hd => hn (.inl hd)).row k (fun g e => Nat.le_trans hB (hv g e).1), fun hd => by
  rcases hd with hd | hd
  ·exact (h.rd3 hd).row k (fun g e => Nat.le_trans hB (hv g e).1)
  ·cases hd⟩
end
set_option maxRecDepth 100000 in
set_option maxHeartbeats 400000 in
theorem rRegion (B r f : Nat) (ih : ∀ g, g < f → ItemF B r g) : RegF B r f := by
 intro s w h hf
 obtain ⟨f, rfl⟩ : ∃ f', f = f' + 1 := ⟨f - 1, by have := hf.1; omega⟩
 rw [Qy.rReg]
 obtain ⟨p1, hp1⟩ : ∃ p, Qy.rItem f s = p := ⟨_, rfl⟩
 have H1 : Hid (∀ u, RfAt B r s u → Calls Tryz.prog 79 #[.pointer (some ⟨r, 0, none⟩)] u (EndF B r u p1 (regV u))) := Lib.hid fun u k => hp1 ▸ ih f (Nat.lt_succ_self f) s u k ⟨by have := hf.1; omega, fun e => by have := hf.2 e; omega⟩
 have hrw := h.lt
 have hBw := h.2.1
 have hL := h.short
 have hl1 : p1.2.1.length ≤ s.1.length := by rw [← hp1]; exact (Qy.lens f).item s
 have hf1 : Qy.FOK 1 f p1.2 := ⟨by have := hf.1; omega, fun e => by have := hf.2 (Qy.item_none (by rw [hp1]; exact e)); omega⟩
 simp only [hp1]
 clear hp1 hf
 obtain ⟨R, s1⟩ := p1
 simp only at hl1 hf1 ⊢
 have H2 : Hid (∀ u, RfAt B r s1 u → Calls Tryz.prog 78 #[.pointer (some ⟨r, 0, none⟩)] u fun e w' => e = .returned (.string (bs (Qy.see s1))) ∧ Below u.heap.size u w') := Lib.hid fun u k => rSee B r s1 u k
 by_cases h2 : Qy.see s1 = Qy.wAnd ∨ Qy.see s1 = Qy.wOr
 ·rw [if_pos h2]
  obtain ⟨RES, hRES⟩ : ∃ RES, Qy.rJoin f (Qy.see s1) [R] s1 = RES := ⟨_, rfl⟩
  rw [hRES]
  obtain ⟨op, hop⟩ : ∃ op, Qy.see s1 = op := ⟨_, rfl⟩
  rw [hop] at hRES h2 H2
  have HRES0 := Lib.hid hRES
  have HIH := Lib.hid ih
  have HF1 := Lib.hid hf1
  have n1_ : 1 + s1.1.length ≤ 5001 := by omega
  have hone : op ≠ [] ∧ op ≠ [32] := by rcases h2 with rfl | rfl <;> simp [Qy.wAnd, Qy.wOr]
  have HOne := Lib.hid hone
  have H3 : Hid (∀ s u, RfAt B r s u → Calls Tryz.prog 75 #[.pointer (some ⟨r, 0, none⟩), .string (bs op)] u fun e w' => e = .returned (.bool (decide (Qy.see s = op))) ∧ RfAt B r (Qy.takeS op s) w' ∧ At1 r u w') := Lib.hid fun s u k => rTake B r s op hone.2 u k
  obtain ⟨KK, hKK⟩ : ∃ KK : Int, (if op = Qy.wOr then 5 else 4) = KK := ⟨_, rfl⟩
  have HKK := Lib.hid hKK
  clear hL ih hl1 hRES hone hf1 hop
  rcases h2 with h2 | h2
  ·have hne1 : ((bs op).toList == [97, 110, 100]) = true := word_ne _ _ _ (by rw [h2]; decide)
   have hne2 : ((bs op).toList == [111, 114]) = false := word_ne _ _ _ (by rw [h2]; decide)
   have hK0 : KK = 4 := by rw [← hKK, h2]; rfl
   subst hK0
   clear h2 hKK
   go_enter Tryz.func41, Tryz.ntmps41
   go_upto_region 1 with fail
   refine wp_new1 fun W0 hA hB => ?_
   have k0 := h.on hB
   clear h
   go_wp2_with fail
   refine (H1.out _ k0).mono ?_
   rintro e2 w1 ⟨k1, ⟨v, rfl, hR⟩, k2⟩
   obtain ⟨n0, s1_, n2, n3, n4, n5, n6, n7, A8, l8, c9, rfl, hR1, hR3⟩ := hR.lit
   have zA : w.heap.size < W0.heap.size := hA.lt
   have hA1 := hA.at1 k1 (by omega)
   have ka := (At1.of_below (r := r) hB).trans k1
   have z0_ := k1.size
   clear hR k0 k1 hB hA
   go_upto_region 2 with fail
   refine wp_new1 fun W1 hF kn => ?_
   have hA2 := hA1.on kn
   have k3 := k2.on kn
   have ka2 := ka.trans (At1.of_below kn)
   have hR2 := hR1.at1 (At1.of_below (r := r) kn) (by omega)
   have z1_ := kn.size
   have zF := hF.lt
   clear kn hA1 k2 ka hR1
   go_wp2_with fail
   refine (H2.out _ k3).mono ?_
   rintro e2 W1b ⟨rfl, kb⟩
   obtain ⟨⟨c0, c1, c2, c3, c4, c5, c6, c7, c8⟩, _⟩ := (hF.on kb).all9
   replace hA2 := hA2.on kb
   replace k3 := k3.on kb
   replace ka2 := ka2.trans (At1.of_below kb)
   replace hR2 := hR2.at1 (At1.of_below (r := r) kb) (by omega)
   have z2_ := kb.size
   clear kb hF
   go_upto_region 6 with fail
   refine wp_new1 fun W2 hG5 hB2 => ?_
   obtain ⟨g5, hg5⟩ : ∃ g, W1b.heap.size + 1 = g := ⟨_, rfl⟩
   rw [show (W1b.alloc (.cells #[.int .i64 n0, .string s1_, .int .i64 n2, .int .i64 n3, .int .i64 n4, .int .i64 n5, .int .i64 n6, .int .i64 n7, .slice A8 l8 c9] 32)).heap.size = g5 by rw [← hg5]; simp] at hG5
   have kn1 := below_new W1b (.cells #[.int .i64 n0, .string s1_, .int .i64 n2, .int .i64 n3, .int .i64 n4, .int .i64 n5, .int .i64 n6, .int .i64 n7, .slice A8 l8 c9] 32)
   obtain ⟨N, hN⟩ : ∃ N : Nat → Prop, N = fun g => W0.heap.size ≤ g ∧ g ≠ g5 := ⟨_, rfl⟩
   have hrow0 := (hR3 32 W1b N (RegAt.keep (Nat.le_refl _) (fun g hg hl => ⟨by rw [hN]; exact ⟨hg, by omega⟩, rfl⟩) _ _ hR2) (by rw [hN]; exact ⟨by omega, by omega⟩)).on hB2
   have hgl5 := hG5.lt
   have hg2 : w.heap.size ≠ r := by omega
   have hg5r : g5 ≠ r := by omega
   have hN0 : ¬ N r := by rw [hN]; exact fun h => by have := h.1; omega
   have hNew : ∀ g, g5 < g → N g := fun g hg => by rw [hN]; exact ⟨by omega, by omega⟩
   have hNg : ∀ g, N g → w.heap.size ≤ g ∧ g ≠ w.heap.size ∧ g ≠ g5 := fun g hg => by
    rw [hN] at hg
    exact ⟨by have := hg.1; omega, by have := hg.1; omega, hg.2⟩
   have hat0 := (ka2.trans (At1.of_below kn1)).trans (At1.of_below hB2)
   have ho2 := (hA2.on kn1).on hB2
   have hrd0 := (k3.on kn1).on hB2
   have hwg5 : w.heap.size ≤ g5 := by omega
   have hwg6 : w.heap.size < g5 := by omega
   have HNew := Lib.hid hNew
   have HNg := Lib.hid hNg
   clear hNew hNg hA2 k3 ka2 hR2 hR3 hB2 kn1 c0 c1 c2 c3 c4 c5 c6 c7 c8
   rw [hg5]
   clear hN z0_ z1_ z2_ zA zF hgl5 hg5
   
   have HST := Lib.hid (And.intro hat0 (And.intro ho2 (And.intro hG5 (And.intro hrow0 hrd0))))
   clear hat0 ho2 hG5 hrow0 hrd0
   go_wp2_with fail
   
   go_loopw [] (fun wr => ∃ (f' : Nat) (acc : List Qy.Reg) (s' : Qy.St) (A : Option Addr) (c : Nat), f' ≤ f ∧ Qy.FOK 1 f' s' ∧ acc.length + s'.1.length ≤ 5001 ∧ Qy.rJoin f' op acc s' = RES ∧ At1 r w wr ∧ Own wr w.heap.size 32 [.int .i64 0, .string ⟨#[]⟩, .int .i64 0, .int .i64 0, .int .i64 0, .int .i64 0, .int .i64 0, .int .i64 0, .slice none 0 0] ∧ Own wr g5 32 [.int .i64 4, .string ⟨#[]⟩, .int .i64 0, .int .i64 0, .int .i64 0, .int .i64 0, .int .i64 0, .int .i64 0, .slice A acc.length c] ∧ KRow 32 N wr (.slice A acc.length c) acc ∧ RfAt B r s' wr) (fun wr => aheadF r wr)
   case atStart => exact ⟨f, [R], s1, _, _, Nat.le_refl _, HF1.out, n1_, HRES0.out, HST.out.1, HST.out.2.1, HST.out.2.2.1, HST.out.2.2.2.1, HST.out.2.2.2.2⟩
   case round =>
    obtain ⟨f', acc, s', A, c, hf', hfl, hn, hres, hat, ho2, ho5, hrow, hrd⟩ := hrel
    obtain ⟨f', rfl⟩ : ∃ f'', f' = f'' + 1 := ⟨f' - 1, by have := hfl.1; omega⟩
    have hlen := hrd.len
    rw [Qy.rJoin] at hres
    by_cases h4 : Qy.see s' = op
    ·have HT4 := Lib.hid fun u => H3.out s' u
     have hadv := Qy.adv_lt hrd.good (by rw [h4]; exact HOne.out.1) (by rw [h4]; exact HOne.out.2)
     rw [decide_eq_true h4, show Qy.takeS op s' = Qy.adv s' by unfold Qy.takeS; rw [if_pos h4, if_neg HOne.out.1]] at HT4
     rw [if_pos h4] at hres
     obtain ⟨s2, hs2⟩ : ∃ s2, Qy.adv s' = s2 := ⟨_, rfl⟩
     rw [hs2] at HT4 hres hadv
     obtain ⟨RI, hRI⟩ : ∃ RI, Qy.rItem f' s2 = RI := ⟨_, rfl⟩
     have hfo2 : Qy.FOK 1 f' s2 := ⟨by have := hfl.2 hadv.1; have := hadv.2.2; omega, fun _ => by have := hfl.2 hadv.1; have := hadv.2.2; omega⟩
     have hle := (Qy.lens f').item s2
     rw [hRI] at hle
     obtain ⟨R3, s3⟩ := RI
     simp only at hle
     have hfo3 : Qy.FOK 1 f' s3 := ⟨hfo2.1, fun e => by have := hfo2.2 hadv.2.1; omega⟩
     have HI5 : Hid (∀ u, RfAt B r s2 u → Calls Tryz.prog 79 #[.pointer (some ⟨r, 0, none⟩)] u (EndF B r u (R3, s3) (regV u))) := Lib.hid fun u k => hRI ▸ HIH.out f' (by omega) s2 u k hfo2
     rw [hRI] at hres
     have HRES := Lib.hid hres
     have HFo := Lib.hid hfo3
     have hvx := hrow.own
     have hgl := ho5.lt
     have hlt9 := hadv.2.2
     clear h4 hres hRI hs2 hadv hfo2 hfo3 hfl
     go_wp2_with fail
     refine (HT4.out _ hrd).mono ?_
     rintro e2 w5 ⟨rfl, k4, k5⟩
     have kd := Below.drew (Below.refl w5.heap.size w5)
     have hJ0 : JF B r w.heap.size g5 4 N w w5 A c acc s2 s3 (fun _ => False) w5.drew := ⟨(hat.trans k5).drew, Nat.le_refl _, (ho2.at1 k5 hg2).on kd, (ho5.at1 k5 hg5r).on kd, fun _ => (hrow.at1 k5 hN0).on kd, fun _ => k4.on kd, False.elim⟩
     have hvi : ∀ g, (Value.slice A acc.length c).ownBlock = some g → g < w5.heap.size := fun g e => Nat.lt_of_lt_of_le (hvx g e).2 k5.size
     have hvn : ∀ g, (Value.slice A acc.length c).ownBlock = some g → w.heap.size ≤ g ∧ g ≠ w.heap.size ∧ g ≠ g5 := fun g e => HNg.out g (hvx g e).1
     have hN5 : ∀ g, New w5 g → N g := fun g hg => HNew.out g (Nat.lt_of_lt_of_le hgl (Nat.le_trans k5.size hg))
     have hn1 : acc.length + 1 ≤ 5001 := by omega
     clear hat ho2 ho5 hrow hrd k4 k5 kd hvx
     go_upto_region 9 with fail
     refine wp_region_suffixK (JF B r w.heap.size g5 4 N w w5 A c acc s2 s3) 7 [Spec.eq (.pointer (some ⟨g5, 8, none⟩)), Spec.eq (.slice A acc.length c), Spec.eq (.pointer (some ⟨r, 0, none⟩)), sReg3 w5 (.ok R3 []), sReg4 w5 (.ok R3 []), sReg5F N acc (.ok R3 []), Spec.eq (.pointer (some ⟨g5, 8, none⟩))]
       (by kernel_rfl) (by kernel_rfl) rfl (by kernel_rfl) (by kernel_rfl) hJ0 ?_ ?_
     ·
      refine RegStepsK.cons ?_ ?_
      ·intro DD az wz hcl hnd hC hdf hF hD K hK; replace hdf := Lib.hid hdf
       have q5 : az.tmps[5]? = some (.pointer (some ⟨g5, 0, none⟩)) := hF 5 rfl
       clear hF hD
       refine want_none rfl ?_
       go_simp
       exact hK _ _ (hC.pure (by decide) (by decide)) UpD.refl rfl
      refine RegStepsK.cons ?_ ?_
      ·intro DD az wz hcl hnd hC hdf hF hD K hK; replace hdf := Lib.hid hdf
       obtain ⟨_, q26, rfl⟩ := dep hD 0 rfl rfl rfl rfl
       have z8 : wz.cell? ⟨g5, 8, none⟩ = some (.slice A acc.length c) := hC.o5.cell 8
       clear hF hD
       refine want_none rfl ?_
       go_simp
       exact hK _ _ (hC.pure (by decide) (by decide)) UpD.refl rfl
      refine RegStepsK.cons ?_ ?_
      ·intro DD az wz hcl hnd hC hdf hF hD K hK; replace hdf := Lib.hid hdf
       have q0 : az.tmps[0]? = some (.pointer (some ⟨r, 0, none⟩)) := hF 0 rfl
       clear hF hD
       refine want_none rfl ?_
       go_simp
       exact hK _ _ (hC.pure (by decide) (by decide)) UpD.refl rfl
      refine RegStepsK.cons ?_ ?_
      ·intro DD az wz hcl hnd hC hdf hF hD K hK; replace hdf := Lib.hid hdf
       obtain ⟨_, q28, rfl⟩ := dep hD 2 rfl rfl rfl rfl
       have hrd := hC.rd hnd
       have HJ := Lib.hid hC
       have HCL := Lib.hid hcl
       have HND := Lib.hid hnd
       clear hF hD hC hcl hnd
       refine want_none rfl ?_
       go_simp
       refine (HI5.out wz hrd).mono ?_
       rintro e wy ⟨hat3, ⟨u, rfl, hu⟩, hrd3⟩
       clear hrd
       obtain ⟨cs, rfl, _⟩ := id hu
       exact hK _ _ (HJ.out.call hat3 hrd3 hN0 hg2 hg5r) (UpD7 (fun h => absurd h HND.out) (fun h => absurd (HCL.out 4 _ rfl h 3 rfl) HND.out) (fun h => absurd (HCL.out 4 _ rfl (HCL.out 5 _ rfl h 4 rfl) 3 rfl) HND.out)) ⟨cs, rfl, R3, [], rfl, hu.old HJ.out.sz⟩
      refine RegStepsK.cons ?_ ?_
      ·intro DD az wz hcl hnd hC hdf hF hD K hK; replace hdf := Lib.hid hdf
       obtain ⟨_, q29, x29, rfl, hx29⟩ := dep hD 3 rfl rfl rfl rfl
       obtain ⟨R3_, l3, hri, hu⟩ := hx29
       obtain ⟨y0, y1, y2, y3, y4, y5, y6, y7, y8, hcs, one9, hR9, _⟩ := hu.open_
       rw [hcs] at q29
       have kn := below_new wz (.cells #[y0, y1, y2, y3, y4, y5, y6, y7, y8] 32)
       have HP := Lib.hid (hC.on kn (i := 4) (by decide) (by decide))
       have HKN := Lib.hid kn
       have HCL := Lib.hid hcl
       have HND := Lib.hid hnd
       have HO := Lib.hid (own_news (Own.new wz 32 [y0, y1, y2, y3, y4, y5, y6, y7, y8]))
       have HR9 := Lib.hid (RegAt.keep kn.size (fun g hg hl => ⟨hg, kn.block g hl⟩) _ _ hR9)
       have HSZ := Lib.hid hC.sz
       clear hF hD hC hcl hnd hu hR9 kn hcs
       refine want_none rfl ?_
       go_simp
       exact hK _ _ HP.out (UpD7 (fun _ _ hx => sReg3_on hx HKN.out) (fun h => absurd h HND.out) (fun h => absurd (HCL.out 5 _ rfl h 4 rfl) HND.out)) ⟨wz.heap.size, rfl, HSZ.out, by simp, R3_, l3, y0, y1, y2, y3, y4, y5, y6, y7, y8, hri, one9, HO.out, HR9.out⟩
      refine RegStepsK.cons ?_ ?_
      ·intro DD az wz hcl hnd hC hdf hF hD K hK; replace hdf := Lib.hid hdf
       obtain ⟨_, q27, rfl⟩ := dep hD 1 rfl rfl rfl rfl
       obtain ⟨_, q30, x30, rfl, hx30⟩ := dep hD 4 rfl rfl rfl rfl
       obtain ⟨hs1, hs2, R3_, l3, y0, y1, y2, y3, y4, y5, y6, y7, y8, hri, one9, ho9, hR9⟩ := hx30
       clear hF hD
       refine want_none rfl ?_
       obtain ⟨css, p1, p2, p4, p3⟩ := hC.row hnd
       obtain ⟨i0_, hi_, hz0, hz1, hz2⟩ := info_parts reg_infoF
       refine oper_pushO _ _ _ 30 rfl 32 i0_ (.agg #[.int .i64 0, .string ⟨#[]⟩, .int .i64 0, .int .i64 0, .int .i64 0, .int .i64 0, .int .i64 0, .int .i64 0, .slice none 0 0]) 9 96 Tryz.underlying30 hi_ hz0 hz1 hz2 rfl (by decide) 0 _ _ _ (by simp [Act.eval, q27]) p2 ⟨x30, 0, none⟩ 1 [y0, y1, y2, y3, y4, y5, y6, y7, y8] (by simp [Act.eval, q30]) rfl ho9 one9 (by unfold maxLen; omega) (by omega) (Nat.zero_le _) ?_
       intro v' w' hrow3 hgrow hv'
       have hrow4 := KRow.push p1 p4 p3 rfl hR9 hN5 (Nat.le_of_lt (Nat.lt_of_le_of_lt hs1 hs2)) hvi hrow3 hgrow hv'
       obtain ⟨A', c', hA'⟩ := hrow4.slice
       exact hK _ _ (hC.push hgrow hvn hBw) (UpD7 (fun _ _ hx => sReg3_row hx hgrow hvi) (fun _ _ hx => sReg4_row hx hgrow hvi) (fun h => absurd h hnd)) ⟨v', rfl, R3_, l3, A', c', by simpa using hA', hri, hrow4⟩
      refine RegStepsK.cons ?_ ?_
      ·intro DD az wz hcl hnd hC hdf hF hD K hK; replace hdf := Lib.hid hdf
       have q5 : az.tmps[5]? = some (.pointer (some ⟨g5, 0, none⟩)) := hF 5 rfl
       clear hF hD
       refine want_none rfl ?_
       go_simp
       exact hK _ _ (hC.pure (by decide) (by decide)) UpD.refl rfl
      exact RegStepsK.nil
     intro w7 hJ7
     rintro _ rfl _ rfl _ rfl _ ⟨y29, rfl, _⟩ _ ⟨y30, rfl, _⟩ _ ⟨y31, rfl, hy31⟩ _ rfl
     simp only [List.take, FinOK, Act.put, List.setIfInBounds_toArray, List.set_cons_zero, List.set_cons_succ]
     simp only [List.drop, TailOK]
     obtain ⟨R7, l7, A7, c7, hv7, hri7, hrow7⟩ := hy31
     subst hv7
     have hrd7 := hJ7.rd3 (by decide)
     obtain rfl : R3 = R7 := by cases hri7; rfl
     have q8 := hJ7.o5.cell 8
     have q9 := hJ7.o5.frozen 8
     have hk := At1.set_ (r := g5) w7 (p := ⟨g5, 8, none⟩) rfl (.slice A7 (acc.length + 1) c7)
     have HS := Lib.hid (And.intro (hJ7.at1.at_ hk hwg5) (And.intro (hJ7.o2.at1 hk (Nat.ne_of_lt hwg6)) (And.intro (hJ7.o5.set_ 8 (.slice A7 (acc.length + 1) c7)) (And.intro (hrow7.at1 hk (fun h => (HNg.out _ h).2.2 rfl)) (hrd7.at_ hk (Nat.le_trans hBw hwg5))))))
     clear hJ7 hk hrd7 hrow7 hri7 hJ0
     intro K hK
     refine want_none rfl ?_
     go_simp
     refine hK _ _ ?_
     clear hK K
     go_roundw
     case rel => exact ⟨_, _, _, _, _, _, _, _, _, _, ⟨f', acc ++ [R3], s3, A7, c7, by omega, HFo.out, by simp; omega, HRES.out, HS.out.1, HS.out.2.1, by rw [List.length_append]; exact HS.out.2.2.1, by rw [List.length_append]; exact HS.out.2.2.2.1, HS.out.2.2.2.2⟩, rfl⟩
     case measure => have := HS.out.2.2.2.2.len; omega
    ·have HT4 := Lib.hid fun u => H3.out s' u
     rw [decide_eq_false h4, show Qy.takeS op s' = s' by unfold Qy.takeS; rw [if_neg h4]] at HT4
     rw [if_neg h4, HKK.out] at hres
     clear h4 hfl hf' hn hlen
     go_wp2_with fail
     refine (HT4.out _ hrd).mono ?_
     rintro e2 w5 ⟨rfl, k4, k5⟩
     have hg5o := ho5.at1 k5 hg5r
     have hg2o := ho2.at1 k5 hg2
     obtain ⟨⟨c0, c1, c2, c3, c4, c5, c6, c7, c8⟩, _⟩ := hg5o.all9
     obtain ⟨⟨z0, z1, z2, z3, z4, z5, z6, z7, z8⟩, f0, f1, f2, f3, f4, f5, f6, f7, f8⟩ := hg2o.all9
     have HF := Lib.hid (And.intro hg2o (And.intro (hat.trans k5) (And.intro (hrow.at1 k5 hN0) (And.intro k4 hres))))
     clear ho5 ho2 hg5o hg2o hat hrow hrd k4 k5 hres
     go_wp2_with fail
     obtain ⟨hO, hk⟩ := HF.out.1.put9 (x0 := .int .i64 4) (x1 := .string ⟨#[]⟩) (x2 := .int .i64 0) (x3 := .int .i64 0) (x4 := .int .i64 0) (x5 := .int .i64 0) (x6 := .int .i64 0) (x7 := .int .i64 0) (x8 := .slice A acc.length c)
     clear c0 c1 c2 c3 c4 c5 c6 c7 c8 z0 z1 z2 z3 z4 z5 z6 z7 z8 f0 f1 f2 f3 f4 f5 f6 f7 f8
     revert hO hk
     generalize (((((((((w5.setCell _ _).setCell _ _).setCell _ _).setCell _ _).setCell _ _).setCell _ _).setCell _ _).setCell _ _).setCell _ _) = W9
     intro hO hk
     obtain ⟨⟨q0, q1, q2, q3, q4, q5, q6, q7, q8⟩, _⟩ := hO.all9
     refine bodyPost_ret (v := .agg #[.int .i64 4, .string ⟨#[]⟩, .int .i64 0, .int .i64 0, .int .i64 0, .int .i64 0, .int .i64 0, .int .i64 0, .slice A acc.length c]) (by simp [results, Tryz.results41, go_sem, q0, q1, q2, q3, q4, q5, q6, q7, q8]) rfl ?_
     have hres9 := HF.out.2.2.2.2
     subst hres9
     obtain ⟨A', c', hA', hkids⟩ := ((HF.out.2.2.1.at1 hk (fun h => (HNg.out _ h).2.1 rfl)).listV (w0 := w) (fun g hg => (HNg.out g hg).1))
     cases hA'
     refine ⟨HF.out.2.1.at_ hk (Nat.le_refl _), ⟨_, rfl, _, rfl, ?_⟩, HF.out.2.2.2.1.at_ hk hBw⟩
     unfold Qy.kidsR
     rw [RegAt]
     exact ⟨_, _, rfl, hkids⟩
  ·have hne1 : ((bs op).toList == [97, 110, 100]) = false := word_ne _ _ _ (by rw [h2]; decide)
   have hne2 : ((bs op).toList == [111, 114]) = true := word_ne _ _ _ (by rw [h2]; decide)
   have hK0 : KK = 5 := by rw [← hKK, h2]; rfl
   subst hK0
   clear h2 hKK
   go_enter Tryz.func41, Tryz.ntmps41
   go_upto_region 1 with fail
   refine wp_new1 fun W0 hA hB => ?_
   have k0 := h.on hB
   clear h
   go_wp2_with fail
   refine (H1.out _ k0).mono ?_
   rintro e2 w1 ⟨k1, ⟨v, rfl, hR⟩, k2⟩
   obtain ⟨n0, s1_, n2, n3, n4, n5, n6, n7, A8, l8, c9, rfl, hR1, hR3⟩ := hR.lit
   have zA : w.heap.size < W0.heap.size := hA.lt
   have hA1 := hA.at1 k1 (by omega)
   have ka := (At1.of_below (r := r) hB).trans k1
   have z0_ := k1.size
   clear hR k0 k1 hB hA
   go_upto_region 2 with fail
   refine wp_new1 fun W1 hF kn => ?_
   have hA2 := hA1.on kn
   have k3 := k2.on kn
   have ka2 := ka.trans (At1.of_below kn)
   have hR2 := hR1.at1 (At1.of_below (r := r) kn) (by omega)
   have z1_ := kn.size
   have zF := hF.lt
   clear kn hA1 k2 ka hR1
   go_wp2_with fail
   refine (H2.out _ k3).mono ?_
   rintro e2 W1b ⟨rfl, kb⟩
   obtain ⟨⟨c0, c1, c2, c3, c4, c5, c6, c7, c8⟩, _⟩ := (hF.on kb).all9
   replace hA2 := hA2.on kb
   replace k3 := k3.on kb
   replace ka2 := ka2.trans (At1.of_below kb)
   replace hR2 := hR2.at1 (At1.of_below (r := r) kb) (by omega)
   have z2_ := kb.size
   clear kb hF
   go_upto_region 6 with fail
   refine wp_new1 fun W2 hG5 hB2 => ?_
   obtain ⟨g5, hg5⟩ : ∃ g, W1b.heap.size + 1 = g := ⟨_, rfl⟩
   rw [show (W1b.alloc (.cells #[.int .i64 n0, .string s1_, .int .i64 n2, .int .i64 n3, .int .i64 n4, .int .i64 n5, .int .i64 n6, .int .i64 n7, .slice A8 l8 c9] 32)).heap.size = g5 by rw [← hg5]; simp] at hG5
   have kn1 := below_new W1b (.cells #[.int .i64 n0, .string s1_, .int .i64 n2, .int .i64 n3, .int .i64 n4, .int .i64 n5, .int .i64 n6, .int .i64 n7, .slice A8 l8 c9] 32)
   obtain ⟨N, hN⟩ : ∃ N : Nat → Prop, N = fun g => W0.heap.size ≤ g ∧ g ≠ g5 := ⟨_, rfl⟩
   have hrow0 := (hR3 32 W1b N (RegAt.keep (Nat.le_refl _) (fun g hg hl => ⟨by rw [hN]; exact ⟨hg, by omega⟩, rfl⟩) _ _ hR2) (by rw [hN]; exact ⟨by omega, by omega⟩)).on hB2
   have hgl5 := hG5.lt
   have hg2 : w.heap.size ≠ r := by omega
   have hg5r : g5 ≠ r := by omega
   have hN0 : ¬ N r := by rw [hN]; exact fun h => by have := h.1; omega
   have hNew : ∀ g, g5 < g → N g := fun g hg => by rw [hN]; exact ⟨by omega, by omega⟩
   have hNg : ∀ g, N g → w.heap.size ≤ g ∧ g ≠ w.heap.size ∧ g ≠ g5 := fun g hg => by
    rw [hN] at hg
    exact ⟨by have := hg.1; omega, by have := hg.1; omega, hg.2⟩
   have hat0 := (ka2.trans (At1.of_below kn1)).trans (At1.of_below hB2)
   have ho2 := (hA2.on kn1).on hB2
   have hrd0 := (k3.on kn1).on hB2
   have hwg5 : w.heap.size ≤ g5 := by omega
   have hwg6 : w.heap.size < g5 := by omega
   have HNew := Lib.hid hNew
   have HNg := Lib.hid hNg
   clear hNew hNg hA2 k3 ka2 hR2 hR3 hB2 kn1 c0 c1 c2 c3 c4 c5 c6 c7 c8
   rw [hg5]
   clear hN z0_ z1_ z2_ zA zF hgl5 hg5
   
   have q0 : W2.cell? ⟨g5, 0, none⟩ = some (.int .i64 4) := hG5.cell 0
   have q1 := hG5.frozen 0
   have hk := At1.set_ (r := g5) W2 (p := ⟨g5, 0, none⟩) rfl (.int .i64 5)
   have HST := Lib.hid (And.intro (hat0.at_ hk hwg5) (And.intro (ho2.at1 hk (Nat.ne_of_lt hwg6)) (And.intro (hG5.set_ 0 (.int .i64 5)) (And.intro (hrow0.at1 hk (fun h => (HNg.out _ h).2.2 rfl)) (hrd0.at_ hk (Nat.le_trans hBw hwg5))))))
   clear hat0 ho2 hG5 hrow0 hrd0 hk
   go_wp2_with fail
   
   go_loopw [] (fun wr => ∃ (f' : Nat) (acc : List Qy.Reg) (s' : Qy.St) (A : Option Addr) (c : Nat), f' ≤ f ∧ Qy.FOK 1 f' s' ∧ acc.length + s'.1.length ≤ 5001 ∧ Qy.rJoin f' op acc s' = RES ∧ At1 r w wr ∧ Own wr w.heap.size 32 [.int .i64 0, .string ⟨#[]⟩, .int .i64 0, .int .i64 0, .int .i64 0, .int .i64 0, .int .i64 0, .int .i64 0, .slice none 0 0] ∧ Own wr g5 32 [.int .i64 5, .string ⟨#[]⟩, .int .i64 0, .int .i64 0, .int .i64 0, .int .i64 0, .int .i64 0, .int .i64 0, .slice A acc.length c] ∧ KRow 32 N wr (.slice A acc.length c) acc ∧ RfAt B r s' wr) (fun wr => aheadF r wr)
   case atStart => exact ⟨f, [R], s1, _, _, Nat.le_refl _, HF1.out, n1_, HRES0.out, HST.out.1, HST.out.2.1, HST.out.2.2.1, HST.out.2.2.2.1, HST.out.2.2.2.2⟩
   case round =>
    obtain ⟨f', acc, s', A, c, hf', hfl, hn, hres, hat, ho2, ho5, hrow, hrd⟩ := hrel
    obtain ⟨f', rfl⟩ : ∃ f'', f' = f'' + 1 := ⟨f' - 1, by have := hfl.1; omega⟩
    have hlen := hrd.len
    rw [Qy.rJoin] at hres
    by_cases h4 : Qy.see s' = op
    ·have HT4 := Lib.hid fun u => H3.out s' u
     have hadv := Qy.adv_lt hrd.good (by rw [h4]; exact HOne.out.1) (by rw [h4]; exact HOne.out.2)
     rw [decide_eq_true h4, show Qy.takeS op s' = Qy.adv s' by unfold Qy.takeS; rw [if_pos h4, if_neg HOne.out.1]] at HT4
     rw [if_pos h4] at hres
     obtain ⟨s2, hs2⟩ : ∃ s2, Qy.adv s' = s2 := ⟨_, rfl⟩
     rw [hs2] at HT4 hres hadv
     obtain ⟨RI, hRI⟩ : ∃ RI, Qy.rItem f' s2 = RI := ⟨_, rfl⟩
     have hfo2 : Qy.FOK 1 f' s2 := ⟨by have := hfl.2 hadv.1; have := hadv.2.2; omega, fun _ => by have := hfl.2 hadv.1; have := hadv.2.2; omega⟩
     have hle := (Qy.lens f').item s2
     rw [hRI] at hle
     obtain ⟨R3, s3⟩ := RI
     simp only at hle
     have hfo3 : Qy.FOK 1 f' s3 := ⟨hfo2.1, fun e => by have := hfo2.2 hadv.2.1; omega⟩
     have HI5 : Hid (∀ u, RfAt B r s2 u → Calls Tryz.prog 79 #[.pointer (some ⟨r, 0, none⟩)] u (EndF B r u (R3, s3) (regV u))) := Lib.hid fun u k => hRI ▸ HIH.out f' (by omega) s2 u k hfo2
     rw [hRI] at hres
     have HRES := Lib.hid hres
     have HFo := Lib.hid hfo3
     have hvx := hrow.own
     have hgl := ho5.lt
     have hlt9 := hadv.2.2
     clear h4 hres hRI hs2 hadv hfo2 hfo3 hfl
     go_wp2_with fail
     refine (HT4.out _ hrd).mono ?_
     rintro e2 w5 ⟨rfl, k4, k5⟩
     have kd := Below.drew (Below.refl w5.heap.size w5)
     have hJ0 : JF B r w.heap.size g5 5 N w w5 A c acc s2 s3 (fun _ => False) w5.drew := ⟨(hat.trans k5).drew, Nat.le_refl _, (ho2.at1 k5 hg2).on kd, (ho5.at1 k5 hg5r).on kd, fun _ => (hrow.at1 k5 hN0).on kd, fun _ => k4.on kd, False.elim⟩
     have hvi : ∀ g, (Value.slice A acc.length c).ownBlock = some g → g < w5.heap.size := fun g e => Nat.lt_of_lt_of_le (hvx g e).2 k5.size
     have hvn : ∀ g, (Value.slice A acc.length c).ownBlock = some g → w.heap.size ≤ g ∧ g ≠ w.heap.size ∧ g ≠ g5 := fun g e => HNg.out g (hvx g e).1
     have hN5 : ∀ g, New w5 g → N g := fun g hg => HNew.out g (Nat.lt_of_lt_of_le hgl (Nat.le_trans k5.size hg))
     have hn1 : acc.length + 1 ≤ 5001 := by omega
     clear hat ho2 ho5 hrow hrd k4 k5 kd hvx
     go_upto_region 9 with fail
     refine wp_region_suffixK (JF B r w.heap.size g5 5 N w w5 A c acc s2 s3) 7 [Spec.eq (.pointer (some ⟨g5, 8, none⟩)), Spec.eq (.slice A acc.length c), Spec.eq (.pointer (some ⟨r, 0, none⟩)), sReg3 w5 (.ok R3 []), sReg4 w5 (.ok R3 []), sReg5F N acc (.ok R3 []), Spec.eq (.pointer (some ⟨g5, 8, none⟩))]
       (by kernel_rfl) (by kernel_rfl) rfl (by kernel_rfl) (by kernel_rfl) hJ0 ?_ ?_
     ·
      refine RegStepsK.cons ?_ ?_
      ·intro DD az wz hcl hnd hC hdf hF hD K hK; replace hdf := Lib.hid hdf
       have q5 : az.tmps[5]? = some (.pointer (some ⟨g5, 0, none⟩)) := hF 5 rfl
       clear hF hD
       refine want_none rfl ?_
       go_simp
       exact hK _ _ (hC.pure (by decide) (by decide)) UpD.refl rfl
      refine RegStepsK.cons ?_ ?_
      ·intro DD az wz hcl hnd hC hdf hF hD K hK; replace hdf := Lib.hid hdf
       obtain ⟨_, q26, rfl⟩ := dep hD 0 rfl rfl rfl rfl
       have z8 : wz.cell? ⟨g5, 8, none⟩ = some (.slice A acc.length c) := hC.o5.cell 8
       clear hF hD
       refine want_none rfl ?_
       go_simp
       exact hK _ _ (hC.pure (by decide) (by decide)) UpD.refl rfl
      refine RegStepsK.cons ?_ ?_
      ·intro DD az wz hcl hnd hC hdf hF hD K hK; replace hdf := Lib.hid hdf
       have q0 : az.tmps[0]? = some (.pointer (some ⟨r, 0, none⟩)) := hF 0 rfl
       clear hF hD
       refine want_none rfl ?_
       go_simp
       exact hK _ _ (hC.pure (by decide) (by decide)) UpD.refl rfl
      refine RegStepsK.cons ?_ ?_
      ·intro DD az wz hcl hnd hC hdf hF hD K hK; replace hdf := Lib.hid hdf
       obtain ⟨_, q28, rfl⟩ := dep hD 2 rfl rfl rfl rfl
       have hrd := hC.rd hnd
       have HJ := Lib.hid hC
       have HCL := Lib.hid hcl
       have HND := Lib.hid hnd
       clear hF hD hC hcl hnd
       refine want_none rfl ?_
       go_simp
       refine (HI5.out wz hrd).mono ?_
       rintro e wy ⟨hat3, ⟨u, rfl, hu⟩, hrd3⟩
       clear hrd
       obtain ⟨cs, rfl, _⟩ := id hu
       exact hK _ _ (HJ.out.call hat3 hrd3 hN0 hg2 hg5r) (UpD7 (fun h => absurd h HND.out) (fun h => absurd (HCL.out 4 _ rfl h 3 rfl) HND.out) (fun h => absurd (HCL.out 4 _ rfl (HCL.out 5 _ rfl h 4 rfl) 3 rfl) HND.out)) ⟨cs, rfl, R3, [], rfl, hu.old HJ.out.sz⟩
      refine RegStepsK.cons ?_ ?_
      ·intro DD az wz hcl hnd hC hdf hF hD K hK; replace hdf := Lib.hid hdf
       obtain ⟨_, q29, x29, rfl, hx29⟩ := dep hD 3 rfl rfl rfl rfl
       obtain ⟨R3_, l3, hri, hu⟩ := hx29
       obtain ⟨y0, y1, y2, y3, y4, y5, y6, y7, y8, hcs, one9, hR9, _⟩ := hu.open_
       rw [hcs] at q29
       have kn := below_new wz (.cells #[y0, y1, y2, y3, y4, y5, y6, y7, y8] 32)
       have HP := Lib.hid (hC.on kn (i := 4) (by decide) (by decide))
       have HKN := Lib.hid kn
       have HCL := Lib.hid hcl
       have HND := Lib.hid hnd
       have HO := Lib.hid (own_news (Own.new wz 32 [y0, y1, y2, y3, y4, y5, y6, y7, y8]))
       have HR9 := Lib.hid (RegAt.keep kn.size (fun g hg hl => ⟨hg, kn.block g hl⟩) _ _ hR9)
       have HSZ := Lib.hid hC.sz
       clear hF hD hC hcl hnd hu hR9 kn hcs
       refine want_none rfl ?_
       go_simp
       exact hK _ _ HP.out (UpD7 (fun _ _ hx => sReg3_on hx HKN.out) (fun h => absurd h HND.out) (fun h => absurd (HCL.out 5 _ rfl h 4 rfl) HND.out)) ⟨wz.heap.size, rfl, HSZ.out, by simp, R3_, l3, y0, y1, y2, y3, y4, y5, y6, y7, y8, hri, one9, HO.out, HR9.out⟩
      refine RegStepsK.cons ?_ ?_
      ·intro DD az wz hcl hnd hC hdf hF hD K hK; replace hdf := Lib.hid hdf
       obtain ⟨_, q27, rfl⟩ := dep hD 1 rfl rfl rfl rfl
       obtain ⟨_, q30, x30, rfl, hx30⟩ := dep hD 4 rfl rfl rfl rfl
       obtain ⟨hs1, hs2, R3_, l3, y0, y1, y2, y3, y4, y5, y6, y7, y8, hri, one9, ho9, hR9⟩ := hx30
       clear hF hD
       refine want_none rfl ?_
       obtain ⟨css, p1, p2, p4, p3⟩ := hC.row hnd
       obtain ⟨i0_, hi_, hz0, hz1, hz2⟩ := info_parts reg_infoF
       refine oper_pushO _ _ _ 30 rfl 32 i0_ (.agg #[.int .i64 0, .string ⟨#[]⟩, .int .i64 0, .int .i64 0, .int .i64 0, .int .i64 0, .int .i64 0, .int .i64 0, .slice none 0 0]) 9 96 Tryz.underlying30 hi_ hz0 hz1 hz2 rfl (by decide) 0 _ _ _ (by simp [Act.eval, q27]) p2 ⟨x30, 0, none⟩ 1 [y0, y1, y2, y3, y4, y5, y6, y7, y8] (by simp [Act.eval, q30]) rfl ho9 one9 (by unfold maxLen; omega) (by omega) (Nat.zero_le _) ?_
       intro v' w' hrow3 hgrow hv'
       have hrow4 := KRow.push p1 p4 p3 rfl hR9 hN5 (Nat.le_of_lt (Nat.lt_of_le_of_lt hs1 hs2)) hvi hrow3 hgrow hv'
       obtain ⟨A', c', hA'⟩ := hrow4.slice
       exact hK _ _ (hC.push hgrow hvn hBw) (UpD7 (fun _ _ hx => sReg3_row hx hgrow hvi) (fun _ _ hx => sReg4_row hx hgrow hvi) (fun h => absurd h hnd)) ⟨v', rfl, R3_, l3, A', c', by simpa using hA', hri, hrow4⟩
      refine RegStepsK.cons ?_ ?_
      ·intro DD az wz hcl hnd hC hdf hF hD K hK; replace hdf := Lib.hid hdf
       have q5 : az.tmps[5]? = some (.pointer (some ⟨g5, 0, none⟩)) := hF 5 rfl
       clear hF hD
       refine want_none rfl ?_
       go_simp
       exact hK _ _ (hC.pure (by decide) (by decide)) UpD.refl rfl
      exact RegStepsK.nil
     intro w7 hJ7
     rintro _ rfl _ rfl _ rfl _ ⟨y29, rfl, _⟩ _ ⟨y30, rfl, _⟩ _ ⟨y31, rfl, hy31⟩ _ rfl
     simp only [List.take, FinOK, Act.put, List.setIfInBounds_toArray, List.set_cons_zero, List.set_cons_succ]
     simp only [List.drop, TailOK]
     obtain ⟨R7, l7, A7, c7, hv7, hri7, hrow7⟩ := hy31
     subst hv7
     have hrd7 := hJ7.rd3 (by decide)
     obtain rfl : R3 = R7 := by cases hri7; rfl
     have q8 := hJ7.o5.cell 8
     have q9 := hJ7.o5.frozen 8
     have hk := At1.set_ (r := g5) w7 (p := ⟨g5, 8, none⟩) rfl (.slice A7 (acc.length + 1) c7)
     have HS := Lib.hid (And.intro (hJ7.at1.at_ hk hwg5) (And.intro (hJ7.o2.at1 hk (Nat.ne_of_lt hwg6)) (And.intro (hJ7.o5.set_ 8 (.slice A7 (acc.length + 1) c7)) (And.intro (hrow7.at1 hk (fun h => (HNg.out _ h).2.2 rfl)) (hrd7.at_ hk (Nat.le_trans hBw hwg5))))))
     clear hJ7 hk hrd7 hrow7 hri7 hJ0
     intro K hK
     refine want_none rfl ?_
     go_simp
     refine hK _ _ ?_
     clear hK K
     go_roundw
     case rel => exact ⟨_, _, _, _, _, _, _, _, _, _, ⟨f', acc ++ [R3], s3, A7, c7, by omega, HFo.out, by simp; omega, HRES.out, HS.out.1, HS.out.2.1, by rw [List.length_append]; exact HS.out.2.2.1, by rw [List.length_append]; exact HS.out.2.2.2.1, HS.out.2.2.2.2⟩, rfl⟩
     case measure => have := HS.out.2.2.2.2.len; omega
    ·have HT4 := Lib.hid fun u => H3.out s' u
     rw [decide_eq_false h4, show Qy.takeS op s' = s' by unfold Qy.takeS; rw [if_neg h4]] at HT4
     rw [if_neg h4, HKK.out] at hres
     clear h4 hfl hf' hn hlen
     go_wp2_with fail
     refine (HT4.out _ hrd).mono ?_
     rintro e2 w5 ⟨rfl, k4, k5⟩
     have hg5o := ho5.at1 k5 hg5r
     have hg2o := ho2.at1 k5 hg2
     obtain ⟨⟨c0, c1, c2, c3, c4, c5, c6, c7, c8⟩, _⟩ := hg5o.all9
     obtain ⟨⟨z0, z1, z2, z3, z4, z5, z6, z7, z8⟩, f0, f1, f2, f3, f4, f5, f6, f7, f8⟩ := hg2o.all9
     have HF := Lib.hid (And.intro hg2o (And.intro (hat.trans k5) (And.intro (hrow.at1 k5 hN0) (And.intro k4 hres))))
     clear ho5 ho2 hg5o hg2o hat hrow hrd k4 k5 hres
     go_wp2_with fail
     obtain ⟨hO, hk⟩ := HF.out.1.put9 (x0 := .int .i64 5) (x1 := .string ⟨#[]⟩) (x2 := .int .i64 0) (x3 := .int .i64 0) (x4 := .int .i64 0) (x5 := .int .i64 0) (x6 := .int .i64 0) (x7 := .int .i64 0) (x8 := .slice A acc.length c)
     clear c0 c1 c2 c3 c4 c5 c6 c7 c8 z0 z1 z2 z3 z4 z5 z6 z7 z8 f0 f1 f2 f3 f4 f5 f6 f7 f8
     revert hO hk
     generalize (((((((((w5.setCell _ _).setCell _ _).setCell _ _).setCell _ _).setCell _ _).setCell _ _).setCell _ _).setCell _ _).setCell _ _) = W9
     intro hO hk
     obtain ⟨⟨q0, q1, q2, q3, q4, q5, q6, q7, q8⟩, _⟩ := hO.all9
     refine bodyPost_ret (v := .agg #[.int .i64 5, .string ⟨#[]⟩, .int .i64 0, .int .i64 0, .int .i64 0, .int .i64 0, .int .i64 0, .int .i64 0, .slice A acc.length c]) (by simp [results, Tryz.results41, go_sem, q0, q1, q2, q3, q4, q5, q6, q7, q8]) rfl ?_
     have hres9 := HF.out.2.2.2.2
     subst hres9
     obtain ⟨A', c', hA', hkids⟩ := ((HF.out.2.2.1.at1 hk (fun h => (HNg.out _ h).2.1 rfl)).listV (w0 := w) (fun g hg => (HNg.out g hg).1))
     cases hA'
     refine ⟨HF.out.2.1.at_ hk (Nat.le_refl _), ⟨_, rfl, _, rfl, ?_⟩, HF.out.2.2.2.1.at_ hk hBw⟩
     unfold Qy.kidsR
     rw [RegAt]
     exact ⟨_, _, rfl, hkids⟩
 ·rw [if_neg h2]
  have hne1 : ((bs (Qy.see s1)).toList == [97, 110, 100]) = false := word_ne _ _ _ (decide_eq_false fun e => h2 (.inl e))
  have hne2 : ((bs (Qy.see s1)).toList == [111, 114]) = false := word_ne _ _ _ (decide_eq_false fun e => h2 (.inr e))
  clear hL ih h2 hl1 hf1
  go_enter Tryz.func41, Tryz.ntmps41
  go_upto_region 1 with fail
  refine wp_new1 fun W0 hA hB => ?_
  have k0 := h.on hB
  clear h
  go_wp2_with fail
  refine (H1.out _ k0).mono ?_
  rintro e2 w1 ⟨k1, ⟨v, rfl, hR⟩, k2⟩
  obtain ⟨n0, s1_, n2, n3, n4, n5, n6, n7, A8, l8, c9, rfl, hR1, hR3⟩ := hR.lit
  have zA : w.heap.size < W0.heap.size := hA.lt
  have hA1 := hA.at1 k1 (by omega)
  have ka := (At1.of_below (r := r) hB).trans k1
  clear hR k0 k1 hB hA
  go_upto_region 2 with fail
  refine wp_new1 fun W1 hF kn => ?_
  have z1 := ka.size
  have hA2 := hA1.on kn
  have k3 := k2.on kn
  have ka2 := ka.trans (At1.of_below kn)
  have hR2 := hR1.at1 (At1.of_below (r := r) kn) (by omega)
  clear kn hA1 k2 ka hR1 hR3
  go_wp2_with fail
  refine (H2.out _ k3).mono ?_
  rintro e2 W1b ⟨rfl, kb⟩
  replace hF := hF.on kb
  have hFl := hF.lt
  replace hA2 := hA2.on kb
  replace k3 := k3.on kb
  replace ka2 := ka2.trans (At1.of_below kb)
  replace hR2 := hR2.at1 (At1.of_below (r := r) kb) (by omega)
  obtain ⟨⟨c0, c1, c2, c3, c4, c5, c6, c7, c8⟩, _⟩ := hF.all9
  obtain ⟨⟨z0, z1, z2, z3, z4, z5, z6, z7, z8⟩, f0, f1, f2, f3, f4, f5, f6, f7, f8⟩ := hA2.all9
  have HF := Lib.hid (And.intro hA2 (And.intro k3 (And.intro ka2 hR2)))
  clear hA2 k3 ka2 hR2 hF kb
  go_wp2_with fail
  obtain ⟨hO, hk⟩ := HF.out.1.put9 (x0 := .int .i64 n0) (x1 := .string s1_) (x2 := .int .i64 n2) (x3 := .int .i64 n3) (x4 := .int .i64 n4) (x5 := .int .i64 n5) (x6 := .int .i64 n6) (x7 := .int .i64 n7) (x8 := .slice A8 l8 c9)
  clear c0 c1 c2 c3 c4 c5 c6 c7 c8 z0 z1 z2 z3 z4 z5 z6 z7 z8 f0 f1 f2 f3 f4 f5 f6 f7 f8
  revert hO hk
  generalize (((((((((W1b.setCell _ _).setCell _ _).setCell _ _).setCell _ _).setCell _ _).setCell _ _).setCell _ _).setCell _ _).setCell _ _) = W2
  intro hO hk
  obtain ⟨⟨q0, q1, q2, q3, q4, q5, q6, q7, q8⟩, _⟩ := hO.all9
  refine bodyPost_ret (v := .agg #[.int .i64 n0, .string s1_, .int .i64 n2, .int .i64 n3, .int .i64 n4, .int .i64 n5, .int .i64 n6, .int .i64 n7, .slice A8 l8 c9]) (by simp [results, Tryz.results41, go_sem, q0, q1, q2, q3, q4, q5, q6, q7, q8]) rfl ?_
  refine ⟨HF.out.2.2.1.at_ hk (Nat.le_refl _), ⟨_, rfl, _, rfl, RegAt.keep (Nat.le_refl _) (fun g hg _ => ⟨Nat.le_of_lt (Nat.lt_of_lt_of_le zA hg), rfl⟩) _ _ (HF.out.2.2.2.at1 hk zA)⟩, HF.out.2.1.at_ hk hBw⟩
end Go.Proofs.YtmlpibdincfgbaaGreatDoor
