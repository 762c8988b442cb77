/-
  Queries, plain: the reference's reader, that goes on after an error and moves no more; it reads what the parser reads.
-/
import Derived.Test.YtmlpibdincfgbaaGreatDoorK4
namespace Qy

/-- The reference's reader: the tokens ahead; its first error. -/
abbrev St := List Tok × Option (Nat × Int)
def see (s : St) : Bs := match s.2 with
 | none => hd s.1
 | some _ => [32]
def failS (e : Int) (s : St) : St := match s.2 with
 | none => (s.1, some (hdAt s.1, e))
 | some _ => s
def adv (s : St) : St := (stp s.1, s.2)
def takeS (t : Bs) (s : St) : St := if see s = t then (if t = [] then s else adv s) else s
def needS (t : Bs) (s : St) : St := if see s = t then (if t = [] then s else adv s) else failS 2 s
def numS (lo hi : Int) (s : St) : Int × St :=
 if numOK (see s) = true then (if lo ≤ numV (see s) ∧ numV (see s) ≤ hi then (numV (see s), adv s) else (0, failS 5 s)) else (0, failS 2 s)
def pointS (x y : Int) (s : St) : (Int × Int) × St :=
 let a := numS x 1073741824 s
 let b := numS y 1073741824 (needS [44] a.2)
 ((a.1, b.1), b.2)
def nameS (s : St) : Bs × St := if isL ((see s).headD 0) = false then ([], failS 2 s) else if nameOK (see s) = false then ([], failS 6 s) else (see s, adv s)
mutual
def rReg : Nat → St → Reg × St
 | 0, s => (kidsR 0 [], s)
 | f + 1, s => let a := rItem f s
  if see a.2 = wAnd ∨ see a.2 = wOr then rJoin f (see a.2) [a.1] a.2 else a
def rJoin : Nat → Bs → List Reg → St → Reg × St
 | 0, _, _, s => (kidsR 0 [], s)
 | f + 1, op, acc, s => if see s = op then (let a := rItem f (adv s); rJoin f op (acc ++ [a.1]) a.2) else (kidsR (if op = wOr then 5 else 4) acc, s)
def rKids : Nat → St → List Reg × St
 | 0, s => ([], s)
 | f + 1, s => let s1 := needS [40] s
  if see s1 = [41] then ([], adv s1) else (let a := rReg f s1; rMore f [a.1] a.2)
def rMore : Nat → List Reg → St → List Reg × St
 | 0, _, s => ([], s)
 | f + 1, acc, s => if see s = [44] then (let a := rReg f (adv s); rMore f (acc ++ [a.1]) a.2) else (acc, needS [41] s)
def rItem : Nat → St → Reg × St
 | 0, s => (kidsR 0 [], s)
 | f + 1, s =>
  if see s = [40] then (let a := rReg f (adv s); (a.1, needS [41] a.2))
  else if see s = [119, 104, 111, 108, 101] then (kidsR 0 [], adv s)
  else if see s = [110, 97, 109, 101, 100] then (let a := nameS (adv s); (.mk 1 a.1 0 0 0 0 0 0 [], a.2))
  else if see s = [97, 116] then (let a := pointS (-1073741824) (-1073741824) (adv s); (.mk 2 [] a.1.1 a.1.2 0 0 0 0 [], a.2))
  else if see s = [119, 105, 116, 104, 105, 110] then
   (let a := pointS (-1073741824) (-1073741824) (adv s); let b := pointS a.1.1 a.1.2 (needS [116, 111] a.2); (.mk 3 [] 0 0 a.1.1 a.1.2 b.1.1 b.1.2 [], b.2))
  else if see s = [97, 108, 108] then (let a := rKids f (adv s); (kidsR 4 a.1, a.2))
  else if see s = [97, 110, 121] then (let a := rKids f (adv s); (kidsR 5 a.1, a.2))
  else if see s = [110, 111, 116] then (let a := rItem f (adv s); (kidsR 6 [a.1], a.2))
  else (kidsR 0 [], failS 2 s)
end
/-- The offices of a coalition. -/
def rOff : Nat → List Int → St → List Int × St
 | 0, acc, s => (acc, s)
 | f + 1, acc, s => if s.2 ≠ none then (acc, s) else
   if numOK (see s) = false ∨ numV (see s) < 0 ∨ 63 < numV (see s) then (acc, (numS 0 63 s).2)
   else if numV (see s) ∈ acc then (acc, failS 8 s) else if acc.length = 8 then (acc, failS 4 s)
   else if see (adv s) = [44] then rOff f (acc ++ [numV (see s)]) (adv (adv s)) else (acc ++ [numV (see s)], adv s)
def rView (f : Nat) (s : St) : (Int × List Int) × St :=
 if see s = [99, 111, 110, 116, 114, 111, 108] then ((2, []), adv s)
 else if see s = [111, 102, 102, 105, 99, 101] then (let a := numS 0 63 (adv s); ((0, [a.1]), a.2))
 else (let a := rOff f [] (needS [99, 111, 97, 108, 105, 116, 105, 111, 110] s); ((1, a.1), a.2))
def rQuery (f : Nat) (s : St) : Qry × St :=
 let k := numS 0 255 (needS [99, 111, 117, 110, 116] s)
 let r := rReg f (needS [111, 102] k.2)
 let v := rView f (needS [105, 110] r.2)
 let d := numS 0 73048 (needS [111, 110] v.2)
 let c := numS 0 23 (needS [97, 116] d.2)
 (⟨k.1, r.1, v.1.1, v.1.2, d.1, c.1⟩, needS [] c.2)
/-! ### After an error nothing moves -/
theorem ne_jo : ¬ (([32] : Bs) = wAnd ∨ ([32] : Bs) = wOr) := by decide
theorem see_bad {l : List Tok} {b : Nat × Int} : see (l, some b) = [32] := by
 have h : some b = some b := Eq.refl _
 cases h
 simp [see]
theorem failS_bad {e : Int} {l : List Tok} {b : Nat × Int} : failS e (l, some b) = (l, some b) := rfl
theorem needS_bad {t : Bs} (ht : t ≠ [32]) {l : List Tok} {b : Nat × Int} : needS t (l, some b) = (l, some b) := by
 unfold needS
 rw [see_bad, if_neg (fun e => ht e.symm), failS_bad]
theorem numS_bad {lo hi : Int} {l : List Tok} {b : Nat × Int} : numS lo hi (l, some b) = (0, (l, some b)) := by
 unfold numS
 rw [see_bad, if_neg (by decide), failS_bad]
theorem pointS_bad {x y : Int} {l : List Tok} {b : Nat × Int} : (pointS x y (l, some b)).2 = (l, some b) := by
 unfold pointS
 simp only [numS_bad, needS_bad (show [44] ≠ [32] by decide)]
theorem rItem_bad (f : Nat) {l : List Tok} {b : Nat × Int} : (rItem f (l, some b)).2 = (l, some b) := by
 cases f with
 | zero => rfl
 | succ f =>
  rw [rItem, see_bad]
  simp [failS]
theorem rReg_bad (f : Nat) {l : List Tok} {b : Nat × Int} : (rReg f (l, some b)).2 = (l, some b) := by
 cases f with
 | zero => rfl
 | succ f =>
  rw [rReg]
  simp only [rItem_bad]
  rw [see_bad, if_neg ne_jo, rItem_bad]
theorem rJoin_bad (f : Nat) {op : Bs} (ho : op = wAnd ∨ op = wOr) {acc : List Reg} {l : List Tok} {b : Nat × Int} : (rJoin f op acc (l, some b)).2 = (l, some b) := by
 cases f with
 | zero => rfl
 | succ f =>
  have hn : ¬ (([32] : Bs) = op) := by rcases ho with rfl | rfl <;> decide
  rw [rJoin, see_bad, if_neg hn]
theorem rMore_bad (f : Nat) {acc : List Reg} {l : List Tok} {b : Nat × Int} : (rMore f acc (l, some b)).2 = (l, some b) := by
 cases f with
 | zero => rfl
 | succ f =>
  rw [rMore, see_bad, if_neg (show ¬ (([32] : Bs) = [44]) by decide)]
  exact needS_bad (show [41] ≠ [32] by decide)
theorem rOff_bad (f : Nat) {acc : List Int} {l : List Tok} {b : Nat × Int} : rOff f acc (l, some b) = (acc, (l, some b)) := by
 cases f with
 | zero => rfl
 | succ f => rw [rOff, if_pos (by simp)]
theorem rView_bad (f : Nat) {l : List Tok} {b : Nat × Int} : (rView f (l, some b)).2 = (l, some b) := by
 unfold rView
 rw [see_bad, if_neg (show ¬ (([32] : Bs) = [99, 111, 110, 116, 114, 111, 108]) by decide), if_neg (show ¬ (([32] : Bs) = [111, 102, 102, 105, 99, 101]) by decide)]
 simp only [needS_bad (show [99, 111, 97, 108, 105, 116, 105, 111, 110] ≠ [32] by decide), rOff_bad]
/-! ### What the reference reads is what the parser reads -/
theorem need_rel {t : Bs} (ht : t ≠ []) (l : List Tok) : (∃ l1, need t l = .ok () l1 ∧ needS t (l, none) = (l1, none)) ∨ ∃ x, need t l = .bad x 2 ∧ needS t (l, none) = (l, some (x, 2)) := by
 unfold need needS
 have e : see (l, none) = hd l := rfl
 rw [e]
 by_cases h : hd l = t
 ·rw [if_pos h, if_pos h, if_neg ht]
  exact .inl ⟨_, rfl, rfl⟩
 ·rw [if_neg h, if_neg h]
  exact .inr ⟨_, rfl, rfl⟩
theorem num_rel {lo hi : Int} (l : List Tok) : (∃ n l1, pNum lo hi l = .ok n l1 ∧ numS lo hi (l, none) = (n, (l1, none))) ∨ ∃ x e, pNum lo hi l = .bad x e ∧ numS lo hi (l, none) = (0, (l, some (x, e))) := by
 unfold pNum numS
 have e : see (l, none) = hd l := rfl
 rw [e]
 by_cases h : numOK (hd l) = true
 ·rw [if_pos h, if_pos h]
  by_cases k : lo ≤ numV (hd l) ∧ numV (hd l) ≤ hi
  ·rw [if_pos k, if_pos k]
   exact .inl ⟨_, _, rfl, rfl⟩
  ·rw [if_neg k, if_neg k]
   exact .inr ⟨_, _, rfl, rfl⟩
 ·rw [if_neg h, if_neg h]
  exact .inr ⟨_, _, rfl, rfl⟩
theorem point_rel {x y : Int} (l : List Tok) : (∃ p l1, pPoint x y l = .ok p l1 ∧ pointS x y (l, none) = (p, (l1, none))) ∨ ∃ a e, pPoint x y l = .bad a e ∧ (pointS x y (l, none)).2.2 = some (a, e) := by
 unfold pPoint pointS
 rcases num_rel (lo := x) (hi := 1073741824) l with ⟨n, l1, h1, h2⟩ | ⟨a, e, h1, h2⟩
 ·rw [h1, h2]
  simp only [Res.on]
  rcases need_rel (t := [44]) (by simp) l1 with ⟨l2, k1, k2⟩ | ⟨a, k1, k2⟩
  ·rw [k1, k2]
   simp only
   rcases num_rel (lo := y) (hi := 1073741824) l2 with ⟨m, l3, j1, j2⟩ | ⟨a, e, j1, j2⟩
   ·rw [j1, j2]
    exact .inl ⟨_, _, rfl, rfl⟩
   ·rw [j1, j2]
    exact .inr ⟨_, _, rfl, rfl⟩
  ·rw [k1, k2, numS_bad]
   exact .inr ⟨_, _, rfl, rfl⟩
 ·rw [h1, h2]
  simp only [needS_bad (show [44] ≠ [32] by decide), numS_bad]
  exact .inr ⟨_, _, rfl, rfl⟩
/-- Either both read the same, or both fail alike. -/
def Two {α : Type} (p : Res α) (q : α × St) : Prop := (∃ a l, p = .ok a l ∧ q = (a, (l, none))) ∨ ∃ x e, p = .bad x e ∧ q.2.2 = some (x, e)
theorem bad_eq {α : Type} {q : α × St} {x : Nat} {e : Int} (h : q.2.2 = some (x, e)) : q = (q.1, (q.2.1, some (x, e))) := by
 obtain ⟨a, l, o⟩ := q
 simp only at h
 rw [h]
structure Twos (f : Nat) : Prop where
 reg : ∀ l, 3 * l.length + 2 ≤ f → Good l → Two (pReg f l) (rReg f (l, none))
 join : ∀ op acc l, op = wAnd ∨ op = wOr → 3 * l.length + 1 ≤ f → Good l → Two (pJoin f op acc l) (rJoin f op acc (l, none))
 list : ∀ l, 3 * l.length + 1 ≤ f → Good l → Two (pList f l) (rKids f (l, none))
 more : ∀ acc l, 3 * l.length + 1 ≤ f → Good l → Two (pMore f acc l) (rMore f acc (l, none))
 item : ∀ l, 3 * l.length + 1 ≤ f → Good l → Two (pItem f l) (rItem f (l, none))
theorem two_need {t : Bs} (ht : t ≠ []) {α : Type} (a : α) (l : List Tok) : Two ((need t l).on fun _ l => .ok a l) (a, needS t (l, none)) := by
 rcases need_rel ht l with ⟨l1, k1, k2⟩ | ⟨x, k1, k2⟩
 ·rw [k1, k2]
  exact .inl ⟨_, _, rfl, rfl⟩
 ·rw [k1, k2]
  exact .inr ⟨_, _, rfl, rfl⟩
theorem twos : ∀ f, Twos f := by
 intro f
 induction f using Nat.strongRecOn with
 | ind f ih =>
 match f, ih with
 | 0, _ => exact ⟨fun l h => absurd h (by omega), fun _ _ _ _ h => absurd h (by omega), fun _ h => absurd h (by omega), fun _ _ h => absurd h (by omega), fun _ h => absurd h (by omega)⟩
 | f + 1, ih =>
  have IH := ih f (Nat.lt_succ_self f)
  have EA := eats f
  have kstp : ∀ {l : List Tok} {s : Bs}, Good l → hd l = s → s ≠ [] → Less l (stp l) := fun hg e hs => ⟨hg.stp, hg.stp_lt (by rw [e]; exact hs)⟩
  have esee : ∀ l : List Tok, see (l, none) = hd l := fun _ => rfl
  have eadv : ∀ l : List Tok, adv (l, none) = (stp l, none) := fun _ => rfl
  refine ⟨fun l hf hg => ?_, fun op acc l ho hf hg => ?_, fun l hf hg => ?_, fun acc l hf hg => ?_, fun l hf hg => ?_⟩
  ·rw [pReg, rReg]
   rcases IH.item l (by omega) hg with ⟨r, l1, h1, h2⟩ | ⟨x, e, h1, h2⟩
   ·have k1 := EA.item l r l1 hg h1
    rw [h1, h2]
    simp only [Res.on, esee]
    by_cases h3 : hd l1 = wAnd ∨ hd l1 = wOr
    ·rw [if_pos h3, if_pos h3]
     exact IH.join _ _ _ h3 (by have := k1.2; omega) k1.1
    ·rw [if_neg h3, if_neg h3]
     exact .inl ⟨_, _, rfl, rfl⟩
   ·rw [h1, bad_eq h2]
    simp only [Res.on, see_bad]
    rw [if_neg ne_jo]
    exact .inr ⟨_, _, rfl, rfl⟩
  ·rw [pJoin, rJoin, esee, eadv]
   by_cases h3 : hd l = op
   ·rw [if_pos h3, if_pos h3]
    have k0 := kstp hg h3 (by rcases ho with rfl | rfl <;> simp [wAnd, wOr])
    rcases IH.item (stp l) (by have := k0.2; omega) k0.1 with ⟨r, l1, h1, h2⟩ | ⟨x, e, h1, h2⟩
    ·have k1 := EA.item _ r l1 k0.1 h1
     rw [h1, h2]
     simp only [Res.on]
     exact IH.join _ _ _ ho (by have := k0.2; have := k1.2; omega) k1.1
    ·rw [h1, bad_eq h2]
     simp only [Res.on]
     refine .inr ⟨_, _, rfl, ?_⟩
     rw [rJoin_bad f ho]
   ·rw [if_neg h3, if_neg h3]
    exact .inl ⟨_, _, rfl, rfl⟩
  ·rw [pList, rKids]
   rcases need_rel (t := [40]) (by simp) l with ⟨l1, k1, k2⟩ | ⟨x, k1, k2⟩
   ·have b1 := need_ok hg (by simp) k1
    rw [k1, k2]
    simp only [Res.on, esee, eadv]
    by_cases h3 : hd l1 = [41]
    ·rw [if_pos h3, if_pos h3]
     exact .inl ⟨_, _, rfl, rfl⟩
    ·rw [if_neg h3, if_neg h3]
     rcases IH.reg l1 (by have := b1.2; omega) b1.1 with ⟨r, l2, h1, h2⟩ | ⟨x, e, h1, h2⟩
     ·have b2 := EA.reg _ r l2 b1.1 h1
      rw [h1, h2]
      simp only
      exact IH.more _ _ (by have := b1.2; have := b2.2; omega) b2.1
     ·rw [h1, bad_eq h2]
      simp only
      refine .inr ⟨_, _, rfl, ?_⟩
      rw [rMore_bad]
   ·rw [k1, k2]
    simp only [Res.on, see_bad]
    rw [if_neg (show ¬ (([32] : Bs) = [41]) by decide)]
    have e : rReg f (l, some (x, 2)) = ((rReg f (l, some (x, 2))).1, (l, some (x, 2))) := Prod.ext rfl (rReg_bad f)
    refine .inr ⟨_, _, rfl, ?_⟩
    rw [e, rMore_bad]
  ·rw [pMore, rMore, esee, eadv]
   by_cases h3 : hd l = [44]
   ·rw [if_pos h3, if_pos h3]
    have k0 := kstp hg h3 (by simp)
    rcases IH.reg (stp l) (by have := k0.2; omega) k0.1 with ⟨r, l1, h1, h2⟩ | ⟨x, e, h1, h2⟩
    ·have k1 := EA.reg _ r l1 k0.1 h1
     rw [h1, h2]
     simp only [Res.on]
     exact IH.more _ _ (by have := k0.2; have := k1.2; omega) k1.1
    ·rw [h1, bad_eq h2]
     simp only [Res.on]
     refine .inr ⟨_, _, rfl, ?_⟩
     rw [rMore_bad]
   ·rw [if_neg h3, if_neg h3]
    exact two_need (by simp) acc l
  ·rw [pItem, rItem, esee, eadv]
   by_cases c0 : hd l = [40]
   ·have k0 := kstp hg c0 (by simp)
    unfold need
    rw [if_pos c0, if_pos c0]
    simp only [c0, show ¬ (([40] : Bs) = [119, 104, 111, 108, 101]) by decide, show ¬ (([40] : Bs) = [110, 97, 109, 101, 100]) by decide, show ¬ (([40] : Bs) = [97, 116]) by decide, show ¬ (([40] : Bs) = [119, 105, 116, 104, 105, 110]) by decide, show ¬ (([40] : Bs) = [110, 111, 116]) by decide, show ¬ (([40] : Bs) = [97, 108, 108]) by decide, show ¬ (([40] : Bs) = [97, 110, 121]) by decide, if_false, Res.on]
    rcases IH.reg (stp l) (by have := k0.2; omega) k0.1 with ⟨r, l1, h1, h2⟩ | ⟨x, e, h1, h2⟩
    ·rw [h1, h2]
     simp only
     exact two_need (by simp) r l1
    ·rw [h1, bad_eq h2]
     simp only
     refine .inr ⟨_, _, rfl, ?_⟩
     rw [needS_bad (by decide)]
   rw [if_neg c0]
   by_cases c1 : hd l = [119, 104, 111, 108, 101]
   ·rw [if_pos c1, if_pos c1]
    exact .inl ⟨_, _, rfl, rfl⟩
   rw [if_neg c1, if_neg c1]
   by_cases c2 : hd l = [110, 97, 109, 101, 100]
   ·rw [if_pos c2, if_pos c2]
    unfold nameS
    simp only [esee, eadv]
    split
    ·exact .inr ⟨_, _, rfl, rfl⟩
    split
    ·exact .inr ⟨_, _, rfl, rfl⟩
    ·exact .inl ⟨_, _, rfl, rfl⟩
   rw [if_neg c2, if_neg c2]
   by_cases c3 : hd l = [97, 116]
   ·rw [if_pos c3, if_pos c3]
    rcases point_rel (x := -1073741824) (y := -1073741824) (stp l) with ⟨p, l1, h1, h2⟩ | ⟨x, e, h1, h2⟩
    ·rw [h1, h2]
     exact .inl ⟨_, _, rfl, rfl⟩
    ·rw [h1]
     exact .inr ⟨_, _, rfl, h2⟩
   rw [if_neg c3, if_neg c3]
   by_cases c4 : hd l = [119, 105, 116, 104, 105, 110]
   ·rw [if_pos c4, if_pos c4]
    rcases point_rel (x := -1073741824) (y := -1073741824) (stp l) with ⟨p, l1, h1, h2⟩ | ⟨x, e, h1, h2⟩
    ·rw [h1, h2]
     simp only [Res.on]
     rcases need_rel (t := [116, 111]) (by simp) l1 with ⟨l2, k1, k2⟩ | ⟨x, k1, k2⟩
     ·rw [k1, k2]
      simp only
      rcases point_rel (x := p.1) (y := p.2) l2 with ⟨q, l3, j1, j2⟩ | ⟨x, e, j1, j2⟩
      ·rw [j1, j2]
       exact .inl ⟨_, _, rfl, rfl⟩
      ·rw [j1]
       exact .inr ⟨_, _, rfl, j2⟩
     ·rw [k1, k2]
      refine .inr ⟨_, _, rfl, ?_⟩
      rw [pointS_bad]
    ·have e2 : pointS (-1073741824) (-1073741824) (stp l, none) = ((pointS (-1073741824) (-1073741824) (stp l, none)).1, ((pointS (-1073741824) (-1073741824) (stp l, none)).2.1, some (x, e))) := bad_eq h2
     rw [h1, e2]
     refine .inr ⟨_, _, rfl, ?_⟩
     simp only [needS_bad (show [116, 111] ≠ [32] by decide), pointS_bad]
   rw [if_neg c4, if_neg c4]
   by_cases c5 : hd l = [97, 108, 108]
   ·have k0 := kstp hg c5 (by simp)
    have c7 : ¬ hd l = [110, 111, 116] := by rw [c5]; decide
    rw [if_neg c7, if_pos c5, if_pos c5]
    rcases IH.list (stp l) (by have := k0.2; omega) k0.1 with ⟨r, l1, h1, h2⟩ | ⟨x, e, h1, h2⟩
    ·rw [h1, h2]
     exact .inl ⟨_, _, rfl, rfl⟩
    ·rw [h1]
     exact .inr ⟨_, _, rfl, h2⟩
   by_cases c6 : hd l = [97, 110, 121]
   ·have k0 := kstp hg c6 (by simp)
    have c7 : ¬ hd l = [110, 111, 116] := by rw [c6]; decide
    rw [if_neg c7, if_neg c5, if_pos c6, if_neg c5, if_pos c6]
    rcases IH.list (stp l) (by have := k0.2; omega) k0.1 with ⟨r, l1, h1, h2⟩ | ⟨x, e, h1, h2⟩
    ·rw [h1, h2]
     exact .inl ⟨_, _, rfl, rfl⟩
    ·rw [h1]
     exact .inr ⟨_, _, rfl, h2⟩
   rw [if_neg c5, if_neg c6]
   by_cases c7 : hd l = [110, 111, 116]
   ·have k0 := kstp hg c7 (by simp)
    rw [if_pos c7, if_neg c5, if_neg c6, if_pos c7]
    rcases IH.item (stp l) (by have := k0.2; omega) k0.1 with ⟨r, l1, h1, h2⟩ | ⟨x, e, h1, h2⟩
    ·rw [h1, h2]
     exact .inl ⟨_, _, rfl, rfl⟩
    ·rw [h1]
     exact .inr ⟨_, _, rfl, h2⟩
   rw [if_neg c7, if_neg c7, if_neg c5, if_neg c6]
   unfold need
   rw [if_neg c0]
   exact .inr ⟨_, _, rfl, rfl⟩
/-! ### Views, queries -/
theorem off_two : ∀ (f : Nat) (acc : List Int) (l : List Tok), l.length < f → Good l → Two (pOff f acc l) (rOff f acc (l, none)) := by
 intro f
 induction f with
 | zero => intro acc l h; omega
 | succ f ih =>
  intro acc l hf hg
  rw [pOff, rOff, if_neg (by simp)]
  have esee : ∀ l : List Tok, see (l, none) = hd l := fun _ => rfl
  have eadv : ∀ l : List Tok, adv (l, none) = (stp l, none) := fun _ => rfl
  rw [esee, eadv]
  by_cases h : numOK (hd l) = false ∨ numV (hd l) < 0 ∨ 63 < numV (hd l)
  ·rw [if_pos h]
   rcases num_rel (lo := 0) (hi := 63) l with ⟨n, l1, h1, h2⟩ | ⟨x, e, h1, h2⟩
   ·exfalso
    unfold pNum at h1
    split at h1
    ·rename_i e1
     split at h1
     ·rename_i e2
      rcases h with h | h | h
      ·rw [h] at e1; cases e1
      ·omega
      ·omega
     ·cases h1
    ·cases h1
   ·rw [h1, h2]
    exact .inr ⟨_, _, rfl, rfl⟩
  ·rw [if_neg h]
   have h1 : pNum 0 63 l = .ok (numV (hd l)) (stp l) := by
    unfold pNum
    rw [if_pos (by cases k : numOK (hd l) with
     | true => rfl
     | false => exact absurd (.inl k) h), if_pos (by omega)]
   have k1 := (pNum_ok hg h1).1
   rw [h1]
   simp only [Res.on]
   split
   ·exact .inr ⟨_, _, rfl, rfl⟩
   split
   ·exact .inr ⟨_, _, rfl, rfl⟩
   rw [esee, eadv]
   split
   ·exact ih _ _ (by have := k1.2; have := stp_le (stp l); omega) k1.1.stp
   ·exact .inl ⟨_, _, rfl, rfl⟩
theorem view_two (f : Nat) (l : List Tok) (hf : l.length < f) (hg : Good l) : Two (pView f l) (rView f (l, none)) := by
 unfold pView rView
 have esee : ∀ l : List Tok, see (l, none) = hd l := fun _ => rfl
 have eadv : ∀ l : List Tok, adv (l, none) = (stp l, none) := fun _ => rfl
 rw [esee, eadv]
 split
 ·exact .inl ⟨_, _, rfl, rfl⟩
 split
 ·rcases num_rel (lo := 0) (hi := 63) (stp l) with ⟨n, l1, h1, h2⟩ | ⟨x, e, h1, h2⟩
  ·rw [h1, h2]
   exact .inl ⟨_, _, rfl, rfl⟩
  ·rw [h1, h2]
   exact .inr ⟨_, _, rfl, rfl⟩
 ·rcases need_rel (t := [99, 111, 97, 108, 105, 116, 105, 111, 110]) (by simp) l with ⟨l1, k1, k2⟩ | ⟨x, k1, k2⟩
  ·have b1 := need_ok hg (by simp) k1
   rw [k1, k2]
   simp only [Res.on]
   rcases off_two f [] l1 (by have := b1.2; omega) b1.1 with ⟨o, l2, h1, h2⟩ | ⟨x, e, h1, h2⟩
   ·rw [h1, h2]
    exact .inl ⟨_, _, rfl, rfl⟩
   ·rw [h1]
    exact .inr ⟨_, _, rfl, h2⟩
  ·rw [k1, k2, rOff_bad]
   exact .inr ⟨_, _, rfl, rfl⟩
theorem query_two (f : Nat) (l : List Tok) (hf2 : 3 * l.length + 2 ≤ f) (hg : Good l) : Two (pQuery f l) (rQuery f (l, none)) := by
 unfold pQuery rQuery
 have nb : ∀ {t : Bs} (l : List Tok) (b : Nat × Int), t ≠ [32] → needS t (l, some b) = (l, some b) := fun l b h => needS_bad h
 rcases need_rel (t := [99, 111, 117, 110, 116]) (by simp) l with ⟨l1, a1, a2⟩ | ⟨x, a1, a2⟩
 ·have g1 := need_ok hg (by simp) a1
  rw [a1, a2]
  simp only [Res.on]
  rcases num_rel (lo := 0) (hi := 255) l1 with ⟨k, l2, b1, b2⟩ | ⟨x, e, b1, b2⟩
  ·have g2 := g1.trans (pNum_ok g1.1 b1).1.le
   rw [b1, b2]
   simp only
   rcases need_rel (t := [111, 102]) (by simp) l2 with ⟨l3, c1, c2⟩ | ⟨x, c1, c2⟩
   ·have g3 := g2.trans (need_ok g2.1 (by simp) c1).le
    rw [c1, c2]
    simp only
    rcases (twos f).reg l3 (by have := g3.2; omega) g3.1 with ⟨r, l4, d1, d2⟩ | ⟨x, e, d1, d2⟩
    ·have g4 := g3.trans ((eats f).reg _ _ _ g3.1 d1).le
     rw [d1, d2]
     simp only
     rcases need_rel (t := [105, 110]) (by simp) l4 with ⟨l5, e1, e2⟩ | ⟨x, e1, e2⟩
     ·have g5 := g4.trans (need_ok g4.1 (by simp) e1).le
      rw [e1, e2]
      simp only
      rcases view_two f l5 (by have := g5.2; omega) g5.1 with ⟨v, l6, i1, i2⟩ | ⟨x, e, i1, i2⟩
      ·have g6 := g5.trans (pView_ok g5.1 i1).le
       rw [i1, i2]
       simp only
       rcases need_rel (t := [111, 110]) (by simp) l6 with ⟨l7, j1, j2⟩ | ⟨x, j1, j2⟩
       ·rw [j1, j2]
        simp only
        rcases num_rel (lo := 0) (hi := 73048) l7 with ⟨dd, l8, m1, m2⟩ | ⟨x, e, m1, m2⟩
        ·rw [m1, m2]
         simp only
         rcases need_rel (t := [97, 116]) (by simp) l8 with ⟨l9, n1, n2⟩ | ⟨x, n1, n2⟩
         ·rw [n1, n2]
          simp only
          rcases num_rel (lo := 0) (hi := 23) l9 with ⟨sc, l10, o1, o2⟩ | ⟨x, e, o1, o2⟩
          ·rw [o1, o2]
           simp only
           unfold need needS
           have es : see (l10, none) = hd l10 := rfl
           rw [es]
           by_cases h : hd l10 = []
           ·rw [if_pos h, if_pos h, if_pos rfl]
            have k6 := pView_ok g5.1 i1
            have h7 := need_le k6.1 j1
            have h8 := (pNum_ok h7.1 m1).1
            have h9 := need_le h8.1 n1
            have h10 := (pNum_ok h9.1 o1).1
            have : stp l10 = l10 := by
             obtain ⟨pre, n, rfl, hp⟩ := h10.1
             match pre, hp, h with
             | [], _, _ => rfl
             | t :: r, hp, h => exact absurd h (hp t (by simp)).1
            rw [this]
            exact .inl ⟨_, _, rfl, rfl⟩
           ·rw [if_neg h, if_neg h]
            exact .inr ⟨_, _, rfl, rfl⟩
          ·rw [o1, o2]
           simp only
           rw [nb _ _ (by decide)]
           exact .inr ⟨_, _, rfl, rfl⟩
         ·rw [n1, n2]
          simp only [numS_bad]
          rw [nb _ _ (by decide)]
          exact .inr ⟨_, _, rfl, rfl⟩
        ·rw [m1, m2]
         simp only [needS_bad (show [97, 116] ≠ [32] by decide), numS_bad]
         rw [nb _ _ (by decide)]
         exact .inr ⟨_, _, rfl, rfl⟩
       ·rw [j1, j2]
        simp only [needS_bad (show [97, 116] ≠ [32] by decide), numS_bad]
        rw [nb _ _ (by decide)]
        exact .inr ⟨_, _, rfl, rfl⟩
      ·rw [i1, bad_eq i2]
       simp only [needS_bad (show [97, 116] ≠ [32] by decide), needS_bad (show [111, 110] ≠ [32] by decide), numS_bad]
       rw [nb _ _ (by decide)]
       exact .inr ⟨_, _, rfl, rfl⟩
     ·rw [e1, e2]
      simp only [rView_bad, needS_bad (show [97, 116] ≠ [32] by decide), needS_bad (show [111, 110] ≠ [32] by decide), numS_bad]
      rw [nb _ _ (by decide)]
      exact .inr ⟨_, _, rfl, rfl⟩
    ·rw [d1, bad_eq d2]
     simp only [needS_bad (show [105, 110] ≠ [32] by decide), rView_bad, needS_bad (show [97, 116] ≠ [32] by decide), needS_bad (show [111, 110] ≠ [32] by decide), numS_bad]
     rw [nb _ _ (by decide)]
     exact .inr ⟨_, _, rfl, rfl⟩
   ·rw [c1, c2]
    simp only [rReg_bad, needS_bad (show [105, 110] ≠ [32] by decide), rView_bad, needS_bad (show [97, 116] ≠ [32] by decide), needS_bad (show [111, 110] ≠ [32] by decide), numS_bad]
    rw [nb _ _ (by decide)]
    exact .inr ⟨_, _, rfl, rfl⟩
  ·rw [b1, b2]
   simp only [needS_bad (show [111, 102] ≠ [32] by decide), rReg_bad, needS_bad (show [105, 110] ≠ [32] by decide), rView_bad, needS_bad (show [97, 116] ≠ [32] by decide), needS_bad (show [111, 110] ≠ [32] by decide), numS_bad]
   rw [nb _ _ (by decide)]
   exact .inr ⟨_, _, rfl, rfl⟩
 ·rw [a1, a2]
  simp only [numS_bad, needS_bad (show [111, 102] ≠ [32] by decide), rReg_bad, needS_bad (show [105, 110] ≠ [32] by decide), rView_bad, needS_bad (show [97, 116] ≠ [32] by decide), needS_bad (show [111, 110] ≠ [32] by decide), numS_bad]
  rw [nb _ _ (by decide)]
  exact .inr ⟨_, _, rfl, rfl⟩
end Qy
