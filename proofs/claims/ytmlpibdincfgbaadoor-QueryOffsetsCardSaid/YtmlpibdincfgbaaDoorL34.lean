/-
  Queries, plain: equal regions, as the reference compares them; an error is never zero; texts with further spaces.
-/
import Derived.Test.YtmlpibdincfgbaaDoorL31
import Derived.Test.YtmlpibdincfgbaaDoorL32
namespace Qy

mutual
/-- Equal regions. -/
def sameR : Reg → Reg → Bool
  | .mk k nm ax ay b0 b1 b2 b3 l, .mk k' nm' ax' ay' c0 c1 c2 c3 l' =>
    decide (k = k') && decide (nm = nm') && (decide (ax = ax') && decide (ay = ay')) && (decide (b0 = c0) && decide (b1 = c1) && decide (b2 = c2) && decide (b3 = c3)) && decide (l.length = l'.length) && sameL l l'
def sameL : List Reg → List Reg → Bool
  | [], _ => true
  | _ :: _, [] => true
  | r :: l, r' :: l' => sameR r r' && sameL l l'
end
mutual
theorem sameR_self : ∀ r, sameR r r = true
  | .mk k nm ax ay b0 b1 b2 b3 l => by rw [sameR, sameL_self l]; simp
theorem sameL_self : ∀ l, sameL l l = true
  | [] => by rw [sameL]
  | r :: l => by rw [sameL, sameR_self r, sameL_self l]; rfl
end
mutual
theorem sameR_eq : ∀ a b, sameR a b = true → a = b
  | .mk k nm ax ay b0 b1 b2 b3 l, .mk k' nm' ax' ay' c0 c1 c2 c3 l', h => by
    rw [sameR] at h
    simp only [Bool.and_eq_true, decide_eq_true_eq] at h
    obtain ⟨⟨⟨⟨⟨rfl, rfl⟩, rfl, rfl⟩, ⟨⟨rfl, rfl⟩, rfl⟩, rfl⟩, hl⟩, hs⟩ := h
    rw [sameL_eq l l' hl hs]
theorem sameL_eq : ∀ l l', l.length = l'.length → sameL l l' = true → l = l'
  | [], [], _, _ => rfl
  | [], _ :: _, h, _ => by simp at h
  | _ :: _, [], h, _ => by simp at h
  | r :: l, r' :: l', h, hs => by
    rw [sameL] at hs
    simp only [Bool.and_eq_true] at hs
    rw [sameR_eq r r' hs.1, sameL_eq l l' (by simpa using h) hs.2]
end
theorem sameR_iff (a b : Reg) : sameR a b = true ↔ a = b := ⟨sameR_eq a b, fun h => h ▸ sameR_self a⟩
/-- From the i-th kid on. -/
theorem sameL_drop {l l' : List Reg} {i : Nat} {r r' : Reg} (h : l[i]? = some r) (h' : l'[i]? = some r') : sameL (l.drop i) (l'.drop i) = (sameR r r' && sameL (l.drop (i + 1)) (l'.drop (i + 1))) := by
  have h1 := (List.getElem?_eq_some_iff.1 h)
  have h2 := (List.getElem?_eq_some_iff.1 h')
  obtain ⟨a1, rfl⟩ := h1
  obtain ⟨a2, rfl⟩ := h2
  rw [List.drop_eq_getElem_cons a1, List.drop_eq_getElem_cons a2, sameL]
/-! ### An error is never zero -/
theorem Res.on_bad {α β : Type} {r : Res α} {f : α → List Tok → Res β} {x : Nat} {e : Int} (h : r.on f = .bad x e) : r = .bad x e ∨ ∃ a l1, r = .ok a l1 ∧ f a l1 = .bad x e := by
  cases r with
  | ok a l => exact .inr ⟨a, l, rfl, h⟩
  | bad y e' => exact .inl (by simp only [Res.on, Res.bad.injEq] at h; rw [h.1, h.2])
theorem need_nz {s : Bs} {l : List Tok} {x : Nat} {e : Int} (h : need s l = .bad x e) : e ≠ 0 := by
  unfold need at h
  split at h
  · cases h
  · injection h with _ h; omega
theorem pNum_nz {lo hi : Int} {l : List Tok} {x : Nat} {e : Int} (h : pNum lo hi l = .bad x e) : e ≠ 0 := by
  unfold pNum at h
  split at h
  · split at h
    · cases h
    · injection h with _ h; omega
  · injection h with _ h; omega
theorem pPoint_nz {a b : Int} {l : List Tok} {x : Nat} {e : Int} (h : pPoint a b l = .bad x e) : e ≠ 0 := by
  unfold pPoint at h
  rcases Res.on_bad h with h | ⟨u, l1, _, h⟩
  · exact pNum_nz h
  rcases Res.on_bad h with h | ⟨u, l1, _, h⟩
  · exact need_nz h
  rcases Res.on_bad h with h | ⟨u, l1, _, h⟩
  · exact pNum_nz h
  · cases h
structure NoZ (f : Nat) : Prop where
  reg : ∀ l x e, Good l → 3 * l.length + 2 ≤ f → pReg f l = .bad x e → e ≠ 0
  join : ∀ op acc l x e, op ≠ [] → Good l → 3 * l.length + 1 ≤ f → pJoin f op acc l = .bad x e → e ≠ 0
  list : ∀ l x e, Good l → 3 * l.length + 1 ≤ f → pList f l = .bad x e → e ≠ 0
  more : ∀ acc l x e, Good l → 3 * l.length + 1 ≤ f → pMore f acc l = .bad x e → e ≠ 0
  item : ∀ l x e, Good l → 3 * l.length + 1 ≤ f → pItem f l = .bad x e → e ≠ 0
theorem noz : ∀ f, NoZ f := by
  intro f
  induction f with
  | zero => exact ⟨fun _ _ _ _ h => by omega, fun _ _ _ _ _ _ _ h => by omega, fun _ _ _ _ h => by omega, fun _ _ _ _ _ h => by omega, fun _ _ _ _ h => by omega⟩
  | succ f ih =>
    have EA := eats f
    refine ⟨fun l x e hg hf h => ?_, fun op acc l x e ho hg hf h => ?_, fun l x e hg hf h => ?_, fun acc l x e hg hf h => ?_, fun l x e hg hf h => ?_⟩
    · rw [pReg] at h
      rcases Res.on_bad h with h | ⟨a, l1, h1, h⟩
      · exact ih.item _ _ _ hg (by omega) h
      have g1 := EA.item l a l1 hg h1
      split at h
      · rename_i k
        exact ih.join _ _ _ _ _ (by rcases k with k | k <;> rw [k] <;> simp [wAnd, wOr]) g1.1 (by have := g1.2; omega) h
      · cases h
    · rw [pJoin] at h
      split at h
      · rename_i k
        have hlt := hg.stp_lt (by rw [k]; exact ho)
        rcases Res.on_bad h with h | ⟨a, l1, h1, h⟩
        · exact ih.item _ _ _ hg.stp (by omega) h
        have g1 := EA.item _ a l1 hg.stp h1
        exact ih.join _ _ _ _ _ ho g1.1 (by have := g1.2; omega) h
      · cases h
    · rw [pList] at h
      rcases Res.on_bad h with h | ⟨a, l1, h1, h⟩
      · exact need_nz h
      have g1 := need_ok hg (by simp) h1
      split at h
      · cases h
      rcases Res.on_bad h with h | ⟨b, l2, h2, h⟩
      · exact ih.reg _ _ _ g1.1 (by have := g1.2; omega) h
      have g2 := EA.reg _ b l2 g1.1 h2
      exact ih.more _ _ _ _ g2.1 (by have := g1.2; have := g2.2; omega) h
    · rw [pMore] at h
      split at h
      · rename_i k
        have hlt := hg.stp_lt (by rw [k]; simp)
        rcases Res.on_bad h with h | ⟨a, l1, h1, h⟩
        · exact ih.reg _ _ _ hg.stp (by omega) h
        have g1 := EA.reg _ a l1 hg.stp h1
        exact ih.more _ _ _ _ g1.1 (by have := g1.2; omega) h
      rcases Res.on_bad h with h | ⟨a, l1, h1, h⟩
      · exact need_nz h
      · cases h
    · rw [pItem] at h
      have ks : ∀ {s : Bs}, hd l = s → s ≠ [] → Less l (stp l) := fun e hs => ⟨hg.stp, hg.stp_lt (by rw [e]; exact hs)⟩
      split at h
      · cases h
      split at h
      · split at h
        · injection h with _ h; omega
        split at h
        · injection h with _ h; omega
        · cases h
      split at h
      · rcases Res.on_bad h with h | ⟨a, l1, h1, h⟩
        · exact pPoint_nz h
        · cases h
      split at h
      · rcases Res.on_bad h with h | ⟨a, l1, h1, h⟩
        · exact pPoint_nz h
        rcases Res.on_bad h with h | ⟨a, l1, h1, h⟩
        · exact need_nz h
        rcases Res.on_bad h with h | ⟨a, l1, h1, h⟩
        · exact pPoint_nz h
        · cases h
      split at h
      · rename_i k
        have k0 := ks k (by simp)
        rcases Res.on_bad h with h | ⟨a, l1, h1, h⟩
        · exact ih.item _ _ _ k0.1 (by have := k0.2; omega) h
        · cases h
      split at h
      · rename_i k
        have k0 := ks k (by simp)
        rcases Res.on_bad h with h | ⟨a, l1, h1, h⟩
        · exact ih.list _ _ _ k0.1 (by have := k0.2; omega) h
        · cases h
      split at h
      · rename_i k
        have k0 := ks k (by simp)
        rcases Res.on_bad h with h | ⟨a, l1, h1, h⟩
        · exact ih.list _ _ _ k0.1 (by have := k0.2; omega) h
        · cases h
      rcases Res.on_bad h with h | ⟨a, l1, h1, h⟩
      · exact need_nz h
      have k0 := need_ok hg (by simp) h1
      rcases Res.on_bad h with h | ⟨b, l2, h2, h⟩
      · exact ih.reg _ _ _ k0.1 (by have := k0.2; omega) h
      rcases Res.on_bad h with h | ⟨b, l2, h2, h⟩
      · exact need_nz h
      · cases h
theorem pOff_nz : ∀ (f : Nat) (acc : List Int) (l : List Tok) (x : Nat) (e : Int), Good l → l.length ≤ f → 1 ≤ f → pOff f acc l = .bad x e → e ≠ 0 := by
  intro f
  induction f with
  | zero => intro acc l x e hg hf h1; omega
  | succ f ih =>
    intro acc l x e hg hf h1 h
    rw [pOff] at h
    rcases Res.on_bad h with h | ⟨n, l1, h1, h⟩
    · exact pNum_nz h
    have g1 := (pNum_ok hg h1).1
    split at h
    · injection h with _ h; omega
    split at h
    · injection h with _ h; omega
    split at h
    · rename_i k
      have hlt := g1.1.stp_lt (by rw [k]; simp)
      have := g1.2
      have hp := g1.1.stp.pos
      exact ih _ _ _ _ g1.1.stp (by omega) (by omega) h
    · cases h
theorem pView_nz {f : Nat} {l : List Tok} {x : Nat} {e : Int} (hg : Good l) (hf : l.length ≤ f) (h : pView f l = .bad x e) : e ≠ 0 := by
  unfold pView at h
  split at h
  · cases h
  split at h
  · rcases Res.on_bad h with h | ⟨n, l1, h1, h⟩
    · exact pNum_nz h
    · cases h
  rcases Res.on_bad h with h | ⟨n, l1, h1, h⟩
  · exact need_nz h
  have g1 := need_ok hg (by simp) h1
  rcases Res.on_bad h with h | ⟨n, l2, h2, h⟩
  · have := g1.2
    exact pOff_nz _ _ _ _ _ g1.1 (by omega) (by have := hg.pos; omega) h
  · cases h
theorem query_nz {f : Nat} {l : List Tok} {x : Nat} {e : Int} (hg : Good l) (hf : 3 * l.length + 2 ≤ f) (h : pQuery f l = .bad x e) : e ≠ 0 := by
  unfold pQuery at h
  rcases Res.on_bad h with h | ⟨a, l1, h1, h⟩
  · exact need_nz h
  have g1 := need_ok hg (by simp) h1
  rcases Res.on_bad h with h | ⟨a, l2, h2, h⟩
  · exact pNum_nz h
  have g2 := g1.trans (pNum_ok g1.1 h2).1.le
  rcases Res.on_bad h with h | ⟨a, l3, h3, h⟩
  · exact need_nz h
  have g3 := g2.trans (need_ok g2.1 (by simp) h3).le
  rcases Res.on_bad h with h | ⟨a, l4, h4, h⟩
  · exact (noz f).reg _ _ _ g3.1 (by have := g3.2; omega) h
  have g4 := g3.trans ((eats f).reg _ _ _ g3.1 h4).le
  rcases Res.on_bad h with h | ⟨a, l5, h5, h⟩
  · exact need_nz h
  have g5 := g4.trans (need_ok g4.1 (by simp) h5).le
  rcases Res.on_bad h with h | ⟨a, l6, h6, h⟩
  · exact pView_nz g5.1 (by have := g5.2; omega) h
  rcases Res.on_bad h with h | ⟨a, l7, h7, h⟩
  · exact need_nz h
  rcases Res.on_bad h with h | ⟨a, l8, h8, h⟩
  · exact pNum_nz h
  rcases Res.on_bad h with h | ⟨a, l9, h9, h⟩
  · exact need_nz h
  rcases Res.on_bad h with h | ⟨a, l10, h10, h⟩
  · exact pNum_nz h
  rcases Res.on_bad h with h | ⟨a, l11, h11, h⟩
  · exact need_nz h
  · cases h
/-! ### Further spaces -/
/-- A token's text, read again, is one token. -/
def Whole (t : Bs) : Prop := ∃ c w, t = c :: w ∧ c ≠ 32 ∧ ∀ d ∈ w, more c d = true
theorem more_space (c : UInt8) : more c 32 = false := by
  have h1 : isW 32 = false := by decide
  have h2 : isD 32 = false := by decide
  unfold more
  split
  · exact h1
  split
  · exact h2
  · rfl
theorem toks_whole : ∀ (n : Nat) (s : Bs) (i : Nat), s.length ≤ n → ∃ pre, toks s i = pre ++ [⟨[], i + s.length⟩] ∧ ∀ t ∈ pre, Whole t.text := by
  intro n
  induction n with
  | zero =>
    intro s i h
    have : s = [] := List.eq_nil_of_length_eq_zero (by omega)
    subst this
    rw [toks]
    exact ⟨[], rfl, by simp⟩
  | succ n ih =>
    intro s i h
    match s, h with
    | [], _ =>
      rw [toks]
      exact ⟨[], rfl, by simp⟩
    | c :: s, h =>
      rw [toks]
      simp only [List.length_cons] at h
      split
      · obtain ⟨pre, h1, h2⟩ := ih s (i + 1) (by omega)
        exact ⟨pre, by rw [h1, List.length_cons, show i + 1 + s.length = i + (s.length + 1) by omega], h2⟩
      · rename_i hc
        have hd := drop_le (more c) s
        obtain ⟨pre, h1, h2⟩ := ih (s.dropWhile (more c)) (i + 1 + (s.takeWhile (more c)).length) (by omega)
        have hl : (s.takeWhile (more c)).length + (s.dropWhile (more c)).length = s.length := by
          rw [← List.length_append, List.takeWhile_append_dropWhile]
        refine ⟨⟨c :: s.takeWhile (more c), i⟩ :: pre, ?_, fun t ht => ?_⟩
        · rw [h1, List.cons_append, List.length_cons, show i + 1 + (s.takeWhile (more c)).length + (s.dropWhile (more c)).length = i + (s.length + 1) by omega]
        · rcases List.mem_cons.1 ht with rfl | ht
          · exact ⟨c, _, rfl, hc, takeWhile_all⟩
          · exact h2 t ht
theorem toks_spaces (k : Nat) (s : Bs) (i : Nat) : toks (List.replicate k 32 ++ s) i = toks s (i + k) := by
  induction k generalizing i with
  | zero => rfl
  | succ k ih =>
    rw [List.replicate_succ, List.cons_append, toks, if_pos rfl, ih, show i + 1 + k = i + (k + 1) by omega]
theorem take_more {c : UInt8} {w : Bs} (h : ∀ d ∈ w, more c d = true) (r : Bs) : (w ++ 32 :: r).takeWhile (more c) = w ∧ (w ++ 32 :: r).dropWhile (more c) = 32 :: r := by
  induction w with
  | nil => simp [more_space]
  | cons d w ih =>
    have h1 := h d (by simp)
    have h2 := ih fun x hx => h x (List.mem_cons_of_mem _ hx)
    simp [h1, h2]
/-- The tokens' texts, p of the token's number and one more spaces ahead of each. -/
def sp (p : Nat → Nat) : Nat → List Tok → Bs
  | _, [] => []
  | i, t :: r => List.replicate (p i + 1) 32 ++ (t.text ++ sp p (i + 1) r)
/-- The same tokens there. -/
def spt (p : Nat → Nat) : Nat → Nat → List Tok → List Tok
  | _, _, [] => []
  | i, o, t :: r => ⟨t.text, o + (p i + 1)⟩ :: spt p (i + 1) (o + (p i + 1) + t.text.length) r
theorem toks_sp (p : Nat → Nat) : ∀ (pre : List Tok) (n i o : Nat), (∀ t ∈ pre, Whole t.text) → toks (sp p i (pre ++ [⟨[], n⟩])) o = spt p i o (pre ++ [⟨[], n⟩]) := by
  intro pre
  induction pre with
  | nil =>
    intro n i o _
    rw [List.nil_append, sp, sp, spt, spt, toks_spaces, List.append_nil, toks]
  | cons t pre ih =>
    intro n i o h
    obtain ⟨c, w, hc, h32, hw⟩ := h t (by simp)
    have e1 : ∃ r, sp p (i + 1) (pre ++ [⟨[], n⟩]) = 32 :: r := by
      cases pre with
      | nil => exact ⟨_, by rw [List.nil_append, sp, List.replicate_succ, List.cons_append]⟩
      | cons u pre => exact ⟨_, by rw [List.cons_append, sp, List.replicate_succ, List.cons_append]⟩
    have h2 := ih n (i + 1) (o + (p i + 1) + t.text.length) fun u hu => h u (List.mem_cons_of_mem _ hu)
    rw [List.cons_append, sp, spt, toks_spaces, ← h2]
    obtain ⟨r, e1⟩ := e1
    rw [e1, hc, List.cons_append, toks, if_neg h32, (take_more hw r).1, (take_more hw r).2, List.length_cons, show o + (p i + 1) + 1 + w.length = o + (p i + 1) + (w.length + 1) by omega]
theorem spt_len (p : Nat → Nat) : ∀ (l : List Tok) (i o : Nat), (spt p i o l).length = l.length := by
  intro l
  induction l with
  | nil => intro i o; rfl
  | cons t l ih => intro i o; rw [spt, List.length_cons, ih, List.length_cons]
theorem spt_text (p : Nat → Nat) : ∀ (l : List Tok) (i o j : Nat) (t : Tok), l[j]? = some t → ∃ u, (spt p i o l)[j]? = some u ∧ u.text = t.text := by
  intro l
  induction l with
  | nil => intro i o j t h; simp at h
  | cons t l ih =>
    intro i o j u h
    rw [spt]
    cases j with
    | zero =>
      simp only [List.getElem?_cons_zero, Option.some.injEq] at h ⊢
      exact ⟨_, rfl, by rw [← h]⟩
    | succ j => exact ih _ _ j u (by simpa using h)
/-- Tokens with both offsets. -/
theorem dubs : ∀ (A B : List Tok), A.length = B.length → (∀ (j : Nat) (t : Tok), A[j]? = some t → ∃ u, B[j]? = some u ∧ u.text = t.text) → ∃ z : List Dub, dA z = A ∧ dB z = B
  | [], [], _, _ => ⟨[], rfl, rfl⟩
  | [], _ :: _, h, _ => by simp at h
  | _ :: _, [], h, _ => by simp at h
  | t :: A, u :: B, h, ht => by
    obtain ⟨z, h1, h2⟩ := dubs A B (by simpa using h) fun j t hj => by
      obtain ⟨u, k1, k2⟩ := ht (j + 1) t (by simpa using hj)
      exact ⟨u, by simpa using k1, k2⟩
    obtain ⟨u', k1, k2⟩ := ht 0 t rfl
    simp only [List.getElem?_cons_zero, Option.some.injEq] at k1
    subst k1
    refine ⟨(t.text, t.at_, u.at_) :: z, ?_, ?_⟩
    · unfold dA at h1 ⊢; rw [List.map_cons, h1]
    · unfold dB at h2 ⊢; rw [List.map_cons, h2, ← k2]
theorem toks_le : ∀ (n : Nat) (s : Bs) (i : Nat), s.length ≤ n → (toks s i).length ≤ s.length + 1 := by
  intro n
  induction n with
  | zero =>
    intro s i h
    obtain rfl : s = [] := List.eq_nil_of_length_eq_zero (by omega)
    rw [toks]
    simp
  | succ n ih =>
    intro s i h
    match s, h with
    | [], _ => rw [toks]; simp
    | c :: s, h =>
      rw [toks]
      simp only [List.length_cons] at h
      split
      · have := ih s (i + 1) (by omega)
        simp only [List.length_cons]
        omega
      · have hd := drop_le (more c) s
        have := ih (s.dropWhile (more c)) (i + 1 + (s.takeWhile (more c)).length) (by omega)
        simp only [List.length_cons]
        omega
/-- A text, and the same with further spaces: the same query; or the same error at the same token. -/
theorem parse_two {s t : Bs} {z : List Dub} (hA : dA z = toks s 0) (hB : dB z = toks t 0) (hs : s.length ≤ 4096) (ht : t.length ≤ 4096) :
    (parse s).1 = (parse t).1 ∧ (parse s).2.2 = (parse t).2.2 ∧ (((parse s).2.2 = 0 ∧ (parse s).2.1 = 0 ∧ (parse t).2.1 = 0) ∨ ((parse s).2.2 ≠ 0 ∧ ∃ d ∈ z, (parse s).2.1 = d.2.1 ∧ (parse t).2.1 = d.2.2)) := by
  have hz : z ≠ [] := by
    intro e
    rw [e] at hA
    have := (toks_good s.length s 0 (Nat.le_refl _)).1.ne
    exact this (by rw [← hA]; rfl)
  obtain ⟨pa, ha, _⟩ := toks_whole s.length s 0 (Nat.le_refl _)
  obtain ⟨pb, hb, _⟩ := toks_whole t.length t 0 (Nat.le_refl _)
  have hlast : ∃ d ∈ z, d.2.1 = s.length ∧ d.2.2 = t.length := by
    refine ⟨z.getLast hz, List.getLast_mem hz, ?_, ?_⟩
    · have h1 : (dA z).getLast? = some ⟨[], 0 + s.length⟩ := by rw [hA, ha]; simp
      unfold dA at h1
      rw [List.getLast?_map, List.getLast?_eq_some_getLast hz] at h1
      simp only [Option.map_some, Option.some.injEq, Tok.mk.injEq] at h1
      omega
    · have h1 : (dB z).getLast? = some ⟨[], 0 + t.length⟩ := by rw [hB, hb]; simp
      unfold dB at h1
      rw [List.getLast?_map, List.getLast?_eq_some_getLast hz] at h1
      simp only [Option.map_some, Option.some.injEq, Tok.mk.injEq] at h1
      omega
  have hlen : 3 * (toks s 0).length + 2 ≤ FU := by
    have := toks_le s.length s 0 (Nat.le_refl _)
    unfold FU
    omega
  have hgood := (toks_good s.length s 0 (Nat.le_refl _)).1
  unfold parse
  rw [if_neg (by omega), if_neg (by omega)]
  have hp := par_run (tQuery FU) z hz
  rw [run_query, run_query, hA, hB] at hp
  rcases hp with ⟨q, z', _, h1, h2, _⟩ | ⟨d, hd, e, h1, h2⟩
  · rw [h1, h2]
    simp only
    by_cases hn : 256 < nodes q.reg ∨ 16 < nest q.reg
    · rw [if_pos hn, if_pos hn]
      obtain ⟨d, hd, k1, k2⟩ := hlast
      exact ⟨rfl, rfl, .inr ⟨by simp, d, hd, k1.symm, k2.symm⟩⟩
    · rw [if_neg hn, if_neg hn]
      exact ⟨rfl, rfl, .inl ⟨rfl, rfl, rfl⟩⟩
  · have hnz := query_nz hgood hlen h1
    rw [h1, h2]
    exact ⟨rfl, rfl, .inr ⟨hnz, d, hd, rfl, rfl⟩⟩
/-! ### Other tokens behind -/
theorem toks_from : ∀ (n : Nat) (s : Bs) (i : Nat), s.length ≤ n → ∀ d ∈ toks s i, i ≤ d.at_ := by
  intro n
  induction n with
  | zero =>
    intro s i h d hd
    obtain rfl : s = [] := List.eq_nil_of_length_eq_zero (by omega)
    rw [toks, List.mem_singleton] at hd
    rw [hd]
    exact Nat.le_refl _
  | succ n ih =>
    intro s i h d hd
    match s, h with
    | [], _ =>
      rw [toks, List.mem_singleton] at hd
      rw [hd]
      exact Nat.le_refl _
    | c :: s, h =>
      simp only [List.length_cons] at h
      rw [toks] at hd
      split at hd
      · have := ih s (i + 1) (by omega) d hd
        omega
      · rcases List.mem_cons.1 hd with rfl | hd
        · exact Nat.le_refl _
        · have h2 := drop_le (more c) s
          have := ih _ (i + 1 + (s.takeWhile (more c)).length) (by omega) d hd
          omega
theorem take_stop {p : UInt8 → Bool} {w r : Bs} (hw : ∀ d ∈ w, p d = true) (hr : ∀ d r', r = d :: r' → p d = false) : (w ++ r).takeWhile p = w ∧ (w ++ r).dropWhile p = r := by
  induction w with
  | nil =>
    match r, hr with
    | [], _ => exact ⟨rfl, rfl⟩
    | d :: r', hr => simp [hr d r' rfl]
  | cons d w ih =>
    have h1 := hw d (by simp)
    have h2 := ih fun x hx => hw x (List.mem_cons_of_mem _ hx)
    simp [h1, h2]
theorem drop_first {p : UInt8 → Bool} : ∀ {s : Bs} {d : UInt8} {r : Bs}, s.dropWhile p = d :: r → p d = false
  | [], _, _, h => by cases h
  | c :: s, d, r, h => by
    rw [List.dropWhile_cons] at h
    split at h
    · exact drop_first h
    · rename_i k
      injection h with h _
      subst h
      simpa using k
/-- The tokens up to t stay if the text is cut behind t, and something that begins with a space, or nothing, follows. -/
theorem toks_cut : ∀ (n : Nat) (s : Bs) (i : Nat) (pre : List Tok) (t : Tok) (post : List Tok), s.length ≤ n → toks s i = pre ++ t :: post → t.text ≠ [] →
    ∃ k, i + k = t.at_ + t.text.length ∧ k ≤ s.length ∧ i ≤ t.at_ ∧ post = toks (s.drop k) (i + k) ∧ ∀ r : Bs, (∀ d r', r = d :: r' → d = 32) → toks (s.take k ++ r) i = pre ++ t :: toks r (i + k) := by
  intro n
  induction n with
  | zero =>
    intro s i pre t post h ht hne
    obtain rfl : s = [] := List.eq_nil_of_length_eq_zero (by omega)
    rw [toks] at ht
    match pre, ht with
    | [], ht =>
      injection ht with ht _
      rw [← ht] at hne
      exact absurd rfl hne
    | x :: pre, ht =>
      injection ht with _ ht
      cases pre <;> cases ht
  | succ n ih =>
    intro s i pre t post h ht hne
    match s, h with
    | [], _ =>
      rw [toks] at ht
      match pre, ht with
      | [], ht =>
        injection ht with ht _
        rw [← ht] at hne
        exact absurd rfl hne
      | x :: pre, ht =>
        injection ht with _ ht
        cases pre <;> cases ht
    | c :: s, h =>
      simp only [List.length_cons] at h
      rw [toks] at ht
      split at ht
      · rename_i hc
        obtain ⟨k, h1, h2, h3, h4, h5⟩ := ih s (i + 1) pre t post (by omega) ht hne
        refine ⟨k + 1, by omega, by simp; omega, by omega, by rw [List.drop_succ_cons, h4, show i + 1 + k = i + (k + 1) by omega], fun r hr => ?_⟩
        rw [List.take_succ_cons, List.cons_append, toks, if_pos hc, h5 r hr, show i + 1 + k = i + (k + 1) by omega]
      · rename_i hc
        have hd := drop_le (more c) s
        have hl : (s.takeWhile (more c)).length + (s.dropWhile (more c)).length = s.length := by
          rw [← List.length_append, List.takeWhile_append_dropWhile]
        have hs : s.takeWhile (more c) ++ s.dropWhile (more c) = s := List.takeWhile_append_dropWhile
        obtain ⟨tw, htw⟩ : ∃ tw, s.takeWhile (more c) = tw := ⟨_, rfl⟩
        obtain ⟨dw, hdw⟩ : ∃ dw, s.dropWhile (more c) = dw := ⟨_, rfl⟩
        have hmw : ∀ d ∈ tw, more c d = true := fun d hd => takeWhile_all (p := more c) (l := s) d (by rw [htw]; exact hd)
        have hmd : ∀ d r', dw = d :: r' → more c d = false := fun d r' e => drop_first (p := more c) (s := s) (by rw [hdw]; exact e)
        rw [htw, hdw] at ht hl hs
        rw [hdw] at hd
        match pre, ht with
        | [], ht =>
          injection ht with h1 h2
          subst h1
          refine ⟨tw.length + 1, by simp only [List.length_cons], by simp only [List.length_cons]; omega, Nat.le_refl _, ?_, fun r hr => ?_⟩
          · rw [← h2, List.drop_succ_cons, ← hs, List.drop_left, show i + (tw.length + 1) = i + 1 + tw.length by omega]
          · rw [List.take_succ_cons, ← hs, List.take_left, List.cons_append, toks, if_neg hc, (take_stop hmw (fun d r' e => by rw [hr d r' e]; exact more_space c)).1, (take_stop hmw (fun d r' e => by rw [hr d r' e]; exact more_space c)).2, List.nil_append, show i + (tw.length + 1) = i + 1 + tw.length by omega]
        | x :: pre, ht =>
          injection ht with h1 h2
          obtain ⟨k, k1, k2, k3, k4, k5⟩ := ih dw (i + 1 + tw.length) pre t post (by omega) h2 hne
          have hpos : 0 < t.text.length := List.length_pos_iff.2 hne
          have hk : 0 < k := by omega
          refine ⟨tw.length + 1 + k, by omega, by simp only [List.length_cons]; omega, by omega, ?_, fun r hr => ?_⟩
          · rw [k4, show tw.length + 1 + k = (tw.length + k) + 1 by omega, List.drop_succ_cons, ← hs, ← List.drop_drop, List.drop_left, show i + (tw.length + k + 1) = i + 1 + tw.length + k by omega]
          · have e1 : (tw ++ dw).take (tw.length + k) = tw ++ dw.take k := by rw [List.take_append, List.take_of_length_le (by omega)]; simp
            have e2 : ∀ d r', dw.take k ++ r = d :: r' → more c d = false := fun d r' e => by
              match dw, k, hk, hmd, k2 with
              | [], k, hk, _, k2 => simp at k2; omega
              | y :: dw', k + 1, _, hmd, _ =>
                rw [List.take_succ_cons, List.cons_append] at e
                injection e with e _
                rw [← e]
                exact hmd y dw' rfl
            rw [show tw.length + 1 + k = (tw.length + k) + 1 by omega, List.take_succ_cons, ← hs, e1, List.cons_append, List.append_assoc, toks, if_neg hc, (take_stop hmw e2).1, (take_stop hmw e2).2, k5 r hr, h1, List.cons_append, show i + (tw.length + k + 1) = i + 1 + tw.length + k by omega]
/-- An error at a token t: the text up to t, and anything behind a space, leads to the same error there. -/
theorem parse_cut {s : Bs} {pre post : List Tok} {t : Tok} (hs : s.length ≤ 4096) (ht : toks s 0 = pre ++ t :: post) (hne : t.text ≠ []) (hx : (parse s).2.1 = t.at_) (he : (parse s).2.2 ≠ 4) (h0 : (parse s).2.2 ≠ 0) :
    t.at_ + t.text.length ≤ s.length ∧ ∀ r : Bs, (∀ d r', r = d :: r' → d = 32) → (s.take (t.at_ + t.text.length) ++ r).length ≤ 4096 → (parse (s.take (t.at_ + t.text.length) ++ r)).2 = (parse s).2 := by
  obtain ⟨k, k1, k2, k3, k4, k5⟩ := toks_cut s.length s 0 pre t post (Nat.le_refl _) ht hne
  rw [Nat.zero_add] at k1
  rw [← k1]
  refine ⟨k2, fun r hr hl => ?_⟩
  have hgood := (toks_good s.length s 0 (Nat.le_refl _)).1
  have hp1 : post ≠ [] := by
    intro e
    obtain ⟨p, n, hp, _⟩ := hgood
    rw [ht, e] at hp
    have h1 : (pre ++ [t]).getLast? = (p ++ [(⟨[], n⟩ : Tok)]).getLast? := by rw [hp]
    simp only [List.getLast?_append, List.getLast?_singleton, Option.some_or, Option.some.injEq] at h1
    rw [h1] at hne
    exact hne rfl
  have hpx : ∀ d ∈ post, d.at_ ≠ t.at_ := fun d hd => by
    rw [k4] at hd
    have := toks_from _ _ _ (Nat.le_refl _) d hd
    have : 0 < t.text.length := List.length_pos_iff.2 hne
    omega
  unfold parse at hx he h0 ⊢
  rw [if_neg (by omega)] at hx he h0 ⊢
  rw [if_neg (by omega)]
  cases hq : pQuery FU (toks s 0) with
  | ok q l =>
    rw [hq] at hx he h0
    simp only at hx he h0
    by_cases hn : 256 < nodes q.reg ∨ 16 < nest q.reg
    · rw [if_pos hn] at he; exact absurd rfl he
    · rw [if_neg hn] at h0; exact absurd rfl h0
  | bad x e =>
    rw [hq] at hx
    simp only at hx
    subst hx
    rw [← run_query, ht, show pre ++ t :: post = (pre ++ [t]) ++ post by simp] at hq
    have := bad_local (tQuery FU) (r2 := toks r (0 + k)) hp1 (by simp) hpx hq
    rw [run_query, show (pre ++ [t]) ++ toks r (0 + k) = pre ++ t :: toks r (0 + k) by simp, ← k5 r hr] at this
    rw [this]
/-- Where an error stands. -/
theorem parse_at {s : Bs} (hs : s.length ≤ 4096) (he : (parse s).2.2 ≠ 4) (h0 : (parse s).2.2 ≠ 0) : (∃ t ∈ toks s 0, t.text ≠ [] ∧ (parse s).2.1 = t.at_) ∨ (parse s).2.1 = s.length := by
  have hgood := (toks_good s.length s 0 (Nat.le_refl _)).1
  obtain ⟨p, hp, hw⟩ := toks_whole s.length s 0 (Nat.le_refl _)
  unfold parse at he h0 ⊢
  rw [if_neg (by omega)] at he h0 ⊢
  rcases run_in (tQuery FU) (toks s 0) hgood.ne with ⟨q, l', _, h, _⟩ | ⟨d, hd, e, h⟩
  · rw [run_query] at h
    rw [h] at he h0
    simp only at he h0
    by_cases hn : 256 < nodes q.reg ∨ 16 < nest q.reg
    · rw [if_pos hn] at he; exact absurd rfl he
    · rw [if_neg hn] at h0; exact absurd rfl h0
  · rw [run_query] at h
    rw [h]
    simp only
    rw [hp] at hd
    rcases List.mem_append.1 hd with hd | hd
    · obtain ⟨c, w, e1, _⟩ := hw d hd
      exact .inl ⟨d, by rw [hp]; exact List.mem_append_left _ hd, by rw [e1]; simp, rfl⟩
    · rw [List.mem_singleton.1 hd]
      exact .inr (by simp)
end Qy
