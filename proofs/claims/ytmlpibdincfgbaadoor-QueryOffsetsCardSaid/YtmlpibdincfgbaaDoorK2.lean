/-
  Queries, plain: what the parser consumes; what it gives is valid.
-/
import Derived.Test.YtmlpibdincfgbaaDoorK1
namespace Qy

theorem Res.on_ok {α β : Type} {r : Res α} {f : α → List Tok → Res β} {b : β} {l : List Tok} (h : r.on f = .ok b l) : ∃ a l1, r = .ok a l1 ∧ f a l1 = .ok b l := by
  cases r with
  | ok a l1 => exact ⟨a, l1, rfl, h⟩
  | bad x e => cases h
/-- What begins as a number goes on with digits. -/
def Shape (t : Bs) : Prop := ∀ c w, t = c :: w → (isD c = true ∨ c = 45) → ∀ d ∈ w, isD d = true
/-- Tokens of which the last one, and only it, is empty; all have their shapes. -/
def Good (l : List Tok) : Prop := ∃ pre n, l = pre ++ [⟨[], n⟩] ∧ ∀ t ∈ pre, t.text ≠ [] ∧ Shape t.text
theorem Good.shaped {l : List Tok} (h : Good l) : ∀ t ∈ l, Shape t.text := by
  obtain ⟨pre, n, rfl, h⟩ := h
  intro t ht
  rcases List.mem_append.1 ht with ht | ht
  · exact (h t ht).2
  · rw [List.mem_singleton.1 ht]
    intro c w e
    cases e
theorem Good.ne {l : List Tok} (h : Good l) : l ≠ [] := by
  obtain ⟨pre, n, rfl, _⟩ := h
  simp
theorem Good.pos {l : List Tok} (h : Good l) : 0 < l.length := List.length_pos_iff.2 h.ne
theorem Good.stp {l : List Tok} (h : Good l) : Good (stp l) := by
  obtain ⟨pre, n, rfl, hp⟩ := h
  match pre, hp with
  | [], _ => exact ⟨[], n, rfl, by simp⟩
  | [t], _ => exact ⟨[], n, rfl, by simp⟩
  | t :: u :: r, hp => exact ⟨u :: r, n, rfl, fun x hx => hp x (List.mem_cons_of_mem _ hx)⟩
theorem stp_le (l : List Tok) : (stp l).length ≤ l.length := by
  match l with
  | [] => exact Nat.le_refl _
  | [_] => exact Nat.le_refl _
  | _ :: u :: r => show (u :: r).length ≤ _; simp
theorem Good.stp_lt {l : List Tok} (h : Good l) (hne : hd l ≠ []) : (Qy.stp l).length < l.length := by
  obtain ⟨pre, n, rfl, hp⟩ := h
  match pre, hp with
  | [], _ => exact absurd rfl hne
  | [t], _ => simp [Qy.stp]
  | t :: u :: r, hp => simp [Qy.stp]
/-- l' is what is left of l when something has been taken. -/
def Less (l l' : List Tok) : Prop := Good l' ∧ l'.length < l.length
def LeE (l l' : List Tok) : Prop := Good l' ∧ l'.length ≤ l.length
theorem Less.le {l l' : List Tok} (h : Less l l') : LeE l l' := ⟨h.1, Nat.le_of_lt h.2⟩
theorem Less.trans {a b c : List Tok} (h : Less a b) (k : LeE b c) : Less a c := ⟨k.1, Nat.lt_of_le_of_lt k.2 h.2⟩
theorem Less.trans' {a b c : List Tok} (h : LeE a b) (k : Less b c) : Less a c := ⟨k.1, Nat.lt_of_lt_of_le k.2 h.2⟩
theorem LeE.trans {a b c : List Tok} (h : LeE a b) (k : LeE b c) : LeE a c := ⟨k.1, Nat.le_trans k.2 h.2⟩
theorem need_ok {s : Bs} {l l' : List Tok} {u : Unit} (hg : Good l) (hs : s ≠ []) (h : need s l = .ok u l') : Less l l' := by
  unfold need at h
  split at h
  · rename_i e
    injection h with _ h
    subst h
    exact ⟨hg.stp, hg.stp_lt (by rw [e]; exact hs)⟩
  · cases h
theorem need_le {s : Bs} {l l' : List Tok} {u : Unit} (hg : Good l) (h : need s l = .ok u l') : LeE l l' := by
  unfold need at h
  split at h
  · injection h with _ h
    subst h
    exact ⟨hg.stp, stp_le l⟩
  · cases h
theorem numOK_ne {t : Bs} (h : numOK t = true) : t ≠ [] := by
  rintro rfl
  simp [numOK, digs] at h
theorem pNum_ok {lo hi n : Int} {l l' : List Tok} (hg : Good l) (h : pNum lo hi l = .ok n l') : Less l l' ∧ lo ≤ n ∧ n ≤ hi := by
  unfold pNum at h
  split at h
  · rename_i e
    split at h
    · rename_i k
      injection h with h1 h
      subst h
      subst h1
      exact ⟨⟨hg.stp, hg.stp_lt (numOK_ne e)⟩, k⟩
    · cases h
  · cases h
theorem pPoint_ok {lx ly : Int} {p : Int × Int} {l l' : List Tok} (hg : Good l) (h : pPoint lx ly l = .ok p l') : Less l l' ∧ (lx ≤ p.1 ∧ p.1 ≤ 1073741824) ∧ (ly ≤ p.2 ∧ p.2 ≤ 1073741824) := by
  unfold pPoint at h
  obtain ⟨x, l1, h1, h⟩ := Res.on_ok h
  obtain ⟨u, l2, h2, h⟩ := Res.on_ok h
  obtain ⟨y, l3, h3, h⟩ := Res.on_ok h
  injection h with e1 e2
  subst e1
  subst e2
  obtain ⟨k1, b1⟩ := pNum_ok hg h1
  have k2 := need_ok k1.1 (by simp) h2
  obtain ⟨k3, b3⟩ := pNum_ok k2.1 h3
  exact ⟨k1.trans (k2.trans k3.le).le, b1, b3⟩
theorem and_ne : wAnd ≠ [] := by simp [wAnd]
theorem or_ne : wOr ≠ [] := by simp [wOr]
/-- All five consume. -/
structure Eats (f : Nat) : Prop where
  reg : ∀ l r l', Good l → pReg f l = .ok r l' → Less l l'
  join : ∀ op acc l r l', Good l → op ≠ [] → pJoin f op acc l = .ok r l' → LeE l l'
  list : ∀ l r l', Good l → pList f l = .ok r l' → Less l l'
  more : ∀ acc l r l', Good l → pMore f acc l = .ok r l' → Less l l'
  item : ∀ l r l', Good l → pItem f l = .ok r l' → Less l l'
theorem eats : ∀ f, Eats f := by
  intro f
  induction f with
  | zero => exact ⟨fun _ _ _ _ h => by simp [pReg] at h, fun _ _ _ _ _ _ _ h => by simp [pJoin] at h, fun _ _ _ _ h => by simp [pList] at h, fun _ _ _ _ _ h => by simp [pMore] at h, fun _ _ _ _ h => by simp [pItem] at h⟩
  | succ f ih =>
    refine ⟨fun l r l' hg h => ?_, fun op acc l r l' hg ho h => ?_, fun l r l' hg h => ?_, fun acc l r l' hg h => ?_, fun l r l' hg h => ?_⟩
    · rw [pReg] at h
      obtain ⟨a, l1, h1, h⟩ := Res.on_ok h
      have k1 := ih.item l a l1 hg h1
      split at h
      · rename_i e
        exact k1.trans (ih.join _ _ _ _ _ k1.1 (by rcases e with e | e <;> rw [e] <;> simp [wAnd, wOr]) h)
      · injection h with _ h
        subst h
        exact k1
    · rw [pJoin] at h
      split at h
      · rename_i e
        obtain ⟨a, l1, h1, h⟩ := Res.on_ok h
        have k0 : LeE l (stp l) := ⟨hg.stp, stp_le l⟩
        have k1 := ih.item _ _ _ k0.1 h1
        exact k0.trans (k1.le.trans (ih.join _ _ _ _ _ k1.1 ho h))
      · injection h with _ h
        subst h
        exact ⟨hg, Nat.le_refl _⟩
    · rw [pList] at h
      obtain ⟨a, l1, h1, h⟩ := Res.on_ok h
      have k1 := need_ok hg (by simp) h1
      split at h
      · injection h with _ h
        subst h
        exact k1.trans ⟨k1.1.stp, stp_le l1⟩
      · obtain ⟨b, l2, h2, h⟩ := Res.on_ok h
        have k2 := ih.reg _ _ _ k1.1 h2
        exact k1.trans (k2.trans (ih.more _ _ _ _ k2.1 h).le).le
    · rw [pMore] at h
      split at h
      · rename_i e
        obtain ⟨a, l1, h1, h⟩ := Res.on_ok h
        have k0 : LeE l (stp l) := ⟨hg.stp, stp_le l⟩
        have k1 := ih.reg _ _ _ k0.1 h1
        exact Less.trans' k0 (k1.trans (ih.more _ _ _ _ k1.1 h).le)
      · obtain ⟨a, l1, h1, h⟩ := Res.on_ok h
        injection h with _ h
        subst h
        exact need_ok hg (by simp) h1
    · rw [pItem] at h
      have ks : ∀ {s : Bs}, hd l = s → s ≠ [] → Less l (stp l) := fun e hs => ⟨hg.stp, hg.stp_lt (by rw [e]; exact hs)⟩
      split at h
      · rename_i e
        injection h with _ h
        subst h
        exact ks e (by simp)
      split at h
      · rename_i e
        have k0 := ks e (by simp)
        split at h
        · cases h
        split at h
        · cases h
        · injection h with _ h
          subst h
          exact k0.trans ⟨k0.1.stp, stp_le _⟩
      split at h
      · rename_i e
        have k0 := ks e (by simp)
        obtain ⟨p, l1, h1, h⟩ := Res.on_ok h
        injection h with _ h
        subst h
        exact k0.trans (pPoint_ok k0.1 h1).1.le
      split at h
      · rename_i e
        have k0 := ks e (by simp)
        obtain ⟨p, l1, h1, h⟩ := Res.on_ok h
        obtain ⟨u, l2, h2, h⟩ := Res.on_ok h
        obtain ⟨q, l3, h3, h⟩ := Res.on_ok h
        injection h with _ h
        subst h
        have k1 := (pPoint_ok k0.1 h1).1
        have k2 := need_ok k1.1 (by simp) h2
        exact k0.trans (k1.trans (k2.trans (pPoint_ok k2.1 h3).1.le).le).le
      split at h
      · rename_i e
        have k0 := ks e (by simp)
        obtain ⟨p, l1, h1, h⟩ := Res.on_ok h
        injection h with _ h
        subst h
        exact k0.trans (ih.item _ _ _ k0.1 h1).le
      split at h
      · rename_i e
        have k0 := ks e (by simp)
        obtain ⟨p, l1, h1, h⟩ := Res.on_ok h
        injection h with _ h
        subst h
        exact k0.trans (ih.list _ _ _ k0.1 h1).le
      split at h
      · rename_i e
        have k0 := ks e (by simp)
        obtain ⟨p, l1, h1, h⟩ := Res.on_ok h
        injection h with _ h
        subst h
        exact k0.trans (ih.list _ _ _ k0.1 h1).le
      · obtain ⟨u, l1, h1, h⟩ := Res.on_ok h
        obtain ⟨r2, l2, h2, h⟩ := Res.on_ok h
        obtain ⟨u3, l3, h3, h⟩ := Res.on_ok h
        injection h with _ h
        subst h
        have k1 := need_ok hg (by simp) h1
        have k2 := ih.reg _ _ _ k1.1 h2
        exact k1.trans (k2.trans (need_le k2.1 h3)).le
theorem pOff_ok : ∀ (f : Nat) (acc : List Int) (l : List Tok) (o : List Int) (l' : List Tok), Good l → pOff f acc l = .ok o l' → Less l l' := by
  intro f
  induction f with
  | zero => intro acc l o l' _ h; simp [pOff] at h
  | succ f ih =>
    intro acc l o l' hg h
    rw [pOff] at h
    obtain ⟨n, l1, h1, h⟩ := Res.on_ok h
    have k1 := (pNum_ok hg h1).1
    split at h
    · cases h
    split at h
    · cases h
    split at h
    · exact k1.trans (Less.trans' ⟨k1.1.stp, stp_le l1⟩ (ih _ _ _ _ k1.1.stp h)).le
    · injection h with _ h
      subst h
      exact k1
theorem pView_ok {f : Nat} {v : Int × List Int} {l l' : List Tok} (hg : Good l) (h : pView f l = .ok v l') : Less l l' := by
  unfold pView at h
  split at h
  · rename_i e
    injection h with _ h
    subst h
    exact ⟨hg.stp, hg.stp_lt (by rw [e]; simp)⟩
  split at h
  · rename_i e
    obtain ⟨n, l1, h1, h⟩ := Res.on_ok h
    injection h with _ h
    subst h
    exact Less.trans' ⟨hg.stp, stp_le l⟩ (pNum_ok hg.stp h1).1
  · obtain ⟨u, l1, h1, h⟩ := Res.on_ok h
    obtain ⟨o, l2, h2, h⟩ := Res.on_ok h
    injection h with _ h
    subst h
    have k1 := need_ok hg (by simp) h1
    exact k1.trans (pOff_ok _ _ _ _ _ k1.1 h2).le
end Qy
