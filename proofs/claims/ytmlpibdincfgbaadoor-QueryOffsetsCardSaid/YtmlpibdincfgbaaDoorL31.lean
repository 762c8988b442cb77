/-
  Queries, plain: the parser as a tree of looks and steps: it asks the tokens' texts alone; an error's offset is its token's; tokens behind an error don't count.
-/
import Derived.Test.YtmlpibdincfgbaaDoorK4
namespace Qy

/-- A parser: it gives a result, fails at the token, looks at its text, or goes to the next one. -/
inductive T (α : Type) where
  | ret (a : α)
  | fail (e : Int)
  | peek (k : Bs → T α)
  | step (k : T α)
def run {α : Type} : T α → List Tok → Res α
  | .ret a, l => .ok a l
  | .fail e, l => .bad (hdAt l) e
  | .peek k, l => run (k (hd l)) l
  | .step k, l => run k (stp l)
def T.bind {α β : Type} : T α → (α → T β) → T β
  | .ret a, g => g a
  | .fail e, _ => .fail e
  | .peek k, g => .peek fun t => (k t).bind g
  | .step k, g => .step (k.bind g)
theorem run_bind {α β : Type} (t : T α) (g : α → T β) : ∀ l, run (t.bind g) l = (run t l).on fun a l => run (g a) l := by
  induction t with
  | ret a => intro l; rfl
  | fail e => intro l; rfl
  | peek k ih => intro l; exact ih (hd l) l
  | step k ih => intro l; exact ih (stp l)
/-! ### The parsers as trees -/
def tNeed (s : Bs) : T Unit := .peek fun t => if t = s then .step (.ret ()) else .fail 2
def tNum (lo hi : Int) : T Int := .peek fun t => if numOK t = true then (if lo ≤ numV t ∧ numV t ≤ hi then .step (.ret (numV t)) else .fail 5) else .fail 2
def tPoint (lx ly : Int) : T (Int × Int) := (tNum lx 1073741824).bind fun x => (tNeed [44]).bind fun _ => (tNum ly 1073741824).bind fun y => .ret (x, y)
mutual
def tReg : Nat → T Reg
  | 0 => .fail 0
  | f + 1 => (tItem f).bind fun r => .peek fun t => if t = wAnd ∨ t = wOr then tJoin f t [r] else .ret r
def tJoin : Nat → Bs → List Reg → T Reg
  | 0, _, _ => .fail 0
  | f + 1, op, acc => .peek fun t => if t = op then .step ((tItem f).bind fun r => tJoin f op (acc ++ [r])) else .ret (kidsR (if op = wOr then 5 else 4) acc)
def tList : Nat → T (List Reg)
  | 0 => .fail 0
  | f + 1 => (tNeed [40]).bind fun _ => .peek fun t => if t = [41] then .step (.ret []) else (tReg f).bind fun r => tMore f [r]
def tMore : Nat → List Reg → T (List Reg)
  | 0, _ => .fail 0
  | f + 1, acc => .peek fun t => if t = [44] then .step ((tReg f).bind fun r => tMore f (acc ++ [r])) else (tNeed [41]).bind fun _ => .ret acc
def tItem : Nat → T Reg
  | 0 => .fail 0
  | f + 1 => .peek fun t =>
    if t = [119, 104, 111, 108, 101] then .step (.ret (kidsR 0 []))
    else if t = [110, 97, 109, 101, 100] then .step (.peek fun n => if isL (n.headD 0) = false then .fail 2 else if nameOK n = false then .fail 6 else .step (.ret (.mk 1 n 0 0 0 0 0 0 [])))
    else if t = [97, 116] then .step ((tPoint (-1073741824) (-1073741824)).bind fun p => .ret (.mk 2 [] p.1 p.2 0 0 0 0 []))
    else if t = [119, 105, 116, 104, 105, 110] then .step ((tPoint (-1073741824) (-1073741824)).bind fun p => (tNeed [116, 111]).bind fun _ => (tPoint p.1 p.2).bind fun q => .ret (.mk 3 [] 0 0 p.1 p.2 q.1 q.2 []))
    else if t = [110, 111, 116] then .step ((tItem f).bind fun r => .ret (kidsR 6 [r]))
    else if t = [97, 108, 108] then .step ((tList f).bind fun k => .ret (kidsR 4 k))
    else if t = [97, 110, 121] then .step ((tList f).bind fun k => .ret (kidsR 5 k))
    else (tNeed [40]).bind fun _ => (tReg f).bind fun r => (tNeed [41]).bind fun _ => .ret r
end
def tOff : Nat → List Int → T (List Int)
  | 0, _ => .fail 0
  | f + 1, acc => .peek fun t => if numOK t = true then (if 0 ≤ numV t ∧ numV t ≤ 63 then (if numV t ∈ acc then .fail 8 else if acc.length = 8 then .fail 4 else
      .step (.peek fun u => if u = [44] then .step (tOff f (acc ++ [numV t])) else .ret (acc ++ [numV t]))) else .fail 5) else .fail 2
def tView (f : Nat) : T (Int × List Int) := .peek fun t =>
  if t = [99, 111, 110, 116, 114, 111, 108] then .step (.ret (2, []))
  else if t = [111, 102, 102, 105, 99, 101] then .step ((tNum 0 63).bind fun n => .ret (0, [n]))
  else (tNeed [99, 111, 97, 108, 105, 116, 105, 111, 110]).bind fun _ => (tOff f []).bind fun o => .ret (1, o)
def tQuery (f : Nat) : T Qry :=
  (tNeed [99, 111, 117, 110, 116]).bind fun _ => (tNum 0 255).bind fun k => (tNeed [111, 102]).bind fun _ => (tReg f).bind fun r => (tNeed [105, 110]).bind fun _ =>
  (tView f).bind fun v => (tNeed [111, 110]).bind fun _ => (tNum 0 73048).bind fun d => (tNeed [97, 116]).bind fun _ => (tNum 0 23).bind fun s => (tNeed []).bind fun _ => .ret ⟨k, r, v.1, v.2, d, s⟩
theorem run_need (s : Bs) (l : List Tok) : run (tNeed s) l = need s l := by
  unfold tNeed need
  rw [run]
  split <;> rfl
theorem run_num (lo hi : Int) (l : List Tok) : run (tNum lo hi) l = pNum lo hi l := by
  unfold tNum pNum
  rw [run]
  split
  · split <;> rfl
  · rfl
theorem run_point (x y : Int) (l : List Tok) : run (tPoint x y) l = pPoint x y l := by
  unfold tPoint pPoint
  simp only [run_bind, run_need, run_num, run]
structure Runs (f : Nat) : Prop where
  reg : ∀ l, run (tReg f) l = pReg f l
  join : ∀ op acc l, run (tJoin f op acc) l = pJoin f op acc l
  list : ∀ l, run (tList f) l = pList f l
  more : ∀ acc l, run (tMore f acc) l = pMore f acc l
  item : ∀ l, run (tItem f) l = pItem f l
theorem runs : ∀ f, Runs f := by
  intro f
  induction f with
  | zero => exact ⟨fun _ => rfl, fun _ _ _ => rfl, fun _ => rfl, fun _ _ => rfl, fun _ => rfl⟩
  | succ f ih =>
    refine ⟨fun l => ?_, fun op acc l => ?_, fun l => ?_, fun acc l => ?_, fun l => ?_⟩
    · rw [tReg, pReg, run_bind, ih.item]
      congr 1
      funext r l
      rw [run]
      split
      · exact ih.join _ _ _
      · rfl
    · rw [tJoin, pJoin, run]
      split
      · rw [run, run_bind, ih.item]
        congr 1
        funext r l
        exact ih.join _ _ _
      · rfl
    · rw [tList, pList, run_bind, run_need]
      congr 1
      funext r l
      rw [run]
      split
      · rfl
      · rw [run_bind, ih.reg]
        congr 1
        funext r l
        exact ih.more _ _
    · rw [tMore, pMore, run]
      split
      · rw [run, run_bind, ih.reg]
        congr 1
        funext r l
        exact ih.more _ _
      · rw [run_bind, run_need]
        rfl
    · rw [tItem, pItem, run]
      split
      · rfl
      split
      · rw [run, run]
        split
        · rfl
        split <;> rfl
      split
      · rw [run, run_bind, run_point]
        rfl
      split
      · simp only [run, run_bind, run_point, run_need]
      split
      · rw [run, run_bind, ih.item]
        rfl
      split
      · rw [run, run_bind, ih.list]
        rfl
      split
      · rw [run, run_bind, ih.list]
        rfl
      · simp only [run_bind, run_need, ih.reg, run]
theorem run_off : ∀ (f : Nat) (acc : List Int) (l : List Tok), run (tOff f acc) l = pOff f acc l := by
  intro f
  induction f with
  | zero => intro acc l; rfl
  | succ f ih =>
    intro acc l
    rw [tOff, pOff, run]
    unfold pNum
    split
    · split
      · simp only [Res.on]
        split
        · rfl
        split
        · rfl
        · rw [run, run]
          split
          · exact ih _ _
          · rfl
      · rfl
    · rfl
theorem run_view (f : Nat) (l : List Tok) : run (tView f) l = pView f l := by
  unfold tView pView
  rw [run]
  split
  · rfl
  split
  · rw [run, run_bind, run_num]
    rfl
  · simp only [run_bind, run_need, run_off, run]
theorem run_query (f : Nat) (l : List Tok) : run (tQuery f) l = pQuery f l := by
  unfold tQuery pQuery
  simp only [run_bind, run_need, run_num, run_view, (runs f).reg, run]
/-! ### Other offsets -/
/-- A text with two offsets. -/
abbrev Dub := Bs × Nat × Nat
def dA (z : List Dub) : List Tok := z.map fun q => ⟨q.1, q.2.1⟩
def dB (z : List Dub) : List Tok := z.map fun q => ⟨q.1, q.2.2⟩
/-- Both results are the same, up to the offsets. -/
def Par {α : Type} (z : List Dub) (p q : Res α) : Prop := (∃ a z', z' ≠ [] ∧ p = .ok a (dA z') ∧ q = .ok a (dB z') ∧ z' <:+ z) ∨ ∃ d ∈ z, ∃ e, p = .bad d.2.1 e ∧ q = .bad d.2.2 e
theorem Par.up {α : Type} {z z' : List Dub} {p q : Res α} (h : Par z' p q) (k : z' <:+ z) : Par z p q := by
  rcases h with ⟨a, z2, h0, h1, h2, h3⟩ | ⟨d, hd, e, h1, h2⟩
  · exact .inl ⟨a, z2, h0, h1, h2, h3.trans k⟩
  · exact .inr ⟨d, k.subset hd, e, h1, h2⟩
theorem hd_dub (z : List Dub) : hd (dB z) = hd (dA z) := by
  cases z <;> rfl
def stpD : List Dub → List Dub
  | _ :: u :: r => u :: r
  | l => l
theorem stpD_suf (z : List Dub) : stpD z <:+ z := by
  match z with
  | [] => exact List.suffix_refl _
  | [_] => exact List.suffix_refl _
  | a :: u :: r => exact List.suffix_cons _ _
theorem stpD_ne {z : List Dub} (h : z ≠ []) : stpD z ≠ [] := by
  match z, h with
  | [_], _ => simp [stpD]
  | a :: u :: r, _ => simp [stpD]
theorem stpA (z : List Dub) : stp (dA z) = dA (stpD z) := by
  match z with
  | [] => rfl
  | [_] => rfl
  | a :: u :: r => rfl
theorem stpB (z : List Dub) : stp (dB z) = dB (stpD z) := by
  match z with
  | [] => rfl
  | [_] => rfl
  | a :: u :: r => rfl
theorem par_run {α : Type} (t : T α) : ∀ z, z ≠ [] → Par z (run t (dA z)) (run t (dB z)) := by
  induction t with
  | ret a => exact fun z hz => .inl ⟨a, z, hz, rfl, rfl, List.suffix_refl _⟩
  | fail e =>
    intro z hz
    match z, hz with
    | d :: z, _ => exact .inr ⟨d, by simp, e, rfl, rfl⟩
  | peek k ih =>
    intro z hz
    rw [run, run, hd_dub]
    exact ih _ z hz
  | step k ih =>
    intro z hz
    rw [run, run, stpA, stpB]
    exact (ih _ (stpD_ne hz)).up (stpD_suf z)
/-- The parser's result stands among the tokens. -/
theorem run_in {α : Type} (t : T α) (l : List Tok) (hl : l ≠ []) : (∃ a l', l' ≠ [] ∧ run t l = .ok a l' ∧ l' <:+ l) ∨ ∃ d ∈ l, ∃ e, run t l = .bad d.at_ e := by
  have hz : dA (l.map fun t => (t.text, t.at_, 0)) = l := by
    unfold dA
    rw [List.map_map]
    exact List.map_id _
  rcases par_run t (l.map fun t => (t.text, t.at_, 0)) (by simpa using hl) with ⟨a, z', h0, h1, _, h3⟩ | ⟨d, hd, e, h1, _⟩
  · rw [hz] at h1
    refine .inl ⟨a, dA z', by simpa [dA] using h0, h1, ?_⟩
    have := h3.map fun q : Dub => (⟨q.1, q.2.1⟩ : Tok)
    rwa [← dA, ← dA, hz] at this
  · rw [hz] at h1
    obtain ⟨t, ht, rfl⟩ := List.mem_map.1 hd
    exact .inr ⟨t, ht, e, h1⟩
/-! ### Other tokens behind -/
theorem loc_run {α : Type} (t : T α) (r1 r2 : List Tok) (h1 : r1 ≠ []) : ∀ u, u ≠ [] →
    (∃ a u', u' ≠ [] ∧ run t (u ++ r1) = .ok a (u' ++ r1) ∧ run t (u ++ r2) = .ok a (u' ++ r2)) ∨ (∃ d ∈ u, ∃ e, run t (u ++ r1) = .bad d.at_ e ∧ run t (u ++ r2) = .bad d.at_ e) ∨
    ((∃ a l', run t (u ++ r1) = .ok a l') ∨ ∃ d ∈ r1, ∃ e, run t (u ++ r1) = .bad d.at_ e) := by
  induction t with
  | ret a => exact fun u hu => .inl ⟨a, u, hu, rfl, rfl⟩
  | fail e =>
    intro u hu
    match u, hu with
    | d :: u, _ => exact .inr (.inl ⟨d, by simp, e, rfl, rfl⟩)
  | peek k ih =>
    intro u hu
    have e : hd (u ++ r1) = hd (u ++ r2) := by
      match u, hu with
      | d :: u, _ => rfl
    rw [run, run, e]
    exact ih _ u hu
  | step k ih =>
    intro u hu
    rw [run, run]
    match u, hu with
    | [d], _ =>
      have e : stp ([d] ++ r1) = r1 := by
        match r1, h1 with
        | x :: r, _ => rfl
      rw [e]
      rcases run_in k r1 h1 with ⟨a, l', _, h, _⟩ | ⟨d, hd, e, h⟩
      · exact .inr (.inr (.inl ⟨a, l', h⟩))
      · exact .inr (.inr (.inr ⟨d, hd, e, h⟩))
    | d :: c :: u, _ =>
      have e : ∀ r, stp (d :: c :: u ++ r) = c :: u ++ r := fun _ => rfl
      rw [e, e]
      rcases ih (c :: u) (by simp) with h | ⟨x, hx, h⟩ | h
      · exact .inl h
      · exact .inr (.inl ⟨x, List.mem_cons_of_mem _ hx, h⟩)
      · exact .inr (.inr h)
/-- An error at a token: other tokens behind it lead to the same error. -/
theorem bad_local {α : Type} (t : T α) {u r1 r2 : List Tok} (h1 : r1 ≠ []) (hu : u ≠ []) {x : Nat} {e : Int} (hx : ∀ d ∈ r1, d.at_ ≠ x) (h : run t (u ++ r1) = .bad x e) : run t (u ++ r2) = .bad x e := by
  rcases loc_run t r1 r2 h1 u hu with ⟨a, u', _, k, _⟩ | ⟨d, hd, e', k1, k2⟩ | ⟨a, l', k⟩ | ⟨d, hd, e', k⟩
  · rw [k] at h; cases h
  · rw [k1] at h
    rw [k2]
    exact h
  · rw [k] at h; cases h
  · rw [k] at h
    injection h with h _
    exact absurd h (hx d hd)
end Qy
