/-
  Package query: regions: what a reading function gives, appended kids.
-/
import Derived.Test.YtmlpibdincfgbaaDoorK10
import Derived.Test.YtmlpibdincfgbaaDoorRJ
namespace Go.Proofs.YtmlpibdincfgbaaDoor
open Go.RowKit

section
variable {P : Program} (w : World)
/-- append(v, x). -/
theorem run_pushO (t ty e : TypeId) (i : TypeInfo) (z : Value) (sz bytes : Nat) (ht : P.underlying t = some (.slice e)) (hi : P.info? e = some i) (hz : i.zero = some z) (hsize : i.size = sz) (hby : i.bytes = bytes) (hzs : z.cells.size = sz) (hsz : 0 < sz)
    (B : Nat) (v : Value) (n : Nat) (xs : List Value) (hown : w.ownsRow B e sz v n xs)
    (a : Addr) (c : Nat) (news : List Value) (hl : news.length = sz) (hnews : ∀ j u, news[j]? = some u → w.cell? (a.add j) = some u) (h1 : ∀ u ∈ news, u.oneCell' = true)
    (h63 : n + 1 ≤ maxLen) (hbytes : (n + 1) * bytes ≤ 140737488355328) (hB : B ≤ w.heap.size) :
    ∃ v' w', (Builtin.append_ #[t, t] ty #[v, .slice (some a) 1 c]).run P w = .ok v' w' ∧ w'.ownsRow B e sz v' (n + 1) (xs ++ news) ∧ w.grownBy w' v.ownBlock ∧ (v'.ownBlock = v.ownBlock ∨ v'.ownBlock = some w.heap.size) := by
  subst hsize
  subst hby
  have hsmall : n + 1 ≤ 9223372036854775807 := by simp only [maxLen] at h63; omega
  have hl1 : news.length = 1 * i.size := by omega
  have hlen : (xs ++ news).length = (n + 1) * i.size := by rw [List.length_append, hown.1, hl, Nat.add_mul, Nat.one_mul]
  have grown : ∀ (old : Nat), old < n + 1 → ∀ (row : Option Nat),
      (w.drew.alloc (.cells (xs.toArray ++ news.toArray ++ Builtin.zeroCells z.cells (grownCap w (n + 1) old e - (n + 1))) e)).ownsRow B e i.size
        (.slice (Option.some ⟨w.heap.size, 0, none⟩) (n + 1) (grownCap w (n + 1) old e)) (n + 1) (xs ++ news) ∧
      w.grownBy (w.drew.alloc (.cells (xs.toArray ++ news.toArray ++ Builtin.zeroCells z.cells (grownCap w (n + 1) old e - (n + 1))) e)) row := by
    intro old ho row
    have hge := grownCap_ge w (n + 1) old e
    have hcm : grownCap w (n + 1) old e ≤ maxLen := grownCap_le_maxLen w (n + 1) old e h63
    refine ⟨⟨hlen, .inr ⟨w.heap.size, _, _, rfl, hB, heap_alloc_new w.drew _, hge, hcm, ?_, ?_⟩⟩, ⟨rfl, rfl, rfl, by simp, fun k hk _ => heap_alloc_old w.drew _ (by first | exact hk | assumption)⟩⟩
    · simp only [Array.size_append, List.size_toArray, size_zeroCells, hzs, hown.1, hl1, ← Nat.add_mul]
      congr 1
      omega
    · simp only [Array.toList_append, List.append_assoc]
      rw [← List.append_assoc, ← hlen]
      exact List.take_left
  rcases hown.2 with ⟨rfl, rfl⟩ | ⟨g, cap, cur, rfl, hbg, hg, hnc, hcm, hcs, htake⟩
  · have hx : xs = [] := List.eq_nil_of_length_eq_zero (by simpa using hown.1)
    subst hx
    have hr := run_append_nil (P := P) w t ty e i z ht hi hz a 1 c news hl1 hnews (by omega) (by omega) (by have hb := hbytes; simp only [Nat.zero_add] at hb; omega)
    have hgr := grown 0 (by omega) (Value.ownBlock (.slice none 0 0))
    simp only [Nat.zero_add, List.nil_append, Array.empty_append] at hgr ⊢
    exact ⟨_, _, hr, hgr.1, hgr.2, .inr rfl⟩
  · by_cases hroom : n + 1 ≤ cap
    · have hfit : n * i.size + news.length ≤ cur.size := by rw [hl1, hcs, ← Nat.add_mul]; exact Nat.mul_le_mul_right _ hroom
      have hr := run_append_room (P := P) w t ty e i ht hi g n cap cur hg a 1 c news hl1 hnews h1 hroom hfit
      refine ⟨_, _, hr, ⟨hlen, .inr ⟨g, cap, _, rfl, hbg, setRow_heap w g cur _ e _ hg, hroom, hcm, ?_, ?_⟩⟩, ⟨rfl, rfl, rfl, by simp, fun k _ hk => setRow_other w g k _ (fun e => hk (by simp [Value.ownBlock, e]))⟩, .inl rfl⟩
      · simp only [List.size_toArray, List.length_append, List.length_take, List.length_drop, Array.length_toList]
        omega
      · rw [htake, ← hlen]
        exact List.take_left
    · have holds : ∀ j u, xs[j]? = some u → w.cell? ((⟨g, 0, none⟩ : Addr).add j) = some u := fun j u hj => by
        have hj' : j < n * i.size := by
          rw [← hown.1]
          rcases Nat.lt_or_ge j xs.length with h | h
          · exact h
          · rw [List.getElem?_eq_none h] at hj; cases hj
        rw [← htake, List.getElem?_take_of_lt hj'] at hj
        rw [Addr.add_lit, Nat.zero_add]
        simpa [World.cell?, hg] using hj
      have hr := run_append_grow (P := P) w t ty e i z ht hi hz ⟨g, 0, none⟩ n cap xs hown.1 holds a 1 c news hl1 hnews (by omega) (by omega) (growslice_fits (by omega) hbytes)
      have hgr := grown cap (by omega) (Value.ownBlock (.slice (Option.some ⟨g, 0, none⟩) n cap))
      exact ⟨_, _, hr, hgr.1, hgr.2, .inr rfl⟩
/-- The operation. -/
theorem oper_pushO {K : Act → World → Prop} {o : Oper} {ac : Act} {Q : Exit → Act → World → Prop} (s x : Operand) (t : TypeId)
    (ho : o.op = .call { callee := .builtin .append, args := #[s, x], argTypes := #[t, t] })
    (e : TypeId) (i : TypeInfo) (z : Value) (sz bytes : Nat) (ht : P.underlying t = some (.slice e)) (hi : P.info? e = some i) (hz : i.zero = some z) (hsize : i.size = sz) (hby : i.bytes = bytes) (hzs : z.cells.size = sz) (hsz : 0 < sz)
    (B : Nat) (v : Value) (n : Nat) (xs : List Value) (hs : ac.eval s = v) (hown : w.ownsRow B e sz v n xs)
    (a : Addr) (c : Nat) (news : List Value) (hx : ac.eval x = .slice (some a) 1 c) (hl : news.length = sz) (hnews : ∀ j u, news[j]? = some u → w.cell? (a.add j) = some u) (h1 : ∀ u ∈ news, u.oneCell' = true)
    (h63 : n + 1 ≤ maxLen) (hbytes : (n + 1) * bytes ≤ 140737488355328) (hB : B ≤ w.heap.size)
    (h : ∀ v' w', w'.ownsRow B e sz v' (n + 1) (xs ++ news) → w.grownBy w' v.ownBlock → (v'.ownBlock = v.ownBlock ∨ v'.ownBlock = some w.heap.size) → K (ac.put o.dst v') w') :
    Oper.wp P o ac w K Q := by
  obtain ⟨v', w', hr, h2, h3, h4⟩ := run_pushO (P := P) w t o.type e i z sz bytes ht hi hz hsize hby hzs hsz B v n xs hown a c news hl hnews h1 h63 hbytes hB
  unfold Oper.wp execOp
  simp only [ho, resolve, invoke, builtin, Sem.run_bind, Sem.run_pure, Result.andThen_ok, List.map_toArray, List.map_cons, List.map_nil, hs, hx, hr]
  exact h v' w' h2 h3 h4
/-- The walk's step. -/
theorem wpList_pushO {ops : Array Oper} {rest : List Oper} {o : Oper} {ac : Act} {Q : Exit → Act → World → Prop} (hgd : o.guard = none) (s x : Operand) (t : TypeId)
    (ho : o.op = .call { callee := .builtin .append, args := #[s, x], argTypes := #[t, t] })
    (e : TypeId) (i : TypeInfo) (z : Value) (sz bytes : Nat) (ht : P.underlying t = some (.slice e)) (hi : P.info? e = some i) (hz : i.zero = some z) (hsize : i.size = sz) (hby : i.bytes = bytes) (hzs : z.cells.size = sz) (hsz : 0 < sz)
    (B : Nat) (v : Value) (n : Nat) (xs : List Value) (hs : ac.eval s = v) (hown : w.ownsRow B e sz v n xs)
    (a : Addr) (c : Nat) (news : List Value) (hx : ac.eval x = .slice (some a) 1 c) (hl : news.length = sz) (hnews : ∀ j u, news[j]? = some u → w.cell? (a.add j) = some u) (h1 : ∀ u ∈ news, u.oneCell' = true)
    (h63 : n + 1 ≤ maxLen) (hbytes : (n + 1) * bytes ≤ 140737488355328) (hB : B ≤ w.heap.size)
    (h : ∀ v' w', w'.ownsRow B e sz v' (n + 1) (xs ++ news) → w.grownBy w' v.ownBlock → (v'.ownBlock = v.ownBlock ∨ v'.ownBlock = some w.heap.size) → wpList P ops Q rest (ac.put o.dst v') w') :
    wpList P ops Q (o :: rest) ac w := by
  refine wpList_plain hgd fun K hK => ?_
  exact oper_pushO (P := P) w s x t ho e i z sz bytes ht hi hz hsize hby hzs hsz B v n xs hs hown a c news hx hl hnews h1 h63 hbytes hB fun v' w' h2 h3 h4 => hK _ _ (h v' w' h2 h3 h4)
end
/-- Blocks new since w. -/
def New (w : World) (g : Nat) : Prop := w.heap.size ≤ g
/-- The cells of a region. -/
def regCells (R : Qy.Reg) (A : Option Addr) (c : Nat) : List Value := match R with
  | .mk k nm ax ay b0 b1 b2 b3 kids => [.int .i64 k, .string (bs nm), .int .i64 ax, .int .i64 ay, .int .i64 b0, .int .i64 b1, .int .i64 b2, .int .i64 b3, .slice A kids.length c]
theorem RegAt.cells {w : World} {S : Nat → Prop} {cs : List Value} {R : Qy.Reg} (h : RegAt w S cs R) : ∃ A c, cs = regCells R A c ∧ KidsAt w S A 0 R.kids := by
  obtain ⟨k, nm, ax, ay, b0, b1, b2, b3, kids⟩ := R
  rw [RegAt] at h
  exact h
theorem RegAt.of {w : World} {S : Nat → Prop} {R : Qy.Reg} {A : Option Addr} {c : Nat} (h : KidsAt w S A 0 R.kids) : RegAt w S (regCells R A c) R := by
  obtain ⟨k, nm, ax, ay, b0, b1, b2, b3, kids⟩ := R
  rw [RegAt]
  exact ⟨A, c, rfl, h⟩
theorem regCells_len (R : Qy.Reg) (A : Option Addr) (c : Nat) : (regCells R A c).length = 9 := by
  obtain ⟨k, nm, ax, ay, b0, b1, b2, b3, kids⟩ := R
  rfl
/-- A region is returned: its kids lie in blocks new since w0. -/
def regV (w0 : World) (R : Qy.Reg) (v : Value) (w : World) : Prop := ∃ cs, v = .agg cs.toArray ∧ RegAt w (New w0) cs R
theorem RegAt.at1 {w0 w w' : World} {r : Nat} {cs : List Value} {R : Qy.Reg} (h : RegAt w (New w0) cs R) (k : At1 r w w') (hr : r < w0.heap.size) : RegAt w' (New w0) cs R :=
  RegAt.keep k.size (fun g hg hl => ⟨hg, k.heap hl (fun e => by unfold New at hg; omega)⟩) cs R h
/-- A row of regions of one's own: the slice v holds the regions l, in a block of N; their kids lie in such blocks, too, none in the row's own. -/
def KRow (T : TypeId) (N : Nat → Prop) (w : World) (v : Value) (l : List Qy.Reg) : Prop :=
  ∃ css : List (List Value), css.length = l.length ∧ w.ownsRow 0 T 9 v l.length css.flatten ∧ (∀ g, v.ownBlock = some g → N g) ∧ ∀ (j : Nat) (cs : List Value) (R : Qy.Reg), css[j]? = some cs → l[j]? = some R → cs.length = 9 ∧ RegAt w (fun g => N g ∧ v.ownBlock ≠ some g) cs R
theorem KRow.nil {T : TypeId} (N : Nat → Prop) (w : World) : KRow T N w (.slice none 0 0) [] := by
  refine ⟨[], rfl, World.ownsRow_nil w 0 T 9, fun g h => (by cases h), fun j cs R h => ?_⟩
  simp at h
theorem KRow.at1 {T : TypeId} {N : Nat → Prop} {w w' : World} {r : Nat} {v : Value} {l : List Qy.Reg} (h : KRow T N w v l) (k : At1 r w w') (hr : ¬ N r) : KRow T N w' v l := by
  obtain ⟨css, h1, h2, h3, h4⟩ := h
  refine ⟨css, h1, ⟨h2.1, ?_⟩, h3, fun j cs R hj hR => ⟨(h4 j cs R hj hR).1, RegAt.keep k.size (fun g hg hl => ⟨hg, k.heap hl (fun e => hr (e ▸ hg.1))⟩) cs R (h4 j cs R hj hR).2⟩⟩
  rcases h2.2 with h | ⟨g, cap, cur, e, k2, k3, k4⟩
  · exact .inl h
  · exact .inr ⟨g, cap, cur, e, k2, (k.heap (heap_lt k3) (fun e2 => hr (e2 ▸ h3 g (by rw [e]; rfl)))).trans k3, k4⟩
theorem KRow.on {T : TypeId} {N : Nat → Prop} {w w' : World} {v : Value} {l : List Qy.Reg} (h : KRow T N w v l) (k : Below w.heap.size w w') : KRow T N w' v l := by
  obtain ⟨css, h1, h2, h3, h4⟩ := h
  refine ⟨css, h1, ⟨h2.1, ?_⟩, h3, fun j cs R hj hR => ⟨(h4 j cs R hj hR).1, RegAt.keep k.size (fun g hg hl => ⟨hg, k.block g hl⟩) cs R (h4 j cs R hj hR).2⟩⟩
  rcases h2.2 with h | ⟨g, cap, cur, e, k2, k3, k4⟩
  · exact .inl h
  · exact .inr ⟨g, cap, cur, e, k2, (k.block g (heap_lt k3)).trans k3, k4⟩
/-- A region is appended. wi: the world ahead of the making of the region. -/
theorem KRow.push {T : TypeId} {N : Nat → Prop} {wi w1 w2 : World} {v v' : Value} {l : List Qy.Reg} {css : List (List Value)} {cs : List Value} {R : Qy.Reg} (h1 : css.length = l.length) (h3 : ∀ g, v.ownBlock = some g → N g)
    (h4 : ∀ (j : Nat) (cs : List Value) (R : Qy.Reg), css[j]? = some cs → l[j]? = some R → cs.length = 9 ∧ RegAt w1 (fun g => N g ∧ v.ownBlock ≠ some g) cs R) (hc : cs.length = 9) (hR : RegAt w1 (New wi) cs R) (hwi : ∀ g, New wi g → N g) (hz : wi.heap.size ≤ w1.heap.size)
    (hvi : ∀ g, v.ownBlock = some g → g < wi.heap.size) (ho : w2.ownsRow 0 T 9 v' (l.length + 1) (css.flatten ++ cs)) (hg : w1.grownBy w2 v.ownBlock)
    (hv : v'.ownBlock = v.ownBlock ∨ v'.ownBlock = some w1.heap.size) : KRow T N w2 v' (l ++ [R]) := by
  have hne : ∀ g, v.ownBlock ≠ some g → g < w1.heap.size → v'.ownBlock ≠ some g := fun g h k e => by
    rcases hv with e2 | e2
    · exact h (e2.symm.trans e)
    · rw [e2] at e
      injection e with e
      omega
  refine ⟨css ++ [cs], by simp [h1], by simpa using ho, fun g hg => ?_, fun j cs' R' hj hR' => ?_⟩
  · rcases hv with e2 | e2
    · exact h3 g (e2.symm.trans hg)
    · rw [e2] at hg
      injection hg with hg
      exact hwi g (by unfold New; omega)
  rcases Nat.lt_or_ge j l.length with hlt | hge
  · rw [List.getElem?_append_left (by omega)] at hj hR'
    obtain ⟨k1, k2⟩ := h4 j cs' R' hj hR'
    exact ⟨k1, RegAt.keep hg.size (fun g hg' hl => ⟨⟨hg'.1, hne g hg'.2 hl⟩, hg.block g hl (fun e => hg'.2 e.symm)⟩) cs' R' k2⟩
  · rw [List.getElem?_append_right (by omega)] at hj hR'
    have hj0 : j - l.length = 0 := by
      have := (List.getElem?_eq_some_iff.1 hR').1
      simp at this
      omega
    rw [h1, hj0] at hj
    rw [hj0] at hR'
    simp only [List.getElem?_cons_zero, Option.some.injEq] at hj hR'
    subst hj
    subst hR'
    have hown : ∀ g, New wi g → v.ownBlock ≠ some g := fun g hg' e => by
      have := hvi g e
      unfold New at hg'
      omega
    exact ⟨hc, RegAt.keep hg.size (fun g hg' hl => ⟨⟨hwi g hg', hne g (hown g hg') hl⟩, hg.block g hl (fun e => hown g hg' e.symm)⟩) cs R hR⟩
end Go.Proofs.YtmlpibdincfgbaaDoor
