/-
  Rows of a call's own whose cells hold no words: an append to them keeps all words, wherever these lie.
-/
import Derived.Test.YthafhbogpfggjaaGreatDoorReg
import Derived.Laws.AppendOwn
import Derived.Deep.RegionLawGrows
namespace Go.Proofs.YthafhbogpfggjaaGreatDoor
open Go.RowKit

/-- The slice v owns the cells xs (n elements of sz cells) in a row from block B on, of which no cell holds a word. -/
def RowK (w : World) (B : Nat) (e : TypeId) (sz : Nat) (v : Value) (n : Nat) (xs : List Value) : Prop :=
  xs.length = n * sz ∧ ((v = .slice none 0 0 ∧ n = 0) ∨
    ∃ g cap cur, v = .slice (some ⟨g, 0, none⟩) n cap ∧ B ≤ g ∧ w.heap[g]? = some (.cells cur e (0, 0)) ∧ n ≤ cap ∧ cap ≤ maxLen ∧ cur.size = cap * sz ∧ cur.toList.take (n * sz) = xs ∧ ∀ u ∈ cur.toList, ¬ Word u)
theorem RowK.nil (w : World) (B : Nat) (e : TypeId) (sz : Nat) : RowK w B e sz (.slice none 0 0) 0 [] := ⟨by simp, .inl ⟨rfl, rfl⟩⟩
theorem RowK.on {w w' : World} {B : Nat} {e : TypeId} {sz : Nat} {v : Value} {n : Nat} {xs : List Value} (h : RowK w B e sz v n xs) (hb : Below w.heap.size w w') : RowK w' B e sz v n xs := by
  refine ⟨h.1, ?_⟩
  rcases h.2 with h | ⟨g, cap, cur, h1, h2, h3, h4⟩
  · exact .inl h
  · refine .inr ⟨g, cap, cur, h1, h2, (hb.block g ?_).trans h3, h4⟩
    rcases Nat.lt_or_ge g w.heap.size with k | k
    · exact k
    · rw [Array.getElem?_eq_none k] at h3; cases h3
theorem RowK.lt {w : World} {B : Nat} {e : TypeId} {sz : Nat} {v : Value} {n : Nat} {xs : List Value} (h : RowK w B e sz v n xs) : ∀ k, v.ownBlock = some k → B ≤ k ∧ k < w.heap.size := by
  rcases h.2 with ⟨rfl, _⟩ | ⟨g, cap, cur, rfl, h2, h3, _⟩
  · intro k hk; cases hk
  · intro k hk
    injection hk with hk
    subst hk
    refine ⟨h2, ?_⟩
    rcases Nat.lt_or_ge g w.heap.size with k | k
    · exact k
    · rw [Array.getElem?_eq_none k] at h3; cases h3
/-- The cells of a row that is not empty. -/
theorem RowK.some {w : World} {B : Nat} {e : TypeId} {sz : Nat} {v : Value} {n : Nat} {xs : List Value} (h : RowK w B e sz v n xs) (hn : 0 < n) :
    ∃ g cap, v = .slice (some ⟨g, 0, none⟩) n cap ∧ B ≤ g ∧ g < w.heap.size ∧ n ≤ cap ∧ cap ≤ maxLen ∧ (∀ j, j < n * sz → w.cell? ⟨g, j, none⟩ = xs[j]?) ∧ (∀ j, w.frozen? ⟨g, j, none⟩ = false) := by
  rcases h.2 with ⟨_, h0⟩ | ⟨g, cap, cur, rfl, h2, h3, h4, h5, h6, h7, _⟩
  · omega
  · refine ⟨g, cap, rfl, h2, (h.lt g rfl).2, h4, h5, fun j hj => ?_, fun j => ?_⟩
    · rw [← h7, List.getElem?_take_of_lt hj]
      simp [World.cell?, h3]
    · simp [World.frozen?, h3]
theorem grow_keeps {w : World} {o : Obj} : Keeps w (w.drew.alloc o) := Below.keeps ((Below.drew (Below.refl _ w)).alloc (Nat.le_refl _) o)
section
variable {P : Program} (w : World)
/-- append(v, x). -/
theorem run_push (t ty e : TypeId) (i : TypeInfo) (z : Value) (sz bytes : Nat) (ht : P.underlying t = some (.slice e)) (hi : P.info? e = some i) (hz : i.zero = some z) (hsize : i.size = sz) (hby : i.bytes = bytes) (hzs : z.cells.size = sz) (hsz : 0 < sz)
    (hzw : ∀ u ∈ z.cells.toList, ¬ Word u) (B : Nat) (v : Value) (n : Nat) (xs : List Value) (hown : RowK w B e sz v n xs)
    (a : Addr) (c : Nat) (news : List Value) (hl : news.length = sz) (hnews : ∀ j u, news[j]? = some u → w.cell? (a.add j) = some u) (h1 : ∀ u ∈ news, u.oneCell' = true) (hnw : ∀ u ∈ news, ¬ Word u)
    (h63 : n + 1 ≤ maxLen) (hbytes : (n + 1) * bytes ≤ 140737488355328) (hB : B ≤ w.heap.size) :
    ∃ v' w', (Builtin.append_ #[t, t] ty #[v, .slice (some a) 1 c]).run P w = .ok v' w' ∧ RowK w' B e sz v' (n + 1) (xs ++ news) ∧ w.grownBy w' v.ownBlock ∧ Keeps w w' := by
  subst hsize
  subst hby
  have hsmall : n + 1 ≤ 9223372036854775807 := by simp only [maxLen] at h63; omega
  have hl1 : news.length = 1 * i.size := by omega
  have hlen : (xs ++ news).length = (n + 1) * i.size := by rw [List.length_append, hown.1, hl, Nat.add_mul, Nat.one_mul]
  have hzz : ∀ (k : Nat), ∀ u ∈ (Builtin.zeroCells z.cells k).toList, ¬ Word u := by
    intro k u hu
    simp only [Builtin.zeroCells] at hu
    have : u ∈ z.cells.toList := by
      simp only [Array.toList_map, List.mem_map] at hu
      obtain ⟨l, _, hl⟩ := hu
      have hm : l % z.cells.size < z.cells.size := Nat.mod_lt _ (by omega)
      rw [getElem!_pos z.cells (l % z.cells.size) hm] at hl
      rw [← hl, Array.mem_toList_iff]
      exact Array.getElem_mem hm
    exact hzw u this
  have grown : ∀ (old : Nat), old < n + 1 → (∀ u ∈ xs, ¬ Word u) → ∀ (row : Option Nat),
      RowK (w.drew.alloc (.cells (xs.toArray ++ news.toArray ++ Builtin.zeroCells z.cells (grownCap w (n + 1) old e - (n + 1))) e)) B e i.size
        (.slice (Option.some ⟨w.heap.size, 0, none⟩) (n + 1) (grownCap w (n + 1) old e)) (n + 1) (xs ++ news) ∧
      w.grownBy (w.drew.alloc (.cells (xs.toArray ++ news.toArray ++ Builtin.zeroCells z.cells (grownCap w (n + 1) old e - (n + 1))) e)) row := by
    intro old ho hxw row
    have hge := grownCap_ge w (n + 1) old e
    have hcm : grownCap w (n + 1) old e ≤ maxLen := grownCap_le_maxLen w (n + 1) old e h63
    refine ⟨⟨hlen, .inr ⟨w.heap.size, _, _, rfl, hB, heap_alloc_new w.drew _, hge, hcm, ?_, ?_, ?_⟩⟩, ⟨rfl, rfl, rfl, by simp, fun k hk _ => heap_alloc_old w.drew _ (by first | exact hk | assumption)⟩⟩
    · simp only [Array.size_append, List.size_toArray, size_zeroCells, hzs, hown.1, hl1, ← Nat.add_mul]
      congr 1
      omega
    · simp only [Array.toList_append, List.append_assoc]
      rw [← List.append_assoc, ← hlen]
      exact List.take_left
    · intro u hu
      simp only [Array.toList_append, List.mem_append] at hu
      rcases hu with (hu | hu) | hu
      · exact hxw u hu
      · exact hnw u hu
      · exact hzz _ u hu
  rcases hown.2 with ⟨rfl, rfl⟩ | ⟨g, cap, cur, rfl, hbg, hg, hnc, hcm, hcs, htake, hcw⟩
  · have hx : xs = [] := List.eq_nil_of_length_eq_zero (by simpa using hown.1)
    subst hx
    have hr := run_append_nil (P := P) w t ty e i z ht hi hz a 1 c news hl1 hnews (by omega) (by omega) (by have hb := hbytes; simp only [Nat.zero_add] at hb; omega)
    have hgr := grown 0 (by omega) (by simp) (Value.ownBlock (.slice none 0 0))
    simp only [Nat.zero_add, List.nil_append, Array.empty_append] at hgr ⊢
    exact ⟨_, _, hr, hgr.1, hgr.2, grow_keeps⟩
  · have hxw : ∀ u ∈ xs, ¬ Word u := fun u hu => hcw u (by rw [← htake] at hu; exact List.mem_of_mem_take hu)
    by_cases hroom : n + 1 ≤ cap
    · have hfit : n * i.size + news.length ≤ cur.size := by rw [hl1, hcs, ← Nat.add_mul]; exact Nat.mul_le_mul_right _ hroom
      have hr := run_append_room (P := P) w t ty e i ht hi g n cap cur hg a 1 c news hl1 hnews h1 hroom hfit
      refine ⟨_, _, hr, ⟨hlen, .inr ⟨g, cap, _, rfl, hbg, setRow_heap w g cur _ e _ hg, hroom, hcm, ?_, ?_, ?_⟩⟩, ⟨rfl, rfl, rfl, by simp, fun k _ hk => setRow_other w g k _ (fun e => hk (by simp [Value.ownBlock, e]))⟩, ⟨by simp, fun p u hp hu => ?_⟩⟩
      · simp only [List.size_toArray, List.length_append, List.length_take, List.length_drop, Array.length_toList]
        omega
      · rw [htake, ← hlen]
        exact List.take_left
      · intro u hu
        simp only [List.mem_append] at hu
        rcases hu with (hu | hu) | hu
        · exact hcw u (List.mem_of_mem_take hu)
        · exact hnw u hu
        · exact hcw u (List.mem_of_mem_drop hu)
      · by_cases hpg : p.block = g
        · exfalso
          have hcell := hp
          obtain ⟨pb, po, ps⟩ := p
          simp only at hpg
          subst hpg
          cases ps with
          | none =>
            simp [World.cell?, hg] at hcell
            exact hcw u (by rw [← Array.getElem?_toList] at hcell; exact List.mem_of_getElem? hcell) hu
          | some s =>
            simp [World.cell?, hg] at hcell
        · rw [World.cell?_of_block (setRow_other w g p.block _ hpg)]; exact hp
    · have holds : ∀ j u, xs[j]? = some u → w.cell? ((⟨g, 0, none⟩ : Addr).add j) = some u := fun j u hj => by
        have hj' : j < n * i.size := by
          rw [← hown.1]
          rcases Nat.lt_or_ge j xs.length with h | h
          · exact h
          · rw [List.getElem?_eq_none h] at hj; cases hj
        rw [← htake, List.getElem?_take_of_lt hj'] at hj
        rw [Addr.add_lit, Nat.zero_add]
        simpa [World.cell?, hg] using hj
      have hr := run_append_grow (P := P) w t ty e i z ht hi hz ⟨g, 0, none⟩ n cap xs hown.1 holds a 1 c news hl1 hnews (by omega) (by omega) (growslice_fits (by omega) hbytes)
      have hgr := grown cap (by omega) hxw (Value.ownBlock (.slice (Option.some ⟨g, 0, none⟩) n cap))
      exact ⟨_, _, hr, hgr.1, hgr.2, grow_keeps⟩
/-- The walk's step. -/
theorem wpList_push {ops : Array Oper} {rest : List Oper} {o : Oper} {ac : Act} {Q : Exit → Act → World → Prop} (hgd : o.guard = none) (s x : Operand) (t : TypeId)
    (ho : o.op = .call { callee := .builtin .append, args := #[s, x], argTypes := #[t, t] })
    (e : TypeId) (i : TypeInfo) (z : Value) (sz bytes : Nat) (ht : P.underlying t = some (.slice e)) (hi : P.info? e = some i) (hz : i.zero = some z) (hsize : i.size = sz) (hby : i.bytes = bytes) (hzs : z.cells.size = sz) (hsz : 0 < sz)
    (hzw : ∀ u ∈ z.cells.toList, ¬ Word u) (B : Nat) (v : Value) (n : Nat) (xs : List Value) (hs : ac.eval s = v) (hown : RowK w B e sz v n xs)
    (a : Addr) (c : Nat) (news : List Value) (hx : ac.eval x = .slice (some a) 1 c) (hl : news.length = sz) (hnews : ∀ j u, news[j]? = some u → w.cell? (a.add j) = some u) (h1 : ∀ u ∈ news, u.oneCell' = true) (hnw : ∀ u ∈ news, ¬ Word u)
    (h63 : n + 1 ≤ maxLen) (hbytes : (n + 1) * bytes ≤ 140737488355328) (hB : B ≤ w.heap.size)
    (h : ∀ v' w', RowK w' B e sz v' (n + 1) (xs ++ news) → w.grownBy w' v.ownBlock → Keeps w w' → wpList P ops Q rest (ac.put o.dst v') w') :
    wpList P ops Q (o :: rest) ac w := by
  refine wpList_plain hgd fun K hK => ?_
  obtain ⟨v', w', hr, h2, h3, h4⟩ := run_push (P := P) w t o.type e i z sz bytes ht hi hz hsize hby hzs hsz hzw B v n xs hown a c news hl hnews h1 hnw h63 hbytes hB
  unfold Oper.wp execOp
  simp only [ho, resolve, invoke, builtin, Sem.run_bind, Sem.run_pure, Result.andThen_ok, List.map_toArray, List.map_cons, List.map_nil, hs, hx, hr]
  exact hK _ _ (h v' w' h2 h3 h4)
end
theorem RowK.below {B : Nat} {a w w' : World} {v : Value} {e : TypeId} {sz n : Nat} {xs : List Value} (ho : RowK w B e sz v n xs) (h : Below B a w) (hg : w.grownBy w' v.ownBlock) (hs : B ≤ w.heap.size) : Below B a w' :=
  Below.grown h hg hs fun k hk => (ho.lt k hk).1
end Go.Proofs.YthafhbogpfggjaaGreatDoor
