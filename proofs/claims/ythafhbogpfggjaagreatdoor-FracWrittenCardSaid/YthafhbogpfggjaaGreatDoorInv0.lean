/-
  A region that draws its order, by an invariant: what holds when a set of its operations has come up. What an Int's parts are.
-/
import Derived.Orders
import Derived.RegionTactic
import Derived.Below
import Derived.Test.YthafhbogpfggjaaGreatDoorMem
namespace Go.Proofs.YthafhbogpfggjaaGreatDoor
open Go.RowKit

/-- The operation k has come up. -/
def done (L : Array Bool) (k : Nat) : Prop := L.getD k false = true
theorem done_set {L : Array Bool} {i k : Nat} (h : done (L.setIfInBounds i true) k) (hne : i ≠ k) : done L k := by
  unfold done at *
  rw [Array.getD_eq_getD_getElem?, Array.getElem?_setIfInBounds_ne hne, ← Array.getD_eq_getD_getElem?] at h
  exact h
theorem not_done_set {L : Array Bool} {i k : Nat} (h : ¬ done (L.setIfInBounds i true) k) (hne : i ≠ k) : ¬ done L k := fun hd => by
  apply h
  unfold done at *
  rw [Array.getD_eq_getD_getElem?, Array.getElem?_setIfInBounds_ne hne, ← Array.getD_eq_getD_getElem?]
  exact hd
theorem done_up {L : Array Bool} {i k : Nat} (h : done L k) : done (L.setIfInBounds i true) k := by
  unfold done at *
  rw [Array.getD_eq_getD_getElem?] at h ⊢
  by_cases e : i = k
  · subst e
    rw [Array.getElem?_setIfInBounds_self]
    cases hL : L[i]? with
    | none => rw [hL] at h; simp at h
    | some b =>
      obtain ⟨hlt, _⟩ := Array.getElem?_eq_some_iff.1 hL
      rw [if_pos hlt]; rfl
  · rw [Array.getElem?_setIfInBounds_ne e]; exact h
theorem done_none (n k : Nat) : ¬ done (Array.replicate n false) k := by
  unfold done
  rw [Array.getD_eq_getD_getElem?, Array.getElem?_replicate]
  split <;> simp

theorem ready_spec {ops : Array Oper} {L : Array Bool} {i : Nat} (h : i ∈ Region.ready .any ops L) :
    i < ops.size ∧ ¬ done L i ∧ ∀ o, ops[i]? = some o → ∀ e ∈ o.after, Region.binds .any e = true → done L e.on := by
  unfold Region.ready at h
  rw [List.mem_filter, List.mem_range] at h
  obtain ⟨h1, h2⟩ := h
  rw [Bool.and_eq_true] at h2
  obtain ⟨h3, h4⟩ := h2
  refine ⟨h1, ?_, ?_⟩
  · intro hd
    unfold done at hd
    rw [Array.getD_eq_getD_getElem?] at hd h3
    cases hL : L[i]? with
    | none => rw [hL] at hd; simp at hd
    | some b => rw [hL] at hd h3; simp at hd h3; rw [hd] at h3; cases h3
  · intro o ho e he hb
    rw [ho] at h4
    simp only [Option.map_some, Option.getD_some, Array.all_eq_true] at h4
    obtain ⟨j, hj, rfl⟩ := Array.getElem_of_mem he
    have := h4 j hj
    rw [hb] at this
    simpa [done] using this

/-- How many operations have not come up. -/
def left (L : Array Bool) : Nat := (L.toList.filter (!·)).length
theorem left_list (l : List Bool) : ∀ i, l[i]? = some false → ((l.set i true).filter (!·)).length + 1 = (l.filter (!·)).length := by
  induction l with
  | nil => intro i h; cases h
  | cons b l ih =>
    intro i h
    cases i with
    | zero => simp at h; subst h; simp
    | succ i =>
      have h1 := ih i (by simpa using h)
      cases b <;> simp <;> omega
theorem left_set {L : Array Bool} {i : Nat} (hi : i < L.size) (h : ¬ done L i) : left (L.setIfInBounds i true) + 1 = left L := by
  unfold left
  rw [Array.toList_setIfInBounds]
  apply left_list
  unfold done at h
  rw [Array.getD_eq_getD_getElem?, Array.getElem?_eq_getElem hi] at h
  rw [Array.getElem?_toList, Array.getElem?_eq_getElem hi]
  simpa using h

section
variable {P : Program} {ops : Array Oper} {Q : Exit → Act → World → Prop}
theorem region_inv {id : Nat} {a : Act} {w : World} (hm : P.follows .mixedOrders = true) (J : Array Bool → Act → World → Prop)
    (h0 : J (Array.replicate ops.size false) a w.drew)
    (hs : ∀ L a w i, J L a w → i ∈ Region.ready .any ops L → wpOp P ops Q i (J (L.setIfInBounds i true)) a w)
    (he : ∀ L a w, J L a w → Region.ready .any ops L = [] → Q .normal a w) : (Code.region id ops true).wp P Q a w := by
  refine wp_region_any hm ?_
  have key : ∀ fuel L a w, left L ≤ fuel → L.size = ops.size → J L a w → wpAny P .any ops Q fuel L a w := by
    intro fuel
    induction fuel with
    | zero =>
      intro L a w hl hsz hJ
      have hr : Region.ready .any ops L = [] := by
        apply List.eq_nil_iff_forall_not_mem.2
        intro i hi
        obtain ⟨h1, h2, _⟩ := ready_spec hi
        have := left_set (L := L) (i := i) (by omega) h2
        omega
      exact ⟨hr, he L a w hJ hr⟩
    | succ fuel ih =>
      intro L a w hl hsz hJ
      refine ⟨he L a w hJ, fun i hi => ?_⟩
      obtain ⟨h1, h2, _⟩ := ready_spec hi
      have h3 := left_set (L := L) (i := i) (by omega) h2
      exact wpOp_mono (fun a' w' hJ' => ih _ a' w' (by omega) (by simp [hsz]) hJ') (hs L a w i hJ hi)
  exact key ops.size _ a w.drew (by unfold left; simp) (by simp) h0
end
/-- When nothing is ready, all have come up. -/
theorem all_done {ops : Array Oper} {L : Array Bool} (h : Region.ready .any ops L = []) (hL : L.size = ops.size)
    (ho : ((List.range ops.size).all fun k => ((ops[k]?).map fun o => o.after.toList.all fun e => !Region.binds .any e || decide (e.on < k)).getD true) = true) : ∀ k, k < ops.size → done L k := by
  intro k
  induction k using Nat.strongRecOn with
  | ind k ih =>
    intro hk
    by_cases hd : done L k
    · exact hd
    · exfalso
      have hm : k ∈ Region.ready .any ops L := by
        unfold Region.ready
        rw [List.mem_filter, List.mem_range]
        refine ⟨hk, ?_⟩
        rw [Bool.and_eq_true]
        constructor
        · unfold done at hd
          rw [Array.getD_eq_getD_getElem?, Array.getElem?_eq_getElem (by omega)] at hd ⊢
          simpa using hd
        · rw [Array.getElem?_eq_getElem hk]
          simp only [Option.map_some, Option.getD_some, Array.all_eq_true]
          intro j hj
          have h1 := List.all_eq_true.1 ho k (List.mem_range.2 hk)
          rw [Array.getElem?_eq_getElem hk] at h1
          simp only [Option.map_some, Option.getD_some] at h1
          have h2 := List.all_eq_true.1 h1 (ops[k].after[j]) (by simp)
          rw [Bool.or_eq_true] at h2 ⊢
          rcases h2 with h2 | h2
          · exact .inl h2
          · refine .inr ?_
            have := of_decide_eq_true h2
            exact ih _ this (by omega)
      rw [h] at hm
      cases hm

theorem below_new (w : World) (o : Obj) : Below w.heap.size w (w.alloc o) := (Below.refl _ _).alloc (Nat.le_refl _) o
/-- The parts of an integer's value. -/
structure IV where
  neg : Bool
  A : Option Addr
  n : Nat
  c : Nat
end Go.Proofs.YthafhbogpfggjaaGreatDoor
