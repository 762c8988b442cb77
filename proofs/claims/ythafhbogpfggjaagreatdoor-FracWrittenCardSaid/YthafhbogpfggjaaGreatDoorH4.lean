/-
  Package hash: mix, and the words of bytes.
-/
import Derived.RangeFuncFrom
import Derived.RangeFuncNested
import Derived.RangeFuncBound
import Derived.RangeFuncCalls
import Derived.RangeFuncLeaves
import Derived.RangeFuncBox
import Derived.Shelf.Abstract
import Derived.Shelf.RegionOpen
import Derived.WalkKit
import Derived.OwnWalkIn
import Derived.TacticsInMore
import Derived.LoopNIn
import Derived.LoopIn
import Derived.Test.YthafhbogpfggjaaGreatDoorZ5
import Derived.Maps.AppendAt
namespace Go.Proofs.YthafhbogpfggjaaGreatDoor
open Go.RowKit Go.Shelf

attribute [local go_sem] Oper.semAt_some

def mixv (s w : Int) : Int := bits .xor .u64 (IntKind.u64.wrap (bits .xor .u64 s w * 11400714819323198485)) (IntKind.u64.wrap (bits .xor .u64 s w * 11400714819323198485) / 4294967296)
set_option maxRecDepth 100000 in
set_option maxHeartbeats 1600000 in
theorem hMix (s x : Int) (w : World) : Calls Tryz.prog 183 #[.int .u64 s, .int .u64 x] w fun e w' => e = .returned (.int .u64 (mixv s x)) ∧ w' = w := by
  go_enter Tryz.func183, Tryz.ntmps183
  go_wp2
  go_returns
  exact ⟨rfl, rfl⟩
/-- The blocks below n₀, but ex, are as they were. -/
def Bx (n₀ ex : Nat) (W W' : World) : Prop := ∀ k, k < n₀ → k ≠ ex → W'.heap[k]? = W.heap[k]?
theorem Bx.refl (n₀ ex : Nat) (W : World) : Bx n₀ ex W W := fun _ _ _ => rfl
theorem Bx.trans {n₀ ex : Nat} {a b c : World} (h : Bx n₀ ex a b) (k : Bx n₀ ex b c) : Bx n₀ ex a c := fun j hj he => (k j hj he).trans (h j hj he)
theorem Bx.cell {n₀ ex : Nat} {a b : World} (h : Bx n₀ ex a b) {p : Addr} (hp : p.block < n₀) (he : p.block ≠ ex) : b.cell? p = a.cell? p := World.cell?_of_block (h p.block hp he)
theorem Bx.set_ {n₀ ex : Nat} (W : World) {p : Addr} (hp : p.block = ex) (u : Value) : Bx n₀ ex W (W.setCell p u) := fun k _ he => Below.heap_setCell W p u k (fun e => he (by rw [e, hp]))
theorem Bx.of_below {n₀ ex : Nat} {a b : World} (h : Below n₀ a b) : Bx n₀ ex a b := fun k hk _ => h.block k hk
theorem bxK_b {n₀ ex : Nat} {w : World} (hn : n₀ ≤ w.heap.size) (W : World) (l : Nat) (o o' : Obj) (hl : w.heap.size ≤ l) (h : W.heap[l]? = some o) (h1 : o.isCells = false) (h2 : o.isWalk = false) : Bx n₀ ex W (W.putObj l o') := Bx.of_below (belowK_b hn W l o o' hl h h1 h2)
/-- The word's bytes put together. -/
def wstep (x : Int) (b j : Nat) : Int := bits .or .u64 x (IntKind.u64.wrap (IntKind.u64.wrap (b : Int) * 2 ^ (8 * j)))
def wacc (l : List Nat) (i : Nat) : Nat → Int
  | 0 => 0
  | m + 1 => wstep (wacc l i m) (l[i + m]?.getD 0) m
def wordAt (l : List Nat) (k : Nat) : Int := wacc l (8 * k) (min (8 * k + 8) l.length - 8 * k)
def wordsUp (l : List Nat) (k : Nat) : List Int := (List.range k).map (wordAt l)
theorem wordsUp_succ (l : List Nat) (k : Nat) : wordsUp l (k + 1) = wordsUp l k ++ [wordAt l k] := by simp [wordsUp, List.range_succ]
theorem wordsUp_len (l : List Nat) (k : Nat) : (wordsUp l k).length = k := by simp [wordsUp]
set_option maxRecDepth 100000 in
set_option maxHeartbeats 3200000 in
theorem words1_in (F : Fence) (n : Nat) (h7 : F.fn 181) (hro : F.round = none) (hn : 1 ≤ n) (y Bs n₀ ex g off c : Nat) (l : List Nat) (hl : l.length ≤ 100000000000000) (hg : g < n₀) (hgx : g ≠ ex) (J Jx : List Int → World → Prop)
    (hY : ∀ pre x W, J pre W → pre.length < (l.length + 7) / 8 → YieldAt F (n - 1) Tryz.prog y #[.int .u64 x] W fun e W' =>
      (e = .returned (.bool true) ∧ J (pre ++ [x]) W' ∧ Bx n₀ ex W W') ∨ (e = .returned (.bool false) ∧ Jx (pre ++ [x]) W'))
    (W : World) (hBs : W.cell? ⟨Bs, 0, none⟩ = some (.slice (some ⟨g, off, none⟩) l.length c)) (hBn : Bs < n₀) (hBx : Bs ≠ ex) (hc : ∀ j, j < l.length → W.cell? ⟨g, off + j, none⟩ = some (.int .u8 ((l[j]?.getD 0 : Nat) : Int))) (h0 : J [] W) :
    CallsIn F n Tryz.prog 181 #[.func (.yield y) #[] #[], .pointer (some ⟨Bs, 0, none⟩)] W fun e W' => (∃ v, e = .returned v) ∧
      ((∃ ys, ys = wordsUp l ((l.length + 7) / 8) ∧ J ys W') ∨ (∃ pre, (∃ k, k ≤ (l.length + 7) / 8 ∧ pre = wordsUp l k) ∧ Jx pre W')) := by
  refine callsIn_of_wp Tryz.func181 rfl h7 ?_ hro
  simp only [Tryz.ntmps181, List.size_toArray, List.length_cons, List.length_nil, Nat.reduceAdd, Nat.reduceSub, Array.replicate_succ, Array.replicate_zero, List.push_toArray, List.append_toArray, List.nil_append, List.cons_append]
  gi_wp2
  gi_loopw [3] (fun i wr => ∃ k : Nat, k ≤ (l.length + 7) / 8 ∧ i = .int .i64 ((8 * k : Nat) : Int) ∧ J (wordsUp l k) wr ∧ Bx n₀ ex W wr)
    (fun i _ => l.length + 8 - (intOf i).toNat)
  case atStart => exact ⟨0, Nat.zero_le _, rfl, h0, Bx.refl _ _ _⟩
  case round =>
    obtain ⟨k, hk, rfl, hJs, hnx⟩ := hrel
    have hbs := (hnx.cell (p := ⟨Bs, 0, none⟩) hBn hBx).trans hBs
    by_cases hlt : 8 * k < l.length
    · obtain ⟨fn, tmps, assign, body, hy, hR⟩ := hY _ (wordAt l k) wr hJs (by rw [wordsUp_len]; omega)
      obtain ⟨M, hM⟩ : ∃ M, min (8 * k + 8) l.length - 8 * k = M := ⟨_, rfl⟩
      have hM8 : M ≤ 8 := by omega
      have hMl : 8 * k + M ≤ l.length := by omega
      have hmin : min ((8 * k : Nat) + 8 : Int) (l.length : Int) = ((8 * k + M : Nat) : Int) := by omega
      have k0 : (0 : Int) ≤ ((8 * k : Nat) : Int) := by omega
      have hll : (l.length : Int) ≤ 100000000000000 := by omega
      have hkl : ((8 * k : Nat) : Int) < (l.length : Int) := by omega
      obtain ⟨i, hi⟩ : ∃ i, 8 * k = i := ⟨_, rfl⟩
      have hwa : wordAt l k = wacc l i M := by unfold wordAt; rw [hM, hi]
      rw [hi] at hmin k0 hkl hMl ⊢
      rw [hwa] at hy
      obtain ⟨wo, e_⟩ : ∃ wo : World, wo = wr := ⟨_, rfl⟩
      subst e_
      gi_wp2
      gi_loopw [4, 5] (fun s4 s5 wi => ∃ m : Nat, m ≤ M ∧ s5 = .int .i64 ((i + m : Nat) : Int) ∧ s4 = .int .u64 (wacc l i m) ∧ wi = wo) (fun _ s _ => M + i - (intOf s).toNat)
      case atStart => exact ⟨0, Nat.zero_le _, rfl, rfl, rfl⟩
      case round =>
        obtain ⟨m, hm, rfl, rfl, rfl⟩ := hrel
        by_cases hmt : m < M
        · have hcx := (hnx.cell (p := ⟨g, off + (i + m), none⟩) hg hgx).trans (hc (i + m) (by omega))
          gi_wp2
          go_roundw
          case rel => exact ⟨m + 1, by omega, by go_num, rfl, trivial⟩
          case measure => simp [intOf]; omega
        · obtain rfl : m = M := by omega
          gi_wp2
          refine hR.mono ?_
          rintro e W3 (⟨rfl, hJ3, hk3⟩ | ⟨rfl, hJx3⟩)
          · gi_wp2
            go_roundw
            case rel => exact ⟨k + 1, by omega, by rw [← hi]; go_num, by rw [wordsUp_succ]; exact hJ3, hnx.trans hk3⟩
            case measure => simp [intOf]; omega
          · gi_wp2
            refine bodyPost_ret (results_none rfl _ _ _) rfl ?_
            exact ⟨⟨_, rfl⟩, .inr ⟨_, ⟨k + 1, by omega, by rw [wordsUp_succ]⟩, hJx3⟩⟩
    · gi_wp2
      go_end0
      obtain rfl : k = (l.length + 7) / 8 := by omega
      exact ⟨⟨_, rfl⟩, .inl ⟨_, rfl, hJs⟩⟩
theorem wordsUp_nil : wordsUp [] 0 = [] := rfl
/-- The words of some bytes. -/
def wordsOf (l : List Nat) : List Int := wordsUp l ((l.length + 7) / 8)
theorem wordsUp_take (l : List Nat) {k m : Nat} (h : k ≤ m) : wordsUp l k <+: wordsUp l m := by
  refine ⟨(List.range' k (m - k)).map (wordAt l), ?_⟩
  unfold wordsUp
  rw [← List.map_append]
  congr 1
  rw [List.range_eq_range', List.range_eq_range']
  have := List.range'_append (s := 0) (m := k) (n := m - k) (step := 1)
  simp only [Nat.one_mul, Nat.zero_add] at this
  rw [this]
  congr 1
  omega
set_option maxRecDepth 100000 in
set_option maxHeartbeats 1600000 in
theorem words1_nil_in (F : Fence) (n : Nat) (h7 : F.fn 181) (hro : F.round = none) (y Bs : Nat) (J : List Int → World → Prop) (W : World) (hBs : W.cell? ⟨Bs, 0, none⟩ = some (.slice none 0 0)) (h0 : J [] W) :
    CallsIn F n Tryz.prog 181 #[.func (.yield y) #[] #[], .pointer (some ⟨Bs, 0, none⟩)] W fun e W' => (∃ v, e = .returned v) ∧ J [] W' := by
  refine callsIn_of_wp Tryz.func181 rfl h7 ?_ hro
  simp only [Tryz.ntmps181, List.size_toArray, List.length_cons, List.length_nil, Nat.reduceAdd, Nat.reduceSub, Array.replicate_succ, Array.replicate_zero, List.push_toArray, List.append_toArray, List.nil_append, List.cons_append]
  gi_wp2
  gi_loopw [3] (fun i wr => i = .int .i64 0 ∧ J [] wr ∧ wr.cell? ⟨Bs, 0, none⟩ = some (.slice none 0 0)) (fun _ _ => 0)
  case atStart => exact ⟨rfl, h0, hBs⟩
  case round =>
    obtain ⟨rfl, hJs, hb⟩ := hrel
    gi_wp2
    go_end0
    exact ⟨⟨_, rfl⟩, hJs⟩
set_option maxRecDepth 100000 in
set_option maxHeartbeats 1600000 in
theorem words_in (F : Fence) (n : Nat) (h5 : F.fn 144) (hro : F.round = none) (A : Option Addr) (m c : Nat) (w : World) :
    CallsIn F n Tryz.prog 144 #[.slice A m c] w fun e w' => e = .returned (.func (.func 181) #[] #[.pointer (some ⟨w.heap.size, 0, none⟩)]) ∧ w' = w.alloc (.cells #[.slice A m c] 36) := by
  refine callsIn_of_wp Tryz.func144 rfl h5 ?_ hro
  simp only [Tryz.ntmps144, List.size_toArray, List.length_cons, List.length_nil, Nat.reduceAdd, Nat.reduceSub, Array.replicate_succ, Array.replicate_zero, List.push_toArray, List.append_toArray, List.nil_append, List.cons_append]
  gi_wp2
  go_ret
  exact ⟨rfl, rfl⟩
theorem words_stops (F : Fence) (n : Nat) (h7 : F.fn 181) (hro : F.round = none) (hn : 1 ≤ n) (Bs n₀ ex : Nat) (A : Option Addr) (c : Nat) (l : List Nat) (hl : l.length ≤ 100000000000000) (w : World) (hBs : Bs < n₀) (hBx : Bs ≠ ex) (hn₀ : n₀ ≤ w.heap.size)
    (hc : w.cell? ⟨Bs, 0, none⟩ = some (.slice A l.length c)) (B : Nat) (hB : B ≤ n₀) (hBe : B ≤ ex) (hI : BIs w B A c l) :
    SeqStopsK F n Tryz.prog 181 #[.pointer (some ⟨Bs, 0, none⟩)] (fun x : Int => #[Value.int .u64 x]) (Bx n₀ ex) (fun ys => ys = wordsOf l) (fun pre => pre <+: wordsOf l) (wordsOf l).length w := fun y J Jx W hW _ _ hY h0 => by
  have hc' := (hW.cell (p := ⟨Bs, 0, none⟩) (Nat.lt_of_lt_of_le hBs hn₀)).trans hc
  rcases hI.on (hW.mono (Nat.le_trans hB hn₀)) with ⟨rfl, rfl, rfl⟩ | ⟨g, off, rfl, hg, _, hcs⟩
  · exact (words1_nil_in F n h7 hro y Bs J W hc' h0).mono fun e W' ⟨he, hj⟩ => ⟨he, .inl ⟨_, rfl, hj⟩⟩
  · have hlen : (wordsOf l).length = (l.length + 7) / 8 := wordsUp_len _ _
    rw [hlen] at hY
    refine (words1_in F n h7 hro hn y Bs n₀ ex g off c l hl (Nat.lt_of_lt_of_le hg hB) (by omega) J Jx hY W hc' hBs hBx (fun j hj => hcs j _ (by simp [u8s, hj])) h0).mono ?_
    rintro e W' ⟨he, ⟨ys, rfl, hj⟩ | ⟨pre, ⟨k, hk, rfl⟩, hj⟩⟩
    · exact ⟨he, .inl ⟨_, rfl, hj⟩⟩
    · exact ⟨he, .inr ⟨_, wordsUp_take l hk, hj⟩⟩
end Go.Proofs.YthafhbogpfggjaaGreatDoor

/-
  (second part)
-/
namespace Go.Proofs.YthafhbogpfggjaaGreatDoor
open Go.RowKit Go.Shelf

attribute [local go_sem] Oper.semAt_some

theorem sbs_at {s : ByteArray} {i : Nat} (h : i < s.size) : (s[i].toNat : Int) = (((sbs s)[i]?.getD 0 : Nat) : Int) := by
  have hi : i < s.data.toList.length := by rw [Array.length_toList]; exact h
  have : (sbs s)[i]? = some (s.data.toList[i].toNat) := by
    simp [sbs]
    exact ⟨_, Array.getElem?_eq_getElem (xs := s.data) h, rfl⟩
  rw [this]
  rfl
set_option maxRecDepth 100000 in
set_option maxHeartbeats 3200000 in
theorem wordsS1_in (F : Fence) (n : Nat) (h7 : F.fn 208) (hro : F.round = none) (hn : 1 ≤ n) (y Bs n₀ ex : Nat) (st : ByteArray) (l : List Nat) (hst : sbs st = l) (hl : l.length ≤ 100000000000000) (J Jx : List Int → World → Prop)
    (hY : ∀ pre x W, J pre W → pre.length < (l.length + 7) / 8 → YieldAt F (n - 1) Tryz.prog y #[.int .u64 x] W fun e W' =>
      (e = .returned (.bool true) ∧ J (pre ++ [x]) W' ∧ Bx n₀ ex W W') ∨ (e = .returned (.bool false) ∧ Jx (pre ++ [x]) W'))
    (W : World) (hBs : W.cell? ⟨Bs, 0, none⟩ = some (.string st)) (hBn : Bs < n₀) (hBx : Bs ≠ ex) (h0 : J [] W) :
    CallsIn F n Tryz.prog 208 #[.func (.yield y) #[] #[], .pointer (some ⟨Bs, 0, none⟩)] W fun e W' => (∃ v, e = .returned v) ∧
      ((∃ ys, ys = wordsUp l ((l.length + 7) / 8) ∧ J ys W') ∨ (∃ pre, (∃ k, k ≤ (l.length + 7) / 8 ∧ pre = wordsUp l k) ∧ Jx pre W')) := by
  have hsz : st.size = l.length := by rw [← hst, sbs_len]
  refine callsIn_of_wp Tryz.func208 rfl h7 ?_ hro
  simp only [Tryz.ntmps208, List.size_toArray, List.length_cons, List.length_nil, Nat.reduceAdd, Nat.reduceSub, Array.replicate_succ, Array.replicate_zero, List.push_toArray, List.append_toArray, List.nil_append, List.cons_append]
  gi_wp2
  gi_loopw [3] (fun i wr => ∃ k : Nat, k ≤ (l.length + 7) / 8 ∧ i = .int .i64 ((8 * k : Nat) : Int) ∧ J (wordsUp l k) wr ∧ Bx n₀ ex W wr)
    (fun i _ => l.length + 8 - (intOf i).toNat)
  case atStart => exact ⟨0, Nat.zero_le _, rfl, h0, Bx.refl _ _ _⟩
  case round =>
    obtain ⟨k, hk, rfl, hJs, hnx⟩ := hrel
    have hbs := (hnx.cell (p := ⟨Bs, 0, none⟩) hBn hBx).trans hBs
    by_cases hlt : 8 * k < l.length
    · obtain ⟨fn, tmps, assign, body, hy, hR⟩ := hY _ (wordAt l k) wr hJs (by rw [wordsUp_len]; omega)
      obtain ⟨M, hM⟩ : ∃ M, min (8 * k + 8) l.length - 8 * k = M := ⟨_, rfl⟩
      have hM8 : M ≤ 8 := by omega
      have hMl : 8 * k + M ≤ l.length := by omega
      have hmin : min ((8 * k : Nat) + 8 : Int) (l.length : Int) = ((8 * k + M : Nat) : Int) := by omega
      have k0 : (0 : Int) ≤ ((8 * k : Nat) : Int) := by omega
      have hll : (l.length : Int) ≤ 100000000000000 := by omega
      have hkl : ((8 * k : Nat) : Int) < (l.length : Int) := by omega
      obtain ⟨i, hi⟩ : ∃ i, 8 * k = i := ⟨_, rfl⟩
      have hwa : wordAt l k = wacc l i M := by unfold wordAt; rw [hM, hi]
      rw [hi] at hmin k0 hkl hMl ⊢
      rw [hwa] at hy
      obtain ⟨wo, e_⟩ : ∃ wo : World, wo = wr := ⟨_, rfl⟩
      subst e_
      gi_wp2
      gi_loopw [4, 5] (fun s4 s5 wi => ∃ m : Nat, m ≤ M ∧ s5 = .int .i64 ((i + m : Nat) : Int) ∧ s4 = .int .u64 (wacc l i m) ∧ wi = wo) (fun _ s _ => M + i - (intOf s).toNat)
      case atStart => exact ⟨0, Nat.zero_le _, rfl, rfl, rfl⟩
      case round =>
        obtain ⟨m, hm, rfl, rfl, rfl⟩ := hrel
        by_cases hmt : m < M
        · have him : i + m < st.size := by omega
          have hbx : (st[i + m].toNat : Int) = ((l[i + m]?.getD 0 : Nat) : Int) := by
            have := sbs_at him
            rwa [hst] at this
          gi_wp2
          go_roundw
          case rel => exact ⟨m + 1, by omega, by go_num, rfl, trivial⟩
          case measure => simp [intOf]; omega
        · obtain rfl : m = M := by omega
          gi_wp2
          refine hR.mono ?_
          rintro e W3 (⟨rfl, hJ3, hk3⟩ | ⟨rfl, hJx3⟩)
          · gi_wp2
            go_roundw
            case rel => exact ⟨k + 1, by omega, by rw [← hi]; go_num, by rw [wordsUp_succ]; exact hJ3, hnx.trans hk3⟩
            case measure => simp [intOf]; omega
          · gi_wp2
            refine bodyPost_ret (results_none rfl _ _ _) rfl ?_
            exact ⟨⟨_, rfl⟩, .inr ⟨_, ⟨k + 1, by omega, by rw [wordsUp_succ]⟩, hJx3⟩⟩
    · gi_wp2
      go_end0
      obtain rfl : k = (l.length + 7) / 8 := by omega
      exact ⟨⟨_, rfl⟩, .inl ⟨_, rfl, hJs⟩⟩
set_option maxRecDepth 100000 in
set_option maxHeartbeats 1600000 in
theorem wordsS_in (F : Fence) (n : Nat) (h5 : F.fn 182) (hro : F.round = none) (st : ByteArray) (w : World) :
    CallsIn F n Tryz.prog 182 #[.string st] w fun e w' => e = .returned (.func (.func 208) #[] #[.pointer (some ⟨w.heap.size, 0, none⟩)]) ∧ w' = w.alloc (.cells #[.string st] 9) := by
  refine callsIn_of_wp Tryz.func182 rfl h5 ?_ hro
  simp only [Tryz.ntmps182, List.size_toArray, List.length_cons, List.length_nil, Nat.reduceAdd, Nat.reduceSub, Array.replicate_succ, Array.replicate_zero, List.push_toArray, List.append_toArray, List.nil_append, List.cons_append]
  gi_wp2
  go_ret
  exact ⟨rfl, rfl⟩
theorem wordsS_stops (F : Fence) (n : Nat) (h7 : F.fn 208) (hro : F.round = none) (hn : 1 ≤ n) (Bs n₀ ex : Nat) (st : ByteArray) (l : List Nat) (hst : sbs st = l) (hl : l.length ≤ 100000000000000) (w : World) (hBs : Bs < n₀) (hBx : Bs ≠ ex) (hn₀ : n₀ ≤ w.heap.size)
    (hc : w.cell? ⟨Bs, 0, none⟩ = some (.string st)) :
    SeqStopsK F n Tryz.prog 208 #[.pointer (some ⟨Bs, 0, none⟩)] (fun x : Int => #[Value.int .u64 x]) (Bx n₀ ex) (fun ys => ys = wordsOf l) (fun pre => pre <+: wordsOf l) (wordsOf l).length w := fun y J Jx W hW _ _ hY h0 => by
  have hc' := (hW.cell (p := ⟨Bs, 0, none⟩) (Nat.lt_of_lt_of_le hBs hn₀)).trans hc
  have hlen : (wordsOf l).length = (l.length + 7) / 8 := wordsUp_len _ _
  rw [hlen] at hY
  refine (wordsS1_in F n h7 hro hn y Bs n₀ ex st l hst hl J Jx hY W hc' hBs hBx h0).mono ?_
  rintro e W' ⟨he, ⟨ys, rfl, hj⟩ | ⟨pre, ⟨k, hk, rfl⟩, hj⟩⟩
  · exact ⟨he, .inl ⟨_, rfl, hj⟩⟩
  · exact ⟨he, .inr ⟨_, wordsUp_take l hk, hj⟩⟩
end Go.Proofs.YthafhbogpfggjaaGreatDoor

/-
  (second part)
-/
namespace Go.Proofs.YthafhbogpfggjaaGreatDoor
open Go.RowKit Go.Shelf

attribute [local go_sem] Oper.semAt_some

/-- The slice (A, len xs) holds the numbers xs, in a block below B. -/
def NIs (w : World) (B : Nat) (A : Option Addr) (xs : List Int) : Prop := (A = none ∧ xs = []) ∨ ∃ g off, A = some ⟨g, off, none⟩ ∧ g < B ∧ ∀ j, j < xs.length → w.cell? ⟨g, off + j, none⟩ = some (.int .i64 (xs[j]?.getD 0))
theorem NIs.on {w w' : World} {B : Nat} {A : Option Addr} {xs : List Int} (h : NIs w B A xs) (hb : Below B w w') : NIs w' B A xs := by
  rcases h with h | ⟨g, off, h1, h2, h3⟩
  · exact .inl h
  · exact .inr ⟨g, off, h1, h2, fun j hj => (hb.cell (p := ⟨g, _, none⟩) h2).trans (h3 j hj)⟩
/-- The mixed words. -/
def mixs (s : Int) (l : List Int) : Int := l.foldl mixv s
theorem mixs_snoc (s : Int) (l : List Int) (x : Int) : mixs s (l ++ [x]) = mixv (mixs s l) x := by simp [mixs]
def sumv (st : ByteArray) (xs : List Int) : Int := mixv (mixs (mixv (mixv (mixs 0 (wordsOf (sbs st))) (st.size : Int)) (xs.length : Int)) (xs.map IntKind.u64.wrap)) 0
set_option maxRecDepth 100000 in
set_option maxHeartbeats 3200000 in
theorem hSum (st : ByteArray) (hst : st.size ≤ 100000000000000) (A : Option Addr) (xs : List Int) (c : Nat) (w : World) (hxl : xs.length ≤ 100000000000000) (hI : NIs w w.heap.size A xs) :
    Calls Tryz.prog 145 #[.string st, .slice A xs.length c] w fun e w' => e = .returned (.int .u64 (sumv st xs)) ∧ Below w.heap.size w w' := by
  refine (callsIn_wide (n := 5)).1 ?_
  refine callsIn_of_wp_marks Tryz.func145 rfl trivial ?_ rfl
  simp only [Tryz.ntmps145, List.size_toArray, List.length_cons, List.length_nil, Nat.reduceAdd, Nat.reduceSub, Array.replicate_succ, Array.replicate_zero, List.push_toArray, List.append_toArray, List.nil_append, List.cons_append]
  gi_wp2_with (refine ⟨trivial, ?_⟩; gi_at_call 182; refine (wordsS_in _ _ trivial rfl st _).mono ?_; rintro e w' ⟨rfl, rfl⟩)
  have hO : Own ((w.alloc (.cells #[.int .u64 0] 122)).alloc (.cells #[.string st] 9)) w.heap.size 122 [.int .u64 0] := (Own.new w _ [.int .u64 0]).alloc _
  have hb : ((w.alloc (.cells #[.int .u64 0] 122)).alloc (.cells #[.string st] 9)).cell? ⟨w.heap.size + 1, 0, none⟩ = some (.string st) := by
    have := (Own.new (w.alloc (.cells #[.int .u64 0] 122)) 9 [.string st]).c0
    rwa [World.size_alloc] at this
  have hB0 : Below w.heap.size w ((w.alloc (.cells #[.int .u64 0] 122)).alloc (.cells #[.string st] 9)) := ((Below.refl _ w).alloc (Nat.le_refl _) _).alloc (by simp) _
  refine wpIn_rangeFunc_ownF rfl (by omega) (gf := 208) (lb := #[.pointer (some ⟨w.heap.size + 1, 0, none⟩)]) rfl trivial (enters_of Tryz.func208 (by kernel_rfl) rfl)
    (wordsS_stops Fence.wide (5 - 1) trivial rfl (by omega) (w.heap.size + 1) (w.heap.size + 2) w.heap.size st (sbs st) rfl (by rw [sbs_len]; exact hst) _ (by omega) (by omega) (by simp) hb) Bx.trans (bxK_b (by simp)) (Below.refl _ _) (fun _ => rfl)
    (fun pre W => (W.cell? ⟨w.heap.size, 0, none⟩ = some (.int .u64 (mixs 0 pre)) ∧ W.frozen? ⟨w.heap.size, 0, none⟩ = false) ∧ Below w.heap.size w W)
    (fun _ _ _ => False)
    (OwnFrom.and (Own.from (fun s A B row hs hg hr => ⟨cell_kept hs.1 hg hr, (frozen_kept hs.1 hg hr).trans hs.2⟩) _) (ownFrom_below (Nat.le_refl _) (by simp; omega)))
    (fun _ _ _ _ _ hs _ _ => hs)
    ⟨⟨hO.c0, hO.frozen 0⟩, hB0⟩
    (fun x => { tmps := #[.string st, .slice A xs.length c, undef, undef, .int .u64 0, .pointer (some ⟨w.heap.size, 0, none⟩), .int .u64 x, undef, undef, .string st, .func (.func 208) #[] #[.pointer (some ⟨w.heap.size + 1, 0, none⟩)], .int .u64 x, undef, undef, undef, undef, undef, undef, undef, undef, undef, undef, undef, undef, undef, undef, undef, undef, undef, undef, undef, undef, undef, undef, undef, undef, undef], defers := [] }) ?assign ?body ?done ?stop
  case assign =>
    intro l x W K hK
    gi_wp2
    exact hK
  case body =>
    rintro l pre x W ⟨⟨hc, hf⟩, hB⟩ _
    gi_wp2_with (refine ⟨trivial, ?_⟩; gi_at_call 183; refine (CallsIn.inRound l (callsIn_wide.2 (hMix _ _ _))).mono ?_; rintro e w' ⟨rfl, e_⟩; obtain rfl := e_.symm)
    exact ⟨KeepsOthers.setCell _ _ _, Bx.set_ (p := ⟨w.heap.size, 0, none⟩) W rfl _, ⟨by rw [mixs_snoc]; exact World.cell?_setCell_same' _ _ _ (by rw [hc]; rfl), by rw [World.frozen?_setCell]; exact hf⟩, hB.setCell (p := ⟨w.heap.size, 0, none⟩) (Nat.le_refl _) _⟩
  case done =>
    rintro D ys W hD rfl ⟨⟨hc, hf⟩, hB⟩ hK
    have hx0 : (0 : Int) ≤ (xs.length : Int) := by omega
    have hx1 : (xs.length : Int) ≤ 100000000000000 := by omega
    obtain ⟨s2, hs2⟩ : ∃ s2, mixv (mixv (mixs 0 (wordsOf (sbs st))) (st.size : Int)) (xs.length : Int) = s2 := ⟨_, rfl⟩
    have HS := Lib.hid hs2
    have hD2 : w.heap.size + 2 ≤ D := by simpa using hD
    gi_wp2_with (refine ⟨trivial, ?_⟩; gi_at_call 183; refine (callsIn_wide.2 (hMix _ _ _)).mono ?_; rintro e w' ⟨rfl, e_⟩; obtain rfl := e_.symm)
    gi_loopw [26] (fun s wr => ∃ i : Nat, i ≤ xs.length ∧ s = .int .i64 (i : Int) ∧ wr.cell? ⟨w.heap.size, 0, none⟩ = some (.int .u64 (mixs s2 ((xs.take i).map IntKind.u64.wrap))) ∧ wr.frozen? ⟨w.heap.size, 0, none⟩ = false ∧ Below w.heap.size w wr ∧ wr.heap[D]? = some (.deferred (some []))) (fun s _ => xs.length - (intOf s).toNat)
    case atStart =>
      refine ⟨0, by omega, rfl, ?_, by rw [World.frozen?_setCell]; exact hf, hB.setCell (p := ⟨w.heap.size, 0, none⟩) (Nat.le_refl _) _, ?_⟩
      · rw [World.cell?_setCell_same' _ _ _ (by rw [hc]; rfl), ← HS.out]; rfl
      · rw [Below.heap_setCell W ⟨w.heap.size, 0, none⟩ _ D (by show D ≠ w.heap.size; omega)]; exact hK
    case round =>
      obtain ⟨i, hi, rfl, hc', hf', hB', hK'⟩ := hrel
      by_cases hlt : i < xs.length
      · rcases hI.on hB' with ⟨_, h0⟩ | ⟨g, off, rfl, hg, hcs⟩
        · subst h0; simp at hlt
        · have hcx := hcs i hlt
          have htk : (xs.take (i + 1)).map IntKind.u64.wrap = (xs.take i).map IntKind.u64.wrap ++ [IntKind.u64.wrap (xs[i]?.getD 0)] := by
            rw [List.take_succ_eq_append_getElem hlt, List.map_append]
            simp [hlt]
          have HTK := Lib.hid htk
          have hi0 : (0 : Int) ≤ (i : Int) := by omega
          have hi1 : (i : Int) < (xs.length : Int) := by omega
          clear htk hs2
          gi_wp2_with (refine ⟨trivial, ?_⟩; gi_at_call 183; refine (callsIn_wide.2 (hMix _ _ _)).mono ?_; rintro e w' ⟨rfl, e_⟩; obtain rfl := e_.symm)
          go_roundw
          case rel =>
            refine ⟨i + 1, by omega, by go_num, ?_, by rw [World.frozen?_setCell]; exact hf', hB'.setCell (p := ⟨w.heap.size, 0, none⟩) (Nat.le_refl _) _, by rw [Below.heap_setCell wr ⟨w.heap.size, 0, none⟩ _ D (by show D ≠ w.heap.size; omega)]; exact hK'⟩
            rw [HTK.out, mixs_snoc, List.map_take, List.getElem?_eq_getElem hlt, Option.getD_some]
            refine World.cell?_setCell_same' _ _ _ ?_
            rw [hc']
            rfl
          case measure => simp [intOf]; omega
      · obtain rfl : i = xs.length := by omega
        gi_wp2_with (refine ⟨trivial, ?_⟩; gi_at_call 183; refine (callsIn_wide.2 (hMix _ _ _)).mono ?_; rintro e w' ⟨rfl, e_⟩; obtain rfl := e_.symm)
        refine ⟨by simp, .inl ⟨_, _, rfl, run_takeDeferred hK', ?_⟩⟩
        exact ⟨_, results_tmp rfl _ _ _, by unfold sumv; rw [HS.out]; rfl, hB'.trans (belowK_b (w := w) (Nat.le_refl _) wr D _ _ (by omega) hK' rfl rfl)⟩
  case stop =>
    rintro D c pre W _ _ h _
    exact h.elim
end Go.Proofs.YthafhbogpfggjaaGreatDoor

/-
  (second part)
-/
namespace Go.Proofs.YthafhbogpfggjaaGreatDoor
open Go.RowKit Go.Shelf

attribute [local go_sem] Oper.semAt_some

theorem hint_info : (Tryz.prog.info? 3).map (fun i => (i.zero, i.size, i.bytes)) = some (some (.int .i64 0), 1, 8) := by kernel_rfl
theorem owns_base {w : World} {B B' : Nat} {e : TypeId} {size n : Nat} {v : Value} {xs : List Value} (h : w.ownsRow B e size v n xs) (hB : B' ≤ B) : w.ownsRow B' e size v n xs := by
  refine ⟨h.1, ?_⟩
  rcases h.2 with h | ⟨g, cap, cur, h1, h2, h3⟩
  · exact .inl h
  · exact .inr ⟨g, cap, cur, h1, Nat.le_trans hB h2, h3⟩
def i64s (l : List Int) : List Value := l.map (Value.int .i64)
/-- The numbers that Bytes sums. -/
def ints (l : List Int) : List Int := l.map wrap64
theorem owns_nis {w : World} {B : Nat} {v : Value} {n : Nat} {xs : List Int} (h : w.ownsRow B 3 1 v n (i64s xs)) : ∃ A c, v = .slice A xs.length c ∧ n = xs.length ∧ NIs w w.heap.size A xs := by
  have hn : xs.length = n := by have := h.1; simp [i64s] at this; omega
  subst hn
  obtain ⟨A, c, rfl⟩ := owns_slice h
  refine ⟨A, c, rfl, rfl, ?_⟩
  rcases h.2 with ⟨e, h0⟩ | ⟨g, cap, cur, e, h2, h3, h4, h5, h6, h7⟩
  · injection e with e1 e2 e3
    exact .inl ⟨e1, List.eq_nil_of_length_eq_zero h0⟩
  · injection e with e1 e2 e3
    subst e1
    refine .inr ⟨g, 0, rfl, ?_, fun j hj => ?_⟩
    · rcases Nat.lt_or_ge g w.heap.size with k | k
      · exact k
      · rw [Array.getElem?_eq_none k] at h3; cases h3
    · have hx : (i64s xs)[j]? = some (.int .i64 (xs[j]?.getD 0)) := by simp [i64s, hj]
      rw [← h7, List.getElem?_take_of_lt (by omega)] at hx
      simpa [World.cell?, h3] using hx
def hashv (st : ByteArray) (l : List Nat) : Int := sumv st (ints (wordsOf l) ++ [(l.length : Int)])
set_option maxRecDepth 100000 in
set_option maxHeartbeats 3200000 in
theorem hBytes (st : ByteArray) (hst : st.size ≤ 100000000000000) (A : Option Addr) (l : List Nat) (hl : l.length ≤ 1000000000000) (c : Nat) (w : World) (hI : BIs w w.heap.size A c l) :
    Calls Tryz.prog 99 #[.string st, .slice A l.length c] w fun e w' => e = .returned (.int .u64 (hashv st l)) ∧ Below w.heap.size w w' := by
  obtain ⟨i0, hi, hz0, hz1, hz2⟩ := info_parts hint_info
  have hN : (wordsOf l).length ≤ 200000000000 := by unfold wordsOf; rw [wordsUp_len]; omega
  refine (callsIn_wide (n := 6)).1 ?_
  refine callsIn_of_wp_marks Tryz.func99 rfl trivial ?_ rfl
  simp only [Tryz.ntmps99, List.size_toArray, List.length_cons, List.length_nil, Nat.reduceAdd, Nat.reduceSub, Array.replicate_succ, Array.replicate_zero, List.push_toArray, List.append_toArray, List.nil_append, List.cons_append]
  gi_wp2_with (refine ⟨trivial, ?_⟩; gi_at_call 144; refine (words_in _ _ trivial rfl A l.length c _).mono ?_; rintro e w' ⟨rfl, rfl⟩)
  have bO : Boxed (w.alloc (.cells #[.slice none 0 0] 41)) w.heap.size 41 (.slice none 0 0) := Boxed.new w _ _
  have hb : ((w.alloc (.cells #[.slice none 0 0] 41)).alloc (.cells #[.slice A l.length c] 36)).cell? ⟨w.heap.size + 1, 0, none⟩ = some (.slice A l.length c) := by
    have := (Own.new (w.alloc (.cells #[.slice none 0 0] 41)) 36 [.slice A l.length c]).c0
    rwa [World.size_alloc] at this
  have hB0 : Below w.heap.size w ((w.alloc (.cells #[.slice none 0 0] 41)).alloc (.cells #[.slice A l.length c] 36)) := ((Below.refl _ w).alloc (Nat.le_refl _) _).alloc (by simp) _
  refine wpIn_rangeFunc_ownF rfl (by omega) (gf := 181) (lb := #[.pointer (some ⟨w.heap.size + 1, 0, none⟩)]) rfl trivial (enters_of Tryz.func181 (by kernel_rfl) rfl)
    (words_stops Fence.wide (6 - 1) trivial rfl (by omega) (w.heap.size + 1) (w.heap.size + 2) w.heap.size A c l (by omega) _ (by omega) (by omega) (by simp) hb w.heap.size (by omega) (Nat.le_refl _) (hI.on hB0)) Bx.trans (bxK_b (by simp)) (Below.refl _ _) (fun _ => rfl)
    (fun pre W => (∃ v, Boxed W w.heap.size 41 v ∧ W.ownsRow (w.heap.size + 2) 3 1 v pre.length (i64s (ints pre)) ∧ True) ∧ Below w.heap.size ((w.alloc (.cells #[.slice none 0 0] 41)).alloc (.cells #[.slice A l.length c] 36)) W)
    (fun _ _ _ => False)
    (OwnFrom.and (Own.from (holdsRow_own (w.heap.size + 2) w.heap.size 41 3 1 (fun pre : List Int => pre.length) (fun pre : List Int => i64s (ints pre)) (fun _ _ => True)) _) (ownFrom_below (by simp only [World.size_alloc]; omega) (by simp only [World.size_alloc]; omega)))
    (fun _ _ _ _ _ hs _ _ => hs)
    ⟨⟨_, bO.alloc _, World.ownsRow_nil _ _ _ _, trivial⟩, Below.refl _ _⟩
    (fun x => { tmps := #[.string st, .slice A l.length c, undef, undef, .int .u64 0, .pointer (some ⟨w.heap.size, 0, none⟩), .int .u64 x, .slice A l.length c, .func (.func 181) #[] #[.pointer (some ⟨w.heap.size + 1, 0, none⟩)], .int .u64 x, undef, undef, undef, undef, undef, undef, undef, undef, undef, undef, undef, undef], defers := [] }) ?assign ?body ?done ?stop
  case assign =>
    intro l x W K hK
    gi_wp2
    exact hK
  case body =>
    rintro l0 pre x W ⟨⟨v, hv, hrow, _⟩, hB⟩ hlt
    have hc := hv.cell
    have hsz : w.heap.size + 2 ≤ W.heap.size := by have := hB.size; simpa using this
    have hsz0 : w.heap.size ≤ W.heap.size := by omega
    gi_wp2_with (gi_at_builtin; refine wpListIn_append_own _ rfl _ _ 41 rfl (w.heap.size + 2) 3 i0 (.int .i64 0) 1 8 Tryz.underlying41 hi hz0 hz1 hz2 rfl (by decide) _ _ _ rfl (hrow.alloc _) ⟨W.heap.size, 0, none⟩ 1 1 [.int .i64 (wrap64 x)] rfl rfl (cell_one_new _ _ _) (by simp [Value.oneCell']) (by unfold maxLen; omega) (by omega) (by simp; omega) ?_; intro v' w1 hown' hgrow _; obtain ⟨g', cap', rfl⟩ := ownsRow_succ hown'; obtain ⟨hv1, hv2, hr2, hk2, hb2⟩ := hv.appended (by decide) (owns_base hrow (Nat.le_add_right _ 2)) hsz0 (Nat.le_refl _) (owns_base hown' (Nat.le_add_right _ 2)) hgrow; have hc1 := hv1.cell; have hf1 := hv1.frozen)
    refine ⟨hk2, ?_, ⟨_, hv2, ?_, trivial⟩, hB.trans hb2⟩
    · exact Bx.trans (Bx.of_below (Below.grown ((Below.refl (w.heap.size + 2) W).alloc hsz _) hgrow (by simp; omega) (fun k hk => owns_block hrow k hk))) (Bx.set_ (p := ⟨w.heap.size, 0, none⟩) _ rfl _)
    · have := owns_far hown' (p := ⟨w.heap.size, 0, none⟩) (by show w.heap.size < w.heap.size + 2; omega) (.slice (some ⟨g', 0, none⟩) (pre.length + 1) cap')
      simpa [i64s, ints] using this
  case done =>
    rintro D ys W hD rfl ⟨⟨v, hv, hrow, _⟩, hB⟩ hK
    have hc := hv.cell
    have hsz : w.heap.size + 2 ≤ W.heap.size := by have := hB.size; simpa using this
    have hl0 : (0 : Int) ≤ (l.length : Int) := by omega
    gi_wp2_with (gi_at_builtin; refine wpListIn_append_own _ rfl _ _ 41 rfl (w.heap.size + 2) 3 i0 (.int .i64 0) 1 8 Tryz.underlying41 hi hz0 hz1 hz2 rfl (by decide) _ _ _ rfl (hrow.alloc _) ⟨W.heap.size, 0, none⟩ 1 1 [.int .i64 (l.length : Int)] rfl rfl (cell_one_new _ _ _) (by simp [Value.oneCell']) (by unfold maxLen; omega) (by omega) (by simp; omega) ?_; intro v' w1 hown' hgrow _)
    have hDl : D < W.heap.size := (Array.getElem?_eq_some_iff.1 hK).1
    have hne : some D ≠ v.ownBlock := fun e' => by
      rcases hrow.2 with ⟨h0, _⟩ | ⟨g, cap, cur, h0, _, hgb, _⟩
      · rw [h0] at e'; cases e'
      · rw [h0] at e'
        obtain rfl : D = g := by simpa [Value.ownBlock] using e'
        rw [hgb] at hK; cases hK
    have hK1 : w1.heap[D]? = some (.deferred (some [])) := by
      rw [hgrow.block D (by simp; omega) hne, Below.heap_alloc W _ D hDl]; exact hK
    have hB1 : Below w.heap.size w w1 := Below.grown ((hB0.trans hB).alloc (by omega) _) hgrow (by simp; omega) (fun k hk => by have := owns_block hrow k hk; omega)
    rw [show i64s (ints (wordsOf l)) ++ [Value.int .i64 (l.length : Int)] = i64s (ints (wordsOf l) ++ [(l.length : Int)]) by simp [i64s]] at hown'
    obtain ⟨A', c', rfl, hn', hN'⟩ := owns_nis hown'
    refine ⟨trivial, (callsIn_wide.2 (hSum st hst A' _ c' w1 (by omega) hN')).mono ?_⟩
    rintro e w2 ⟨rfl, k2⟩
    have hK2 : w2.heap[D]? = some (.deferred (some [])) := (k2.block D (Array.getElem?_eq_some_iff.1 hK1).1).trans hK1
    have hB2 := Below.call hB1 k2
    have hBs := Lib.hid hB2
    clear hB0 hB hB1 k2 hgrow hown' hrow hv hc hb bO hN'
    gi_wp2
    refine ⟨by simp, .inl ⟨_, _, rfl, run_takeDeferred hK2, ?_⟩⟩
    exact ⟨_, results_tmp rfl _ _ _, rfl, hBs.out.trans (belowK_b (w := w) (Nat.le_refl _) w2 D _ _ (by have := hBs.out.size; simp at hD; omega) hK2 rfl rfl)⟩
  case stop =>
    rintro D c pre W _ _ h _
    exact h.elim
end Go.Proofs.YthafhbogpfggjaaGreatDoor
