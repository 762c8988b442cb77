/-
  Package wire: the writer.
-/
import Derived.Test.YtfbbnphpapmpcaaGreatDoorW16
import Derived.Test.YtfbbnphpapmpcaaGreatDoorReg
import Derived.Laws.Bits64b
import Derived.Deep.DeepCutAuto
import Derived.Lib.ConvBytes
import Derived.Laws.BytesArg
namespace Go.Proofs.YtfbbnphpapmpcaaGreatDoor
open Go.RowKit

/-- The bytes of a number. -/
def uv (n : Nat) : List Nat := if n < 128 then [n] else (n % 128 + 128) :: uv (n / 128)
termination_by n
decreasing_by omega
theorem uv_small {n : Nat} (h : n < 128) : uv n = [n] := by rw [uv, if_pos h]
theorem uv_big {n : Nat} (h : ¬ n < 128) : uv n = (n % 128 + 128) :: uv (n / 128) := by rw [uv, if_neg h]
theorem uv_len (k : Nat) : ∀ n, n < 128 ^ (k + 1) → (uv n).length ≤ k + 1 := by
  induction k with
  | zero => intro n h; rw [uv_small (by simpa using h)]; simp
  | succ k ih =>
    intro n h
    by_cases hn : n < 128
    · rw [uv_small hn]; simp
    · rw [uv_big hn]
      have := ih (n / 128) (by rw [Nat.pow_succ] at h; omega)
      simp only [List.length_cons]
      omega
theorem uv_len10 {n : Nat} (h : n < 18446744073709551616) : (uv n).length ≤ 10 := uv_len 9 n (by omega)
theorem uv_byte : ∀ (k n : Nat), n ≤ k → ∀ c ∈ uv n, c < 256 := by
  intro k
  induction k with
  | zero => intro n h c hc; rw [uv_small (by omega)] at hc; simp at hc; omega
  | succ k ih =>
    intro n h c hc
    by_cases hn : n < 128
    · rw [uv_small hn] at hc; simp at hc; omega
    · rw [uv_big hn] at hc
      rcases List.mem_cons.1 hc with rfl | hc
      · omega
      · exact ih (n / 128) (by omega) c hc
/-- Bytes as values. -/
def u8s (l : List Nat) : List Value := l.map fun (c : Nat) => Value.int .u8 (c : Int)
theorem u8s_len (l : List Nat) : (u8s l).length = l.length := by simp [u8s]
theorem u8s_append (a b : List Nat) : u8s (a ++ b) = u8s a ++ u8s b := by simp [u8s]
theorem owns_far {w : World} {B : Nat} {e : TypeId} {size n : Nat} {v : Value} {xs : List Value} (h : w.ownsRow B e size v n xs) {p : Addr} (hp : p.block < B) (u : Value) : (w.setCell p u).ownsRow B e size v n xs := by
  refine ⟨h.1, ?_⟩
  rcases h.2 with h | ⟨g, cap, cur, h1, h2, h3, h4⟩
  · exact .inl h
  · exact .inr ⟨g, cap, cur, h1, h2, (Below.heap_setCell w p u g (by omega)).trans h3, h4⟩
theorem own_news' {w : World} {g : Nat} {t : TypeId} {xs : List Value} (h : Own w g t xs) : ∀ j u, xs[j]? = some u → w.cell? ((⟨g, 0, none⟩ : Addr).add j) = some u := by
  intro j u hu
  rw [Addr.add_lit, h.cell, Nat.zero_add, hu]
theorem owns_slice {w : World} {B : Nat} {e : TypeId} {size n : Nat} {v : Value} {xs : List Value} (h : w.ownsRow B e size v n xs) : ∃ A c, v = .slice A n c := by
  rcases h.2 with ⟨rfl, rfl⟩ | ⟨g, cap, cur, rfl, _⟩
  · exact ⟨_, _, rfl⟩
  · exact ⟨_, _, rfl⟩
/-- A writer at block b that holds the bytes l. -/
def WAt (b : Nat) (l : List Nat) (w : World) : Prop := ∃ v, Own w b 43 [v] ∧ w.ownsRow (b + 1) 5 1 v l.length (u8s l)
theorem WAt.lt {b : Nat} {l : List Nat} {w : World} (h : WAt b l w) : b < w.heap.size := by
  obtain ⟨v, h, _⟩ := h
  exact h.lt
theorem WAt.new (w : World) : WAt w.heap.size [] (w.alloc (.cells #[.slice none 0 0] 43)) := ⟨_, Own.new w _ [.slice none 0 0], World.ownsRow_nil _ _ _ _⟩
theorem or_more {n : Nat} (h : n < 256) : bits .or .u8 (n : Int) 128 = ((n % 128 + 128 : Nat) : Int) := by
  have : ∀ i : Fin 256, bits .or .u8 (i.val : Int) 128 = ((i.val % 128 + 128 : Nat) : Int) := by decide +kernel
  exact this ⟨n, h⟩
theorem WAt.put {b n : Nat} {l : List Nat} {v : Value} {w : World} {t : Value} (hO : Own w b 43 [t]) (hown : w.ownsRow (b + 1) 5 1 v n (u8s l)) (hn : n = l.length) : WAt b l (w.setCell ⟨b, 0, none⟩ v) := by
  subst hn
  exact ⟨v, hO.set_ 0 v, owns_far hown (by show b < b + 1; omega) v⟩
theorem owns_block {w : World} {B : Nat} {e : TypeId} {size n : Nat} {v : Value} {xs : List Value} (h : w.ownsRow B e size v n xs) : ∀ k, v.ownBlock = some k → B ≤ k := fun k hk => (h.lt k hk).1
set_option maxRecDepth 100000 in
set_option maxHeartbeats 1600000 in
theorem wUint (b : Nat) (l : List Nat) (n : Nat) (hn : n < 18446744073709551616) (w : World) (h : WAt b l w) (hlen : l.length + 20 ≤ 140737488355328) :
    Calls Tryz.prog 49 #[.pointer (some ⟨b, 0, none⟩), .int .u64 (n : Int)] w fun e w' => e = .returned (.tuple #[]) ∧ WAt b (l ++ uv n) w' ∧ Below b w w' := by
  have hl10 := uv_len10 hn
  have HL := Lib.hid hl10
  have hb := h.lt
  go_enter Tryz.func49, Tryz.ntmps49
  go_wp2_with fail
  go_loopw [1] (fun s wr => ∃ (m : Nat) (l' : List Nat), s = .int .u64 (m : Int) ∧ m < 18446744073709551616 ∧ WAt b l' wr ∧ l' ++ uv m = l ++ uv n ∧ Below b w wr) (fun s _ => (intOf s).toNat)
  case atStart => exact ⟨n, l, rfl, hn, h, rfl, Below.refl _ _⟩
  case round =>
    obtain ⟨m, l', rfl, hm, hW, he, hbr⟩ := hrel
    have hl' : l'.length + (uv m).length = l.length + (uv n).length := by rw [← List.length_append, he, List.length_append]
    obtain ⟨v, hO, hown⟩ := hW
    have c0 := hO.c0
    have f0 := hO.frozen 0
    obtain ⟨i0, hi, hz0, hz1, hz2⟩ := info_parts u8_info
    have hwb : b + 1 ≤ wr.heap.size := hO.lt
    have hne : some b ≠ v.ownBlock := fun e => by have := owns_block hown b e.symm; omega
    by_cases hs : m < 128
    · have hd : ¬ (128 : Int) ≤ (m : Int) := by omega
      rw [uv_small hs] at he hl'
      have HE := Lib.hid he
      have hl1 : l'.length + 1 ≤ 140737488355328 := by simp only [List.length_singleton] at hl'; omega
      have HW := Lib.hid hbr
      have kb := below_new wr (.cells #[.int .u8 (m : Int)] 5)
      have hO2 := hO.on kb
      have hown2 := owns_on hown kb
      have hb2 := Below.alloc hbr (show b ≤ wr.heap.size by omega) (.cells #[.int .u8 (m : Int)] 5)
      clear he hl' hl10
      go_wp2_with (at_builtin; refine wpList_append_own _ rfl _ _ 36 rfl (b + 1) 5 i0 (.int .u8 0) 1 1 Tryz.underlying36 hi hz0 hz1 hz2 rfl (by decide) _ _ _ rfl hown2 ⟨wr.heap.size, 0, none⟩ 1 1 [.int .u8 (m : Int)] rfl rfl (own_news' (Own.new wr _ [.int .u8 (m : Int)])) (by simp [Value.oneCell']) (by unfold maxLen; omega) (by omega) (Nat.le_trans hwb kb.size) ?_)
      intro v' w2 hown' hgrow _
      obtain ⟨A', cap', rfl⟩ := owns_slice hown'
      have hO3 := hO2.grown hgrow hne
      have hb3 := Below.grown hb2 hgrow (Nat.le_trans (Nat.le_of_lt hO.lt) kb.size) fun k hk => Nat.le_of_succ_le (owns_block hown2 k hk)
      have f1 := hO3.frozen 0
      have HF : Hid (WAt b (l' ++ [m]) (w2.setCell ⟨b, 0, none⟩ (.slice A' (l'.length + 1) cap')) ∧ Below b w (w2.setCell ⟨b, 0, none⟩ (.slice A' (l'.length + 1) cap'))) := Lib.hid ⟨WAt.put hO3 (l := l' ++ [m]) (by rw [u8s_append]; exact hown') (by simp), hb3.setCell (p := ⟨b, 0, none⟩) (Nat.le_refl _) _⟩
      have c1 := hO3.c0
      clear hO hO2 hO3 hb2 hb3 hown hown2 hown' kb hgrow c0 f0 hbr hi hz0 hz1 hz2
      go_wp2
      exact bodyPost_end (results_none Tryz.results49 _ _ _) rfl ⟨rfl, by rw [← HE.out]; exact HF.out.1, HF.out.2⟩
    · have hd : (128 : Int) ≤ (m : Int) := by omega
      rw [uv_big hs] at he hl'
      have HE := Lib.hid he
      have hl1 : l'.length + 1 ≤ 140737488355328 := by simp only [List.length_cons] at hl'; omega
      obtain ⟨c, hc⟩ : ∃ c : Nat, m % 128 + 128 = c := ⟨_, rfl⟩
      have hbit : bits .or .u8 ((m : Int) % 256) 128 = (c : Int) := by
        have := or_more (n := m % 256) (by omega)
        rw [show ((m % 256 : Nat) : Int) = (m : Int) % 256 by omega, show m % 256 % 128 + 128 = c by omega] at this
        exact this
      rw [hc] at HE
      obtain ⟨d, hd2⟩ : ∃ d : Nat, m / 128 = d := ⟨_, rfl⟩
      rw [hd2] at HE
      have hsh : (m : Int) / 128 = (d : Int) := by omega
      have HM : Hid (d < 18446744073709551616 ∧ d < m) := Lib.hid (by omega)
      have kb := below_new wr (.cells #[.int .u8 (c : Int)] 5)
      have hO2 := hO.on kb
      have hown2 := owns_on hown kb
      have hb2 := Below.alloc hbr (show b ≤ wr.heap.size by omega) (.cells #[.int .u8 (c : Int)] 5)
      clear he hl' hl10 hc hd2
      go_wp2_with (at_builtin; (try rw [hbit]); refine wpList_append_own _ rfl _ _ 36 rfl (b + 1) 5 i0 (.int .u8 0) 1 1 Tryz.underlying36 hi hz0 hz1 hz2 rfl (by decide) _ _ _ rfl hown2 ⟨wr.heap.size, 0, none⟩ 1 1 [.int .u8 (c : Int)] rfl rfl (own_news' (Own.new wr _ [.int .u8 (c : Int)])) (by simp [Value.oneCell']) (by unfold maxLen; omega) (by omega) (Nat.le_trans hwb kb.size) ?_)
      intro v' w2 hown' hgrow _
      obtain ⟨A', cap', rfl⟩ := owns_slice hown'
      have hO3 := hO2.grown hgrow hne
      have hb3 := Below.grown hb2 hgrow (Nat.le_trans (Nat.le_of_lt hO.lt) kb.size) fun k hk => Nat.le_of_succ_le (owns_block hown2 k hk)
      have f1 := hO3.frozen 0
      have HF : Hid (WAt b (l' ++ [c]) (w2.setCell ⟨b, 0, none⟩ (.slice A' (l'.length + 1) cap')) ∧ Below b w (w2.setCell ⟨b, 0, none⟩ (.slice A' (l'.length + 1) cap'))) := Lib.hid ⟨WAt.put hO3 (l := l' ++ [c]) (by rw [u8s_append]; exact hown') (by simp), hb3.setCell (p := ⟨b, 0, none⟩) (Nat.le_refl _) _⟩
      have c1 := hO3.c0
      clear hO hO2 hO3 hb2 hb3 hown hown2 hown' kb hgrow c0 f0 hbr hi hz0 hz1 hz2
      go_wp2_with fail
      try rw [hsh]
      go_roundw
      case rel => exact ⟨d, l' ++ [c], rfl, HM.out.1, HF.out.1, by rw [← HE.out]; simp, HF.out.2⟩
      case measure =>
        have := HM.out.2
        simp [intOf]
        omega
/-- A text's bytes. -/
def sbs (s : ByteArray) : List Nat := s.data.toList.map UInt8.toNat
theorem sbs_len (s : ByteArray) : (sbs s).length = s.size := by simp only [sbs, List.length_map, Array.length_toList]; rfl
theorem u8s_sbs (s : ByteArray) : u8s (sbs s) = Lib.strCells s := by simp [u8s, sbs, Lib.strCells]
set_option maxRecDepth 100000 in
set_option maxHeartbeats 1600000 in
theorem wText (b : Nat) (l : List Nat) (s : ByteArray) (w : World) (h : WAt b l w) (hlen : l.length + s.size + 20 ≤ 140737488355328) :
    Calls Tryz.prog 28 #[.pointer (some ⟨b, 0, none⟩), .string s] w fun e w' => e = .returned (.tuple #[]) ∧ WAt b (l ++ uv s.size ++ sbs s) w' ∧ Below b w w' := by
  have h1 : (s.size : Int) ≤ 9223372036854775807 := by omega
  have h0 : (0 : Int) ≤ (s.size : Int) := by omega
  go_enter Tryz.func28, Tryz.ntmps28
  go_wp2_with fail
  refine (wUint b l s.size (by omega) w h (by omega)).mono ?_
  rintro e w1 ⟨rfl, ⟨v, hO, hown⟩, k1⟩
  have hl10 := uv_len10 (n := s.size) (by omega)
  have hll : (l ++ uv s.size).length ≤ l.length + 10 := by rw [List.length_append]; omega
  obtain ⟨l2, hl2⟩ : ∃ l2, l ++ uv s.size = l2 := ⟨_, rfl⟩
  rw [hl2] at hown hll
  have HL2 := Lib.hid hl2
  obtain ⟨i0, hi, hz0, hz1, hz2⟩ := info_parts u8_info
  have hwb : b + 1 ≤ w1.heap.size := hO.lt
  have hne : some b ≠ v.ownBlock := fun e => by have := owns_block hown b e.symm; omega
  have c0 := hO.c0
  go_wp2_with (at_builtin; refine Lib.wpList_append_own_string _ rfl _ _ 36 9 rfl (b + 1) 5 i0 Tryz.underlying36 Tryz.underlying9 hi hz0 hz1 hz2 _ _ _ rfl hown s rfl (by unfold maxLen; omega) (by omega) hwb ?_)
  intro v' w2 hown' hgrow _
  obtain ⟨A', cap', rfl⟩ := owns_slice hown'
  have hO3 := hO.grown hgrow hne
  have hb3 := Below.grown k1 hgrow (Nat.le_of_succ_le hwb) fun k hk => Nat.le_of_succ_le (owns_block hown k hk)
  have f1 := hO3.frozen 0
  obtain ⟨n', hn'⟩ : ∃ n', l2.length + s.size = n' := ⟨_, rfl⟩
  rw [hn'] at hown' ⊢
  have HF : Hid (WAt b (l2 ++ sbs s) (w2.setCell ⟨b, 0, none⟩ (.slice A' n' cap')) ∧ Below b w (w2.setCell ⟨b, 0, none⟩ (.slice A' n' cap'))) := Lib.hid ⟨WAt.put hO3 (n := n') (l := l2 ++ sbs s) (by rw [u8s_append, u8s_sbs]; exact hown') (by rw [List.length_append, sbs_len]; exact hn'.symm), hb3.setCell (p := ⟨b, 0, none⟩) (Nat.le_refl _) _⟩
  have c1 := hO3.c0
  clear hO hO3 hb3 hown hown' hgrow c0 hi hz0 hz1 hz2
  go_wp2
  exact bodyPost_end (results_none Tryz.results28 _ _ _) rfl ⟨rfl, by rw [HL2.out]; exact HF.out.1, HF.out.2⟩
/-- The slice (A, len l, c) holds the bytes l, in blocks below B. -/
def BIs (w : World) (B : Nat) (A : Option Addr) (c : Nat) (l : List Nat) : Prop :=
  (A = none ∧ l = [] ∧ c = 0) ∨ ∃ g off, A = some ⟨g, off, none⟩ ∧ g < B ∧ l.length ≤ c ∧ ∀ (j : Nat) (x : Value), (u8s l)[j]? = some x → w.cell? ⟨g, off + j, none⟩ = some x
theorem BIs.on {w w' : World} {B : Nat} {A : Option Addr} {c : Nat} {l : List Nat} (h : BIs w B A c l) (hb : Below B w w') : BIs w' B A c l := by
  rcases h with h | ⟨g, off, h1, h2, h3, h4⟩
  · exact .inl h
  · exact .inr ⟨g, off, h1, h2, h3, fun j x hx => (hb.cell (p := ⟨g, _, none⟩) h2).trans (h4 j x hx)⟩
theorem owns_bis {w : World} {B : Nat} {v : Value} {n : Nat} {l : List Nat} (h : w.ownsRow B 5 1 v n (u8s l)) : ∃ A c, v = .slice A l.length c ∧ n = l.length ∧ BIs w w.heap.size A c l := by
  have hn : l.length = n := by have := h.1; rw [u8s_len] at this; omega
  subst hn
  obtain ⟨A, c, rfl⟩ := owns_slice h
  refine ⟨A, c, rfl, rfl, ?_⟩
  rcases h.2 with ⟨e, h0⟩ | ⟨g, cap, cur, e, h2, h3, h4, h5, h6, h7⟩
  · injection e with e1 e2 e3
    exact .inl ⟨e1, List.eq_nil_of_length_eq_zero h0, e3⟩
  · injection e with e1 e2 e3
    subst e1
    subst e3
    refine .inr ⟨g, 0, rfl, ?_, h4, fun j x hx => ?_⟩
    · rcases Nat.lt_or_ge g w.heap.size with k | k
      · exact k
      · rw [Array.getElem?_eq_none k] at h3; cases h3
    · have hj : j < (u8s l).length := (List.getElem?_eq_some_iff.1 hx).1
      rw [u8s_len] at hj
      rw [← h7, List.getElem?_take_of_lt (by omega)] at hx
      simpa [World.cell?, h3] using hx
set_option maxRecDepth 100000 in
set_option maxHeartbeats 1600000 in
theorem Clone_any (A : Option Addr) (c : Nat) (l : List Nat) (w : World) (h : BIs w w.heap.size A c l) (hl : l.length ≤ 140737488355328) :
    Calls Tryz.prog 37 #[.slice A l.length c] w fun e w' => ∃ A' c', e = .returned (.slice A' l.length c') ∧ BIs w' w'.heap.size A' c' l ∧ (∀ g off s, A' = some ⟨g, off, s⟩ → w.heap.size ≤ g) ∧ Below w.heap.size w w' := by
  have q22 : ∀ (w : World) (a : Option Addr) (n c : Nat), (binOp .eql 36 (.slice a n c) (.slice none 0 0)).run Tryz.prog w = .ok (.bool a.isNone) w := fun w a n c => Lib.run_eql_slice_nil w _ _ a n c _ _ Tryz.underlying36
  rcases h with ⟨rfl, rfl, rfl⟩ | ⟨g, off, rfl, h2, h3, h4⟩
  · go_enter Tryz.func37, Tryz.ntmps37
    go_wp2
    go_ret
    exact ⟨none, 0, rfl, .inl ⟨rfl, rfl, rfl⟩, (fun _ _ _ h => nomatch h), Below.refl _ _⟩
  · obtain ⟨i0, hi, hz0, hz1, hz2⟩ := info_parts u8_info
    have H4 : Aside (∀ (j : Nat) (x : Value), (u8s l)[j]? = some x → w.cell? ⟨g, off + j, none⟩ = some x) := h4
    clear h4
    go_enter Tryz.func37, Tryz.ntmps37
    go_wp2_with (at_builtin; refine wpList_append_own _ rfl _ _ 36 rfl w.heap.size 5 i0 (.int .u8 0) 1 1 Tryz.underlying36 hi hz0 hz1 hz2 rfl (by decide) _ _ _ rfl (World.ownsRow_made w #[] 0 (Nat.le_refl _) (Nat.zero_le _) rfl) ⟨g, off, none⟩ l.length c (u8s l) rfl (by rw [u8s_len, Nat.mul_one]) ?qc2 ?qc3 (by unfold maxLen; omega) (by omega) (by simp) ?_)
    case qc2 =>
      intro j u hj
      rw [Addr.add_lit]
      exact Lib.cell?_alloc_some _ (H4.out j u hj)
    case qc3 => intro u hu; obtain ⟨x, _, rfl⟩ := List.mem_map.1 hu; rfl
    intro v' w1 hown hgrow hnil
    try simp only [Nat.zero_add, List.nil_append] at hown
    have hob := owns_block hown
    obtain ⟨A', c', rfl, _, hB⟩ := owns_bis hown
    have HB := Lib.hid hB
    clear hB hown
    go_wp2
    go_ret
    refine ⟨A', c', rfl, HB.out, fun g off s e => by subst e; exact hob g rfl, ?_⟩
    exact ((Below.refl _ w).alloc (Nat.le_refl _) _).grown hgrow (by simp) (by intro k hk; simp [Value.ownBlock] at hk; omega)
end Go.Proofs.YtfbbnphpapmpcaaGreatDoor

/-
  (second part)
-/
namespace Go.Proofs.YtfbbnphpapmpcaaGreatDoor
open Go.RowKit

set_option maxRecDepth 100000 in
set_option maxHeartbeats 1600000 in
theorem wDone (b : Nat) (l : List Nat) (w : World) (h : WAt b l w) (hl : l.length ≤ 140737488355328) :
    Calls Tryz.prog 15 #[.pointer (some ⟨b, 0, none⟩)] w fun e w' => ∃ A' c', e = .returned (.slice A' l.length c') ∧ BIs w' w'.heap.size A' c' l ∧ Below w.heap.size w w' := by
  obtain ⟨v, hO, hown⟩ := h
  obtain ⟨A, c, rfl, _, hB⟩ := owns_bis hown
  have c0 := hO.c0
  go_enter Tryz.func15, Tryz.ntmps15
  go_wp2_with fail
  refine (Clone_any A c l w hB hl).mono ?_
  rintro e w1 ⟨A', c', rfl, h1, _, k1⟩
  have HF := Lib.hid (And.intro h1 k1)
  go_wp2
  go_returns
  exact ⟨A', c', rfl, HF.out.1, HF.out.2⟩
/-- A reader at block r: its bytes, its error. -/
def RAt (r : Nat) (l : List Nat) (e : Int) (w : World) : Prop := ∃ A c, Own w r 109 [.slice A l.length c, .int .i64 e] ∧ BIs w r A c l
/-- All blocks but r are as they were. -/
def At1 (r : Nat) (w w' : World) : Prop := w.grownBy w' (some r)
theorem At1.refl (r : Nat) (w : World) : At1 r w w := ⟨rfl, rfl, rfl, Nat.le_refl _, fun _ _ _ => rfl⟩
theorem At1.trans {r : Nat} {a b c : World} (h : At1 r a b) (k : At1 r b c) : At1 r a c :=
  ⟨k.os.trans h.os, k.tape.trans h.tape, k.output.trans h.output, Nat.le_trans h.size k.size, fun j hj hr => (k.block j (Nat.lt_of_lt_of_le hj h.size) hr).trans (h.block j hj hr)⟩
theorem At1.set_ {r : Nat} (w : World) {p : Addr} (hp : p.block = r) (u : Value) : At1 r w (w.setCell p u) := by
  have h := (Below.refl r w).setCell (p := p) (Nat.le_of_eq hp.symm) u
  exact ⟨h.os, h.tape, h.output, h.size, fun k _ hk => Below.heap_setCell w p u k (fun e => hk (by rw [e, hp]))⟩
theorem At1.of_below {r : Nat} {w w' : World} (h : Below w.heap.size w w') : At1 r w w' := ⟨h.os, h.tape, h.output, h.size, fun k hk _ => h.block k hk⟩
theorem At1.below {r : Nat} {w w' : World} (h : At1 r w w') (hr : r ≤ w.heap.size) : Below r w w' := Below.grown (Below.refl r w) h hr fun k hk => by cases hk; exact Nat.le_refl _
theorem Own.at1 {r g : Nat} {w w' : World} {t : TypeId} {xs : List Value} (h : Own w g t xs) (k : At1 r w w') (hg : g ≠ r) : Own w' g t xs := h.grown k (fun e => hg (by cases e; rfl))
theorem RAt.lt {r : Nat} {l : List Nat} {e : Int} {w : World} (h : RAt r l e w) : r < w.heap.size := by
  obtain ⟨_, _, h, _⟩ := h
  exact h.lt
theorem RAt.on {r : Nat} {l : List Nat} {e : Int} {w w' : World} (h : RAt r l e w) (hb : Below w.heap.size w w') : RAt r l e w' := by
  have hl := h.lt
  obtain ⟨A, c, h1, h2⟩ := h
  exact ⟨A, c, h1.on hb, h2.on (hb.mono (Nat.le_of_lt hl))⟩
set_option maxRecDepth 100000 in
set_option maxHeartbeats 1600000 in
theorem wRead (A : Option Addr) (c : Nat) (l : List Nat) (w : World) (h : BIs w w.heap.size A c l) (hl : l.length ≤ 140737488355328) :
    Calls Tryz.prog 32 #[.slice A l.length c] w fun e w' => ∃ r, e = .returned (.pointer (some ⟨r, 0, none⟩)) ∧ w.heap.size ≤ r ∧ RAt r l 0 w' ∧ Below w.heap.size w w' := by
  go_enter Tryz.func32, Tryz.ntmps32
  go_wp2_with fail
  refine (Clone_any A c l w h hl).mono ?_
  rintro e w1 ⟨A', c', rfl, h1, _, k1⟩
  have HF : Hid (RAt w1.heap.size l 0 (w1.alloc (.cells #[.slice A' l.length c', .int .i64 0] 109)) ∧ Below w.heap.size w (w1.alloc (.cells #[.slice A' l.length c', .int .i64 0] 109)) ∧ w.heap.size ≤ w1.heap.size) :=
    Lib.hid ⟨⟨A', c', Own.new w1 _ [.slice A' l.length c', .int .i64 0], h1.on (below_new w1 _)⟩, Below.alloc k1 k1.size _, k1.size⟩
  clear h1 k1
  go_wp2
  go_returns
  exact ⟨_, rfl, HF.out.2.2, HF.out.1, HF.out.2.1⟩
set_option maxRecDepth 100000 in
set_option maxHeartbeats 1600000 in
theorem wFail (r : Nat) (l : List Nat) (e0 e1 : Int) (w : World) (h : RAt r l e0 w) :
    Calls Tryz.prog 89 #[.pointer (some ⟨r, 0, none⟩), .int .i64 e1] w fun e w' => e = .returned (.tuple #[]) ∧ RAt r l (if e0 = 0 then e1 else e0) w' ∧ At1 r w w' := by
  obtain ⟨A, c, hO, hB⟩ := h
  have c1 := hO.c1
  have f1 := hO.frozen 1
  by_cases h0 : e0 = 0
  · subst h0
    have HF : Hid (RAt r l e1 (w.setCell ⟨r, 1, none⟩ (.int .i64 e1)) ∧ At1 r w (w.setCell ⟨r, 1, none⟩ (.int .i64 e1))) :=
      Lib.hid ⟨⟨A, c, hO.set_ 1 (.int .i64 e1), hB.on ((Below.refl r w).setCell (p := ⟨r, 1, none⟩) (Nat.le_refl _) _)⟩, At1.set_ w rfl _⟩
    clear hO hB
    go_enter Tryz.func89, Tryz.ntmps89
    go_wp2
    exact bodyPost_end (results_none Tryz.results89 _ _ _) rfl ⟨rfl, HF.out.1, HF.out.2⟩
  · have HF : Hid (RAt r l e0 w) := Lib.hid ⟨A, c, hO, hB⟩
    clear hO hB
    go_enter Tryz.func89, Tryz.ntmps89
    go_wp2
    exact bodyPost_end (results_none Tryz.results89 _ _ _) rfl ⟨rfl, by simpa [h0] using HF.out, At1.refl _ _⟩
set_option maxRecDepth 100000 in
set_option maxHeartbeats 1600000 in
theorem wNext_nil (r : Nat) (w : World) (h : RAt r [] 0 w) :
    Calls Tryz.prog 62 #[.pointer (some ⟨r, 0, none⟩)] w fun e w' => e = .returned (.int .u8 0) ∧ RAt r [] 3 w' ∧ At1 r w w' := by
  have h' := h
  obtain ⟨A, c, hO, hB⟩ := h
  have c0 := hO.c0
  go_enter Tryz.func62, Tryz.ntmps62
  go_wp2_with fail
  refine (wFail r [] 0 3 w h').mono ?_
  rintro e w1 ⟨rfl, h1, k1⟩
  rw [if_pos rfl] at h1
  obtain ⟨A, c, hO, hB⟩ := h1
  have c1 := hO.c1
  have HF : Hid (RAt r [] 3 w1) := Lib.hid ⟨A, c, hO, hB⟩
  clear h' c0 hB
  go_wp2
  go_returns
  exact ⟨rfl, HF.out, k1⟩
set_option maxRecDepth 100000 in
set_option maxHeartbeats 1600000 in
theorem wNext (r : Nat) (b : Nat) (l : List Nat) (w : World) (h : RAt r (b :: l) 0 w) (hl : l.length ≤ 140737488355328) :
    Calls Tryz.prog 62 #[.pointer (some ⟨r, 0, none⟩)] w fun e w' => e = .returned (.int .u8 (b : Int)) ∧ RAt r l 0 w' ∧ At1 r w w' := by
  obtain ⟨A, c, hO, hB⟩ := h
  rcases hB with ⟨_, h0, _⟩ | ⟨g, off, rfl, h2, h3, h4⟩
  · cases h0
  · simp only [List.length_cons] at hO h3
    have c0 := hO.c0
    have c1 := hO.c1
    have f0 := hO.frozen 0
    have hb := h4 0 (.int .u8 (b : Int)) rfl
    rw [Nat.add_zero] at hb
    have h31 : ((l.length : Int) + 1) ≤ (c : Int) := by omega
    have hl0 : (0 : Int) ≤ (l.length : Int) := by omega
    have hbel : ∀ v, Below r w (w.setCell ⟨r, 0, none⟩ v) := fun v => (Below.refl r w).setCell (p := ⟨r, 0, none⟩) (Nat.le_refl _) _
    by_cases hc : c = 1
    · subst hc
      obtain rfl : l = [] := List.eq_nil_of_length_eq_zero (by omega)
      have HF : Hid (RAt r [] 0 (w.setCell ⟨r, 0, none⟩ (.slice (some ⟨g, off, none⟩) 0 0)) ∧ At1 r w (w.setCell ⟨r, 0, none⟩ (.slice (some ⟨g, off, none⟩) 0 0))) :=
        Lib.hid ⟨⟨_, 0, hO.set_ 0 (.slice (some ⟨g, off, none⟩) 0 0), .inr ⟨g, off, rfl, h2, Nat.le_refl _, fun j x hx => by cases hx⟩⟩, At1.set_ w rfl _⟩
      clear hO h4 hbel
      simp only [List.length_nil, Nat.zero_add] at *
      go_enter Tryz.func62, Tryz.ntmps62
      go_wp2
      go_returns
      exact ⟨rfl, HF.out.1, HF.out.2⟩
    · have HF : Hid (RAt r l 0 (w.setCell ⟨r, 0, none⟩ (.slice (some ⟨g, off + 1, none⟩) l.length (c - 1))) ∧ At1 r w (w.setCell ⟨r, 0, none⟩ (.slice (some ⟨g, off + 1, none⟩) l.length (c - 1)))) :=
        Lib.hid ⟨⟨_, c - 1, hO.set_ 0 (.slice (some ⟨g, off + 1, none⟩) l.length (c - 1)), .inr ⟨g, off + 1, rfl, h2, by omega, fun j x hx => by
          rw [(hbel _).cell (p := ⟨g, _, none⟩) h2, show off + 1 + j = off + (j + 1) by omega]
          exact h4 (j + 1) x hx⟩⟩, At1.set_ w rfl _⟩
      clear hO h4 hbel
      go_enter Tryz.func62, Tryz.ntmps62
      go_wp2
      go_returns
      exact ⟨rfl, HF.out.1, HF.out.2⟩
/-- No word is touched if the error is the same. -/
theorem RAt.keeps {r : Nat} {l l' : List Nat} {e : Int} {w w' : World} (h : RAt r l e w) (h' : RAt r l' e w') (k : At1 r w w') : Keeps w w' := by
  refine ⟨k.size, fun p v hp hv => ?_⟩
  by_cases hr : p.block = r
  · obtain ⟨A, c, hO, _⟩ := h
    obtain ⟨A', c', hO', _⟩ := h'
    obtain ⟨pb, po, ps⟩ := p
    simp only at hr
    subst hr
    cases ps with
    | some s =>
      have h0 : w.heap[pb]? = _ := hO
      simp [World.cell?, h0] at hp
    | none =>
      match po, hp with
      | 0, hp => rw [hO.c0] at hp; injection hp with hp; subst hp; obtain ⟨n, h | h | h⟩ := hv <;> cases h
      | 1, hp => rw [hO.c1] at hp; rw [hO'.c1]; exact hp
      | j + 2, hp => rw [hO.cell] at hp; simp at hp
  · exact k.cell hp (fun e => hr (by cases e; rfl))
end Go.Proofs.YtfbbnphpapmpcaaGreatDoor

/-
  (second part)
-/
namespace Go.Proofs.YtfbbnphpapmpcaaGreatDoor
open Go.RowKit

/-- What is read of the bytes of a number, from the i-th on. -/
def ru (i n : Nat) : List Nat → Nat × List Nat × Int
  | [] => (0, [], 3)
  | c :: l => if (i = 9 ∧ 1 < c) ∨ (0 < i ∧ c = 0) then (0, l, 2) else if c < 128 then (n + c * 2 ^ (7 * i), l, 0) else ru (i + 1) (n + c % 128 * 2 ^ (7 * i)) l
theorem and_less {n : Nat} (h : n < 256) : bits .andNot .u8 (n : Int) 128 = ((n % 128 : Nat) : Int) := by
  have : ∀ i : Fin 256, bits .andNot .u8 (i.val : Int) 128 = ((i.val % 128 : Nat) : Int) := by decide +kernel
  exact this ⟨n, h⟩
theorem pow7_le {i : Nat} (h : i ≤ 9) : 2 ^ (7 * i) ≤ 9223372036854775808 := by
  have := Nat.pow_le_pow_right (show 0 < 2 by omega) (show 7 * i ≤ 63 by omega)
  omega
theorem add_digit {i n c : Nat} (hi : i ≤ 9) (hn : n < 2 ^ (7 * i)) (h9 : i = 9 → c ≤ 1) :
    n + c % 128 * 2 ^ (7 * i) < 18446744073709551616 ∧ n + c % 128 * 2 ^ (7 * i) < 2 ^ (7 * (i + 1)) ∧ bits .or .u64 (n : Int) (IntKind.u64.wrap ((c : Int) % 128 * 2 ^ (7 * i))) = ((n + c % 128 * 2 ^ (7 * i) : Nat) : Int) := by
  have hp := pow7_le hi
  obtain ⟨p, hpp⟩ : ∃ p, 2 ^ (7 * i) = p := ⟨_, rfl⟩
  have h1 : n + c % 128 * p < 2 ^ (7 * (i + 1)) := by
    rw [show 7 * (i + 1) = 7 * i + 7 by omega, Nat.pow_add, hpp]
    have : c % 128 * p ≤ 127 * p := Nat.mul_le_mul_right _ (by omega)
    omega
  have h2 : n + c % 128 * p < 18446744073709551616 := by
    by_cases h : i = 9
    · have h3 := h9 h
      have : c % 128 * p ≤ 1 * p := Nat.mul_le_mul_right _ (by omega)
      omega
    · have : 2 ^ (7 * (i + 1)) ≤ 9223372036854775808 := pow7_le (by omega)
      omega
  refine ⟨by rw [hpp]; exact h2, by rw [hpp]; exact h1, ?_⟩
  have hm : c % 128 * p < 18446744073709551616 := by omega
  have e1 : ((c : Int) % 128 * 2 ^ (7 * i)) = ((c % 128 * p : Nat) : Int) := by
    rw [← hpp]
    push_cast
    rfl
  have e2 : IntKind.u64.wrap ((c % 128 * p : Nat) : Int) = ((c % 128 * p : Nat) : Int) := by
    rw [IntKind.wrap_u64]
    omega
  rw [e1, e2, bits_or_u64_nat n _ (by omega) hm]
  congr 1
  have e3 := Nat.shiftLeft_add_eq_or_of_lt hn (c % 128)
  rw [Nat.shiftLeft_eq] at e3
  rw [hpp] at e3 ⊢
  rw [Nat.or_comm, ← e3, Nat.add_comm]
theorem wNext_any (r : Nat) (l : List Nat) (w : World) (h : RAt r l 0 w) (hb : ∀ c ∈ l, c < 256) (hl : l.length ≤ 140737488355328) :
    Calls Tryz.prog 62 #[.pointer (some ⟨r, 0, none⟩)] w fun e w' => ∃ (c : Nat) (l2 : List Nat) (e1 : Int), e = .returned (.int .u8 (c : Int)) ∧ c < 256 ∧ ((l = [] ∧ c = 0 ∧ l2 = [] ∧ e1 = 3) ∨ (l = c :: l2 ∧ e1 = 0)) ∧ RAt r l2 e1 w' ∧ At1 r w w' := by
  cases l with
  | nil => exact (wNext_nil r w h).mono fun _ _ ⟨h1, h2, h3⟩ => ⟨0, [], 3, h1, by omega, .inl ⟨rfl, rfl, rfl, rfl⟩, h2, h3⟩
  | cons c l => exact (wNext r c l w h (by simp at hl; omega)).mono fun _ _ ⟨h1, h2, h3⟩ => ⟨c, l, 0, h1, hb c (by simp), .inr ⟨rfl, rfl⟩, h2, h3⟩
set_option maxRecDepth 100000 in
set_option maxHeartbeats 3200000 in
theorem rUint (r : Nat) (l : List Nat) (w : World) (h : RAt r l 0 w) (hb : ∀ c ∈ l, c < 256) (hl : l.length ≤ 140737488355328) :
    Calls Tryz.prog 88 #[.pointer (some ⟨r, 0, none⟩)] w fun e w' => ∃ (n : Nat) (l' : List Nat) (er : Int), ru 0 0 l = (n, l', er) ∧ n < 18446744073709551616 ∧ e = .returned (.int .u64 (n : Int)) ∧ RAt r l' er w' ∧ At1 r w w' := by
  go_enter Tryz.func88, Tryz.ntmps88
  go_wp2_with fail
  go_loopw [3, 4] (fun s3 s4 wr => ∃ (i : Nat) (l' : List Nat) (e : Int), s4 = .int .i64 (i : Int) ∧ i ≤ 10 ∧ RAt r l' e wr ∧ At1 r w wr ∧ (∀ c ∈ l', c < 256) ∧ l'.length ≤ 140737488355328 ∧ (∃ x : Int, s3 = .int .u64 x) ∧
      ((e = 0 ∧ i ≤ 9 ∧ ∃ n : Nat, s3 = .int .u64 (n : Int) ∧ n < 2 ^ (7 * i) ∧ ru i n l' = ru 0 0 l) ∨ (e ≠ 0 ∧ ru 0 0 l = (0, l', e)))) (fun _ s _ => 11 - (intOf s).toNat)
  case atStart => exact ⟨0, l, 0, rfl, by omega, h, At1.refl _ _, hb, hl, ⟨_, rfl⟩, .inl ⟨rfl, by omega, 0, rfl, by simp, rfl⟩⟩
  case round =>
    obtain ⟨i, l', e, rfl, hi, hR, hbr, hby, hll, ⟨x0, rfl⟩, hst⟩ := hrel
    rcases hst with ⟨rfl, hi9, n, hn0, hn, hru⟩ | ⟨he, hru⟩
    · injection hn0 with _ hn0
      subst hn0
      obtain ⟨A0, c0, hO0, hB0⟩ := id hR
      have q1 := hO0.c1
      clear hO0 hB0
      go_wp2_with fail
      refine (wNext_any r l' wr hR hby hll).mono ?_
      rintro e w1 ⟨c, l2, e1, rfl, hc, hcl, hR1, k1⟩
      clear q1 hR
      have hbr1 := hbr.trans k1
      clear hbr k1
      have hll2 : l2.length ≤ 140737488355328 := by
        rcases hcl with ⟨_, _, rfl, _⟩ | ⟨rfl, _⟩
        · simp
        · simp at hll; omega
      have hby2 : ∀ c ∈ l2, c < 256 := by
        rcases hcl with ⟨_, _, rfl, _⟩ | ⟨rfl, _⟩
        · intro c hc; cases hc
        · intro c hc; exact hby c (by simp [hc])
      obtain ⟨bad, hbad⟩ : ∃ b : Bool, decide ((i = 9 ∧ 1 < c) ∨ (0 < i ∧ c = 0)) = b := ⟨_, rfl⟩
      have HST := Lib.hid (And.intro hcl (And.intro hru (And.intro hby2 hll2)))
      clear hcl hru hby hll hby2 hll2
      have hand := and_less hc
      have hR1' := Lib.hid hR1
      clear hR1
      go_upto_region 6 with fail
      go_cut [28] (fun s wx => s = .bool bad ∧ wx = w1)
      case first =>
        by_cases h9 : i = 9
        · subst h9
          by_cases h1 : 1 < c
          · have hb1 : bad = true := by rw [← hbad]; exact decide_eq_true (by omega)
            have h1' : (1 : Int) < (c : Int) := by omega
            go_wp2_with fail
            go_meet
            exact ⟨by (try rw [hb1]); first | rfl | done | (simp; done), rfl⟩
          · have h1' : ¬ (1 : Int) < (c : Int) := by omega
            by_cases h2 : c = 0
            · subst h2
              have hb1 : bad = true := by rw [← hbad]; exact decide_eq_true (by omega)
              go_wp2_with fail
              go_meet
              exact ⟨by (try rw [hb1]); first | rfl | done | (simp; done), rfl⟩
            · have hb1 : bad = false := by rw [← hbad]; exact decide_eq_false (by omega)
              have h2' : ¬ (c : Int) = 0 := by omega
              go_wp2_with fail
              go_meet
              exact ⟨by (try rw [hb1]); first | rfl | done | (simp; done) | (simp; omega), rfl⟩
        · have h9' : ¬ (i : Int) = 9 := by omega
          have h9b : ((i : Int) == 9) = false := by simp; omega
          by_cases h0 : 0 < i
          · have h0' : (0 : Int) < (i : Int) := by omega
            by_cases h2 : c = 0
            · subst h2
              have hb1 : bad = true := by rw [← hbad]; exact decide_eq_true (by omega)
              go_wp2_with fail
              go_meet
              exact ⟨by (try rw [hb1]); first | rfl | done | (simp; done), rfl⟩
            · have hb1 : bad = false := by rw [← hbad]; exact decide_eq_false (by omega)
              have h2' : ¬ (c : Int) = 0 := by omega
              go_wp2_with fail
              go_meet
              exact ⟨by (try rw [hb1]); first | rfl | done | (simp; done) | (simp; omega), rfl⟩
          · have hb1 : bad = false := by rw [← hbad]; exact decide_eq_false (by omega)
            have h0' : ¬ (0 : Int) < (i : Int) := by omega
            go_wp2_with fail
            go_meet
            exact ⟨by rw [hb1]; try simp, rfl⟩
      case rest =>
        obtain ⟨rfl, e_⟩ := hcut
        subst e_
        obtain ⟨hcl, hru, hby2, hll2⟩ := HST.out
        obtain ⟨v, e_⟩ : ∃ v, v = wc := ⟨_, rfl⟩
        subst e_
        have hR1 := hR1'.out
        clear hR1' HST
        cases bad with
        | true =>
          have hb := of_decide_eq_true hbad
          go_wp2_with fail
          refine (wFail r l2 e1 2 v hR1).mono ?_
          rintro e w2 ⟨rfl, hR2, k2⟩
          have hbr2 := hbr1.trans k2
          obtain ⟨e2, he2⟩ : ∃ e2, (if e1 = 0 then 2 else e1) = e2 := ⟨_, rfl⟩
          rw [he2] at hR2
          have he20 : e2 ≠ 0 ∧ ru 0 0 l = (0, l2, e2) := by
            rcases hcl with ⟨rfl, rfl, rfl, rfl⟩ | ⟨rfl, rfl⟩
            · simp at he2
              subst he2
              exact ⟨by decide, by rw [← hru]; rfl⟩
            · simp at he2
              subst he2
              refine ⟨by decide, ?_⟩
              rw [← hru, ru, if_pos hb]
          obtain ⟨A0, c0, hO0, hB0⟩ := id hR2
          have q1 := hO0.c1
          have hne : ¬ e2 = 0 := he20.1
          have HF := Lib.hid (And.intro hR2 (And.intro hbr2 (And.intro hby2 (And.intro hll2 he20.2))))
          clear hO0 hB0 hR2 hbr2 hby2 hll2 hru hcl hR1 hbr1 k2 he2
          clear he20
          by_cases hc8 : c < 128
          · have hc8' : (c : Int) < 128 := by omega
            go_wp2_with fail
            go_roundw
            case rel => exact ⟨i + 1, l2, e2, by go_num, by omega, HF.out.1, HF.out.2.1, HF.out.2.2.1, HF.out.2.2.2.1, ⟨_, rfl⟩, .inr ⟨hne, HF.out.2.2.2.2⟩⟩
            case measure => simp [intOf]; omega
          · have hc8' : ¬ (c : Int) < 128 := by omega
            go_wp2_with fail
            go_roundw
            case rel => exact ⟨i + 1, l2, e2, by go_num, by omega, HF.out.1, HF.out.2.1, HF.out.2.2.1, HF.out.2.2.2.1, ⟨_, rfl⟩, .inr ⟨hne, HF.out.2.2.2.2⟩⟩
            case measure => simp [intOf]; omega
        | false =>
          have hb := of_decide_eq_false hbad
          obtain ⟨A0, c0, hO0, hB0⟩ := id hR1
          have q1 := hO0.c1
          rcases hcl with ⟨rfl, rfl, rfl, rfl⟩ | ⟨rfl, rfl⟩
          · have hru' : ru 0 0 l = (0, [], 3) := by rw [← hru]; rfl
            have HF := Lib.hid (And.intro hR1 (And.intro hbr1 hru'))
            clear hO0 hB0 hR1 hbr1 hru hru' hby2 hll2 hb hbad
            go_wp2_with fail
            go_roundw
            case rel => exact ⟨i + 1, [], 3, by go_num, by omega, HF.out.1, HF.out.2.1, (fun c hc => nomatch hc), by simp, ⟨_, rfl⟩, .inr ⟨by decide, HF.out.2.2⟩⟩
            case measure => simp [intOf]; omega
          · obtain ⟨d1, d2, d3⟩ := add_digit (c := c) hi9 hn (by omega)
            obtain ⟨z, hz⟩ : ∃ z, n + c % 128 * 2 ^ (7 * i) = z := ⟨_, rfl⟩
            rw [hz] at d1 d2 d3
            rw [ru, if_neg hb] at hru
            by_cases hc8 : c < 128
            · rw [if_pos hc8] at hru
              have hru' : ru 0 0 l = (z, l2, 0) := by rw [← hru, ← hz, Nat.mod_eq_of_lt hc8]
              have HF := Lib.hid (And.intro hR1 (And.intro hbr1 hru'))
              have hc8' : (c : Int) < 128 := by omega
              clear hO0 hB0 hR1 hbr1 hru hru' hby2 hll2 hb hbad hz d2
              go_wp2_with fail
              try rw [d3]
              go_returns
              exact ⟨z, l2, 0, HF.out.2.2, d1, rfl, HF.out.1, HF.out.2.1⟩
            · rw [if_neg hc8, hz] at hru
              have HF := Lib.hid (And.intro hR1 (And.intro hbr1 (And.intro hru (And.intro hby2 (And.intro hll2 d2)))))
              have hc8' : ¬ (c : Int) < 128 := by omega
              have hi8 : i ≤ 8 := by omega
              clear hO0 hB0 hR1 hbr1 hru hby2 hll2 hb hbad hz d2
              go_wp2_with fail
              try rw [d3]
              go_roundw
              case rel => exact ⟨i + 1, l2, 0, by go_num, by omega, HF.out.1, HF.out.2.1, HF.out.2.2.2.1, HF.out.2.2.2.2.1, ⟨_, rfl⟩, .inl ⟨rfl, by omega, z, rfl, HF.out.2.2.2.2.2, HF.out.2.2.1⟩⟩
              case measure => simp [intOf]; omega
    · obtain ⟨A0, c0, hO0, hB0⟩ := id hR
      have q1 := hO0.c1
      have HF := Lib.hid (And.intro hR (And.intro hbr hru))
      clear hO0 hB0 hR hbr hru
      go_wp2_with fail
      go_returns
      exact ⟨0, l', e, HF.out.2.2, by omega, rfl, HF.out.1, HF.out.2.1⟩
end Go.Proofs.YtfbbnphpapmpcaaGreatDoor

/-
  (second part)
-/
namespace Go.Proofs.YtfbbnphpapmpcaaGreatDoor
open Go.RowKit

set_option maxRecDepth 100000 in
set_option maxHeartbeats 1600000 in
theorem rEnd (r : Nat) (l : List Nat) (e0 : Int) (w : World) (h : RAt r l e0 w) (hl : l.length ≤ 140737488355328) :
    Calls Tryz.prog 35 #[.pointer (some ⟨r, 0, none⟩)] w fun e w' => e = .returned (.int .i64 (if e0 = 0 then (if l = [] then 0 else 2) else e0)) ∧ w' = w := by
  obtain ⟨A, c, hO, hB⟩ := h
  have c0 := hO.c0
  have c1 := hO.c1
  by_cases h0 : e0 = 0
  · subst h0
    cases l with
    | nil =>
      go_enter Tryz.func35, Tryz.ntmps35
      simp only [List.length_nil] at *
      go_wp2
      go_returns
      exact ⟨rfl, rfl⟩
    | cons b l =>
      have h1 : (0 : Int) < (l.length : Int) + 1 := by omega
      simp only [List.length_cons] at *
      go_enter Tryz.func35, Tryz.ntmps35
      go_wp2
      go_returns
      exact ⟨rfl, rfl⟩
  · go_enter Tryz.func35, Tryz.ntmps35
    go_wp2
    go_returns
    exact ⟨by first | rfl | (rw [if_neg h0]; rfl), rfl⟩
theorem conv_bis {w : World} {B : Nat} {A : Option Addr} {c : Nat} {l : List Nat} (h : BIs w B A c l) : (convert 36 9 (.slice A l.length c)).run Tryz.prog w = .ok (.string ⟨(l.map UInt8.ofNat).toArray⟩) w := by
  have hs : strOfNums (l.map fun (n : Nat) => (n : Int)) = (⟨(l.map UInt8.ofNat).toArray⟩ : ByteArray) := by
    unfold strOfNums
    rw [List.map_map]
    rfl
  rcases h with ⟨rfl, rfl, rfl⟩ | ⟨g, off, rfl, h2, h3, h4⟩
  · rw [run_convert_bytes_string w 36 9 5 none _ _ Tryz.underlying36 Tryz.underlying5 Tryz.underlying9]
    simp [Conv.bytesToString]
    rfl
  · rw [← hs]
    refine run_convert_bytes_arg (P := Tryz.prog) w 36 5 Tryz.underlying36 Tryz.underlying5 g off l.length c _ (by simp) (fun i hi => ?_) 9 Tryz.underlying9
    rw [h4 i (.int .u8 (l[i] : Int)) (by simp [u8s, hi])]
    simp [List.getD, hi]
theorem ru_len : ∀ (l : List Nat) (i n : Nat), (ru i n l).2.1.length ≤ l.length ∧ ((ru i n l).2.2 ≠ 0 → (ru i n l).1 = 0) ∧ ∀ c ∈ (ru i n l).2.1, c ∈ l := by
  intro l
  induction l with
  | nil => intro i n; exact ⟨Nat.le_refl _, fun _ => rfl, fun c hc => hc⟩
  | cons c l ih =>
    intro i n
    unfold ru
    split
    · exact ⟨by simp, fun _ => rfl, fun d hd => List.mem_cons_of_mem _ hd⟩
    · split
      · exact ⟨by simp, fun h => absurd rfl h, fun d hd => List.mem_cons_of_mem _ hd⟩
      · obtain ⟨h1, h2, h3⟩ := ih (i + 1) (n + c % 128 * 2 ^ (7 * i))
        exact ⟨by simp only [List.length_cons]; omega, h2, fun d hd => List.mem_cons_of_mem _ (h3 d hd)⟩
theorem RAt.grown {r : Nat} {l : List Nat} {e : Int} {w w' : World} {row : Option Nat} (h : RAt r l e w) (hg : w.grownBy w' row) (hr : ∀ k, row = some k → r < k) : RAt r l e w' := by
  obtain ⟨A, c, h1, h2⟩ := h
  have hne : some r ≠ row := fun e => by have := hr r e.symm; omega
  exact ⟨A, c, h1.grown hg hne, h2.on (Below.grown (Below.refl r w) hg (Nat.le_of_lt h1.lt) fun k hk => Nat.le_of_lt (hr k hk))⟩
theorem At1.grown {r : Nat} {w a b : World} {row : Option Nat} (h : At1 r w a) (g : a.grownBy b row) (hr : ∀ k, row = some k → w.heap.size ≤ k) : At1 r w b :=
  ⟨g.os.trans h.os, g.tape.trans h.tape, g.output.trans h.output, Nat.le_trans h.size g.size, fun j hj hne => (g.block j (Nat.lt_of_lt_of_le hj h.size) (fun e => by have := hr j e.symm; omega)).trans (h.block j hj hne)⟩
theorem owns_at1 {w w' : World} {B : Nat} {e : TypeId} {size n r : Nat} {v : Value} {xs : List Value} (h : w.ownsRow B e size v n xs) (k : At1 r w w') (hr : r < B) : w'.ownsRow B e size v n xs := by
  refine h.kept k (.inr fun e => ?_)
  have := owns_block h r e
  omega
/-- What is read as bytes: they, the rest, the error. -/
def rl (l : List Nat) : List Nat × List Nat × Int :=
  if (ru 0 0 l).2.2 ≠ 0 then ([], (ru 0 0 l).2.1, (ru 0 0 l).2.2) else if (ru 0 0 l).2.1.length < (ru 0 0 l).1 then ([], (ru 0 0 l).2.1, 3) else ((ru 0 0 l).2.1.take (ru 0 0 l).1, (ru 0 0 l).2.1.drop (ru 0 0 l).1, 0)
/-- The post of what reads bytes. -/
def ListPost (r : Nat) (l : List Nat) (w : World) (e : Ending) (w' : World) : Prop :=
  ∃ A c, e = .returned (.slice A (rl l).1.length c) ∧ BIs w' w'.heap.size A c (rl l).1 ∧ RAt r (rl l).2.1 (rl l).2.2 w' ∧ At1 r w w'
set_option maxRecDepth 100000 in
set_option maxHeartbeats 3200000 in
theorem rList (r : Nat) (l : List Nat) (w : World) (h : RAt r l 0 w) (hb : ∀ c ∈ l, c < 256) (hl : l.length ≤ 100000000000000) :
    Calls Tryz.prog 61 #[.pointer (some ⟨r, 0, none⟩), .func (.func 62) #[.pointer (some ⟨r, 0, none⟩)] #[]] w (ListPost r l w) := by
  obtain ⟨out, hout⟩ : ∃ x, (rl l).1 = x := ⟨_, rfl⟩
  obtain ⟨l3, hl3⟩ : ∃ x, (rl l).2.1 = x := ⟨_, rfl⟩
  obtain ⟨er, her⟩ : ∃ x, (rl l).2.2 = x := ⟨_, rfl⟩
  refine Calls.mono (R := fun e w' => ∃ A c, e = .returned (.slice A out.length c) ∧ BIs w' w'.heap.size A c out ∧ RAt r l3 er w' ∧ At1 r w w') ?_ (fun e w' h => by unfold ListPost; rw [hout, hl3, her]; exact h)
  obtain ⟨i0, hi, hz0, hz1, hz2⟩ := info_parts u8_info
  have HI := Lib.hid (And.intro hi (And.intro hz0 (And.intro hz1 hz2)))
  clear hi hz0 hz1 hz2
  go_enter Tryz.func61, Tryz.ntmps61
  go_wp2_with fail
  refine (rUint r l w h hb (by omega)).mono ?_
  rintro e w1 ⟨n, l2, e2, hru, hn, rfl, hR, k1⟩
  obtain ⟨g1, g2, g3⟩ := ru_len l 0 0
  have hrl : rl l = if e2 ≠ 0 then ([], l2, e2) else if l2.length < n then ([], l2, 3) else (l2.take n, l2.drop n, 0) := by unfold rl; rw [hru]
  rw [hru] at g1 g2 g3
  simp only at g1 g2 g3
  obtain ⟨A0, c0, hO0, hB0⟩ := id hR
  have q0 := hO0.c0
  have q1 := hO0.c1
  have m0 : (0 : Int) ≤ (l2.length : Int) := by omega
  have m1 : (l2.length : Int) ≤ 9223372036854775807 := by omega
  have mw : IntKind.u64.wrap (l2.length : Int) = (l2.length : Int) := by rw [IntKind.wrap_u64]; omega
  have HE := Lib.hid (And.intro hout (And.intro hl3 her))
  clear hout hl3 her hO0 hB0
  go_upto_if 17 with fail
  go_cut [17] (fun _ wx => ∃ e3, RAt r l2 e3 wx ∧ At1 r w wx ∧ ((e3 ≠ 0 ∧ rl l = ([], l2, e3)) ∨ (e3 = 0 ∧ n ≤ l2.length ∧ rl l = (l2.take n, l2.drop n, 0))))
  case first =>
    by_cases hlt : l2.length < n
    · have h1 : (l2.length : Int) < (n : Int) := by omega
      have he2 : e2 = 0 := by
        by_cases h : e2 = 0
        · exact h
        · have := g2 h; omega
      subst he2
      go_wp2_with fail
      refine (wFail r l2 0 3 w1 hR).mono ?_
      rintro e w2 ⟨rfl, hR2, k2⟩
      rw [if_pos rfl] at hR2
      have HF := Lib.hid (And.intro hR2 (k1.trans k2))
      go_wp2_with fail
      go_meet
      exact ⟨3, HF.out.1, HF.out.2, .inl ⟨by decide, by rw [hrl]; simp [hlt]⟩⟩
    · have h1 : ¬ (l2.length : Int) < (n : Int) := by omega
      go_wp2_with fail
      go_meet
      refine ⟨e2, hR, k1, ?_⟩
      by_cases h : e2 = 0
      · exact .inr ⟨h, by omega, by rw [hrl]; simp [h, hlt]⟩
      · exact .inl ⟨h, by rw [hrl]; simp [h]⟩
  case rest =>
    obtain ⟨e3, hR3, k3, hst⟩ := hcut
    obtain ⟨W0, e_⟩ : ∃ W0, W0 = wc := ⟨_, rfl⟩
    subst e_
    have hrB : r < W0.heap.size := hR3.lt
    have hb2 : ∀ c ∈ l2, c < 256 := fun c hc => hb c (g3 c hc)
    clear hR k1 q0 q1 hrl g2 g3 hru
    go_wp2_with fail
    go_loopw [6, 7] (fun s6 s7 wr => ∃ i : Nat, i ≤ n ∧ s7 = .int .u64 (i : Int) ∧ RAt r (l2.drop i) e3 wr ∧ At1 r w wr ∧ W0.heap.size ≤ wr.heap.size ∧ wr.ownsRow W0.heap.size 5 1 s6 i (u8s (l2.take i)) ∧ (e3 ≠ 0 → i = 0)) (fun _ s _ => n - (intOf s).toNat)
    case atStart => exact ⟨0, by omega, rfl, hR3, k3, Nat.le_refl _, World.ownsRow_nil _ _ _ _, fun _ => rfl⟩
    case round =>
      obtain ⟨i, hin, rfl, hRr, hkr, hsz, hown, hei⟩ := hrel
      obtain ⟨A1, c1, hO1, hB1⟩ := id hRr
      have q1 := hO1.c1
      clear hO1 hB1
      by_cases he3 : e3 = 0
      · subst he3
        obtain ⟨hnl, hrl⟩ : n ≤ l2.length ∧ rl l = (l2.take n, l2.drop n, 0) := by
          rcases hst with ⟨h, _⟩ | ⟨_, h⟩
          · exact absurd rfl h
          · exact h
        rcases Nat.lt_or_eq_of_le hin with hlt | heq
        · have i1 : (i : Int) < (n : Int) := by omega
          have hdr : l2.drop i = l2[i] :: l2.drop (i + 1) := List.drop_eq_getElem_cons (by omega)
          have htk : l2.take (i + 1) = l2.take i ++ [l2[i]] := by rw [List.take_succ_eq_append_getElem (by omega)]
          obtain ⟨b, hbv⟩ : ∃ b, l2[i]'(by omega) = b := ⟨_, rfl⟩
          rw [hbv] at hdr htk
          rw [hdr] at hRr
          have HTK := Lib.hid htk
          clear hdr htk hbv
          go_wp2_with fail
          refine (wNext r b _ wr hRr (by rw [List.length_drop]; omega)).mono ?_
          rintro e w2 ⟨rfl, hR2, k2⟩
          have hkr2 := hkr.trans k2
          have hown2 := owns_at1 hown k2 hrB
          have kb := below_new w2 (.cells #[.int .u8 (b : Int)] 5)
          have hown3 := owns_on hown2 kb
          have hR3' := hR2.on kb
          have hkr3 := hkr2.trans (At1.of_below kb)
          have hsz3 := Nat.le_trans (Nat.le_trans hsz k2.size) kb.size
          obtain ⟨hi, hz0, hz1, hz2⟩ := HI.out
          clear hR2 hRr hown hown2 hkr hkr2 k2 q1
          go_wp2_with (at_builtin; refine wpList_append_own _ rfl _ _ 36 rfl W0.heap.size 5 i0 (.int .u8 0) 1 1 Tryz.underlying36 hi hz0 hz1 hz2 rfl (by decide) _ _ _ rfl hown3 ⟨w2.heap.size, 0, none⟩ 1 1 [.int .u8 (b : Int)] rfl rfl (own_news' (Own.new w2 _ [.int .u8 (b : Int)])) (by simp [Value.oneCell']) (by unfold maxLen; omega) (by omega) hsz3 ?_)
          intro v' w4 hown' hgrow _
          have hob := owns_block hown3
          have hR4 := hR3'.grown hgrow (fun k hk => Nat.lt_of_lt_of_le hrB (hob k hk))
          have hkr4 := hkr3.grown hgrow (fun k hk => Nat.le_trans k3.size (hob k hk))
          have hsz4 := Nat.le_trans hsz3 hgrow.size
          obtain ⟨A', cap', rfl⟩ := owns_slice hown'
          rw [show [Value.int .u8 (b : Int)] = u8s [b] from rfl, ← u8s_append, ← HTK.out] at hown'
          have HF := Lib.hid (And.intro hR4 (And.intro hkr4 (And.intro hsz4 hown')))
          clear hR4 hkr4 hsz4 hown' hob hgrow hown3 hkr3 hsz3 hR3' kb
          go_wp2_with fail
          go_roundw
          case rel => exact ⟨i + 1, by omega, by go_num, HF.out.1, HF.out.2.1, HF.out.2.2.1, HF.out.2.2.2, fun h => absurd rfl h⟩
          case measure => simp [intOf]; omega
        · have i1 : ¬ (i : Int) < (n : Int) := by omega
          rw [← heq] at hrl
          obtain ⟨A', cap', rfl, _, hB'⟩ := owns_bis hown
          obtain ⟨p1, p2, p3⟩ := HE.out
          rw [hrl] at p1 p2 p3
          simp only at p1 p2 p3
          have HF : Hid (RAt r l3 er wr ∧ At1 r w wr ∧ BIs wr wr.heap.size A' cap' (l2.take i) ∧ l2.take i = out) := Lib.hid ⟨by rw [← p2, ← p3]; exact hRr, hkr, hB', p1⟩
          clear hRr hkr hown hsz hst hrl HE p1 p2 p3 hB'
          have HO := Lib.hid HF.out.2.2.2
          have HN := Lib.hid (show out.length = n by rw [← HO.out, List.length_take]; omega)
          go_wp2_with fail
          go_returns
          exact ⟨A', cap', by rw [HN.out]; rfl, by rw [← HO.out]; exact HF.out.2.2.1, HF.out.1, HF.out.2.1⟩
      · have hi0 := hei he3
        subst hi0
        have hrl : rl l = ([], l2, e3) := by
          rcases hst with ⟨_, h⟩ | ⟨h, _⟩
          · exact h
          · exact absurd h he3
        obtain ⟨p1, p2, p3⟩ := HE.out
        rw [hrl] at p1 p2 p3
        simp only at p1 p2 p3
        subst p1
        subst p2
        subst p3
        have HF : Hid (RAt r l2 e3 wr ∧ At1 r w wr) := Lib.hid ⟨hRr, hkr⟩
        clear hRr hkr hown hsz hst hrl HE
        go_wp2_with fail
        all_goals go_returns
        all_goals exact ⟨none, 0, rfl, .inl ⟨rfl, rfl, rfl⟩, HF.out.1, HF.out.2⟩
set_option maxRecDepth 100000 in
set_option maxHeartbeats 1600000 in
theorem rRaw (r : Nat) (l : List Nat) (w : World) (h : RAt r l 0 w) (hb : ∀ c ∈ l, c < 256) (hl : l.length ≤ 100000000000000) :
    Calls Tryz.prog 34 #[.pointer (some ⟨r, 0, none⟩)] w (ListPost r l w) := by
  go_enter Tryz.func34, Tryz.ntmps34
  go_wp2_with fail
  refine (rList r l w h hb hl).mono ?_
  rintro e w1 ⟨A, c, rfl, h1, h2, h3⟩
  have HF := Lib.hid (And.intro h1 (And.intro h2 h3))
  clear h1 h2 h3
  go_wp2
  go_returns
  exact ⟨A, c, rfl, HF.out.1, HF.out.2.1, HF.out.2.2⟩
/-- A text of bytes. -/
def strB (l : List Nat) : ByteArray := ⟨(l.map UInt8.ofNat).toArray⟩
theorem strB_sbs (s : ByteArray) : strB (sbs s) = s := by
  have : (s.data.toList.map UInt8.toNat).map UInt8.ofNat = s.data.toList := by
    rw [List.map_map]
    conv => rhs; rw [← List.map_id s.data.toList]
    exact List.map_congr_left fun x _ => by simp
  unfold strB sbs
  rw [this]
end Go.Proofs.YtfbbnphpapmpcaaGreatDoor

/-
  (second part)
-/
namespace Go.Proofs.YtfbbnphpapmpcaaGreatDoor
open Go.RowKit

theorem ru_uv_at : ∀ (k n i acc : Nat) (rest : List Nat), n ≤ k → i ≤ 9 → n < 2 ^ (64 - 7 * i) → (i = 0 ∨ 0 < n) → ru i acc (uv n ++ rest) = (acc + n * 2 ^ (7 * i), rest, 0) := by
  intro k
  induction k with
  | zero =>
    intro n i acc rest hk hi hn h0
    obtain rfl : n = 0 := by omega
    obtain rfl : i = 0 := by omega
    rw [uv_small (by omega)]
    rfl
  | succ k ih =>
    intro n i acc rest hk hi hn h0
    have h9 : i = 9 → n < 2 := by rintro rfl; simpa using hn
    by_cases hs : n < 128
    · rw [uv_small hs]
      show ru i acc (n :: rest) = _
      unfold ru
      rw [if_neg (by omega), if_pos hs]
    · rw [uv_big hs]
      show ru i acc ((n % 128 + 128) :: (uv (n / 128) ++ rest)) = _
      have hi8 : i ≤ 8 := by omega
      unfold ru
      rw [if_neg (by omega), if_neg (by omega)]
      have hp : 2 ^ (64 - 7 * i) = 2 ^ (64 - 7 * (i + 1)) * 128 := by
        rw [show 64 - 7 * i = 64 - 7 * (i + 1) + 7 by omega, Nat.pow_add]
      rw [ih (n / 128) (i + 1) _ rest (by omega) (by omega) (by rw [hp] at hn; exact Nat.div_lt_of_lt_mul (by omega)) (.inr (by omega))]
      have e : 2 ^ (7 * (i + 1)) = 128 * 2 ^ (7 * i) := by rw [show 7 * (i + 1) = 7 + 7 * i by omega, Nat.pow_add]
      rw [e]
      obtain ⟨p, hpp⟩ : ∃ p, 2 ^ (7 * i) = p := ⟨_, rfl⟩
      rw [hpp, show (n % 128 + 128) % 128 = n % 128 by omega]
      congr 1
      have h1 : n * p = (n % 128) * p + (n / 128) * (128 * p) := by
        rw [← Nat.mul_assoc, ← Nat.add_mul]
        congr 1
        omega
      omega
theorem ru_uv {n : Nat} (hn : n < 18446744073709551616) (rest : List Nat) : ru 0 0 (uv n ++ rest) = (n, rest, 0) := by
  have := ru_uv_at n n 0 0 rest (Nat.le_refl _) (by omega) (by simpa using hn) (.inl rfl)
  simpa using this
theorem rl_text (l rest : List Nat) (hl : l.length < 18446744073709551616) : rl (uv l.length ++ l ++ rest) = (l, rest, 0) := by
  rw [List.append_assoc]
  unfold rl
  rw [ru_uv hl]
  simp
theorem sbs_byte (s : ByteArray) : ∀ c ∈ sbs s, c < 256 := fun c hc => by
  obtain ⟨x, _, rfl⟩ := List.mem_map.1 hc
  exact x.toNat_lt
end Go.Proofs.YtfbbnphpapmpcaaGreatDoor
