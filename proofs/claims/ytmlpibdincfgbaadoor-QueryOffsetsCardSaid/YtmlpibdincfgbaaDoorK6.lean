/-
  Package query: take, need, letters and digits.
-/
import Derived.Test.YtmlpibdincfgbaaDoorK5
namespace Go.Proofs.YtmlpibdincfgbaaDoor
open Go.RowKit

theorem bs_toList (t : Qy.Bs) : (bs t).toList = t := by
  unfold bs
  rw [ByteArray.toList_mk]
theorem bs_size (t : Qy.Bs) : (bs t).size = t.length := by simp [bs, ByteArray.size]
theorem RdAt.cell0 {B r : Nat} {l : List Qy.Tok} {w : World} (h : RdAt B r l w) : w.cell? ⟨r, 0, none⟩ = some (.string (bs (Qy.hd l))) ∧ w.cell? ⟨r, 1, none⟩ = some (.int .i64 (Qy.hdAt l : Int)) := by
  obtain ⟨_, _, t, rest, A, c, rfl, hO, _⟩ := h
  exact ⟨hO.c0, hO.c1⟩
set_option maxRecDepth 100000 in
set_option maxHeartbeats 1600000 in
theorem qTake (B r : Nat) (l : List Qy.Tok) (s : Qy.Bs) (w : World) (h : RdAt B r l w) : Calls Tryd.prog 75 #[.pointer (some ⟨r, 0, none⟩), .string (bs s)] w fun e w' =>
    e = .returned (.bool (decide (Qy.hd l = s))) ∧ RdAt B r (if Qy.hd l = s then Qy.stp l else l) w' ∧ At1 r w w' := by
  have c0 := h.cell0.1
  obtain ⟨b, hb⟩ : ∃ b, decide (Qy.hd l = s) = b := ⟨_, rfl⟩
  obtain ⟨l2, hl2⟩ : ∃ l2, (if Qy.hd l = s then Qy.stp l else l) = l2 := ⟨_, rfl⟩
  have hcmp : ((bs (Qy.hd l)).toList == (bs s).toList) = b := by
    rw [bs_toList, bs_toList, ← hb]
    by_cases e : Qy.hd l = s <;> simp [e]
  rw [hb, hl2]
  have HR := Lib.hid h
  clear h
  cases b
  · have hne : ((bs (Qy.hd l)).toList != (bs s).toList) = true := by rw [bne, hcmp]; rfl
    rw [if_neg (of_decide_eq_false hb)] at hl2
    subst hl2
    clear hb
    go_enter Tryd.func75, Tryd.ntmps75
    go_wp2
    go_returns
    exact ⟨rfl, HR.out, At1.refl _ _⟩
  · have hne : ((bs (Qy.hd l)).toList != (bs s).toList) = false := by rw [bne, hcmp]; rfl
    rw [if_pos (of_decide_eq_true hb)] at hl2
    subst hl2
    clear hb
    go_enter Tryd.func75, Tryd.ntmps75
    go_wp2_with fail
    refine (qStep B r l w HR.out).mono ?_
    rintro e w1 ⟨rfl, h1, h2⟩
    have HF := Lib.hid (And.intro h1 h2)
    clear h1 h2 c0
    go_wp2
    go_returns
    exact ⟨rfl, HF.out.1, HF.out.2⟩
set_option maxRecDepth 100000 in
set_option maxHeartbeats 1600000 in
theorem qNeed (B r : Nat) (l : List Qy.Tok) (s : Qy.Bs) (w : World) (h : RdAt B r l w) : Calls Tryd.prog 52 #[.pointer (some ⟨r, 0, none⟩), .string (bs s)] w (Ends B r w (Qy.need s l) unitV) := by
  have HT := Lib.hid (qTake B r l s w h)
  by_cases e : Qy.hd l = s
  · have hn : Qy.need s l = .ok () (Qy.stp l) := if_pos e
    rw [hn]
    rw [decide_eq_true e, if_pos e] at HT
    clear hn e h
    go_enter Tryd.func52, Tryd.ntmps52
    go_wp2_with fail
    refine HT.out.mono ?_
    rintro e w1 ⟨rfl, h1, h2⟩
    have HF := Lib.hid (And.intro h1 h2)
    clear h1 h2
    go_wp2
    exact bodyPost_end (results_none Tryd.results52 _ _ _) rfl ⟨HF.out.2, ⟨_, rfl, rfl⟩, HF.out.1⟩
  · have hn : Qy.need s l = .bad (Qy.hdAt l) 2 := if_neg e
    rw [hn]
    rw [decide_eq_false e, if_neg e] at HT
    clear hn e h
    go_enter Tryd.func52, Tryd.ntmps52
    go_wp2_with fail
    refine HT.out.mono ?_
    rintro e w1 ⟨rfl, h1, h2⟩
    have HF := Lib.hid (And.intro h1 h2)
    clear h1 h2
    go_wp2_with fail
    refine (qFail B r l 2 w1 HF.out.1).mono ?_
    rintro e w2 ⟨rfl, rfl⟩
    go_wp2
    exact ⟨rfl, HF.out.2, rfl⟩
theorem u8_lt (c : UInt8) : c.toNat < 256 := c.toNat_lt
set_option maxRecDepth 100000 in
theorem letter_any (c : UInt8) (w : World) : Calls Tryd.prog 49 #[.int .u8 (c.toNat : Int)] w fun e w' => e = .returned (.bool (Qy.isL c)) ∧ w' = w := by
  unfold Qy.isL
  generalize c.toNat = n
  by_cases h1 : 97 ≤ n
  · by_cases h2 : n ≤ 122
    · have k1 : (97 : Int) ≤ (n : Int) := by omega
      have k2 : (n : Int) ≤ 122 := by omega
      rw [decide_eq_true h1, decide_eq_true h2]
      go_enter Tryd.func49, Tryd.ntmps49
      go_wp2
      go_returns
      exact ⟨by simp, rfl⟩
    · have k1 : (97 : Int) ≤ (n : Int) := by omega
      have k2 : ¬ (n : Int) ≤ 122 := by omega
      rw [decide_eq_true h1, decide_eq_false h2]
      go_enter Tryd.func49, Tryd.ntmps49
      go_wp2
      go_returns
      exact ⟨by simp, rfl⟩
  · have k1 : ¬ (97 : Int) ≤ (n : Int) := by omega
    rw [decide_eq_false h1]
    go_enter Tryd.func49, Tryd.ntmps49
    go_wp2
    go_returns
    exact ⟨by simp, rfl⟩
end Go.Proofs.YtmlpibdincfgbaaDoor
