/-
  Chapter 03's reference: plus, minus.
-/
import Derived.Test.YthafhbogpfggjaaGreatDoorE2
namespace Go.Proofs.YthafhbogpfggjaaGreatDoor
open Go.RowKit
open Dig (val Ws Nz)

/-- The state of plus at a round's head. -/
structure PlusSt (w : World) (a b : List Nat) (k c : Nat) (ds : List Nat) (v : Value) (wr : World) : Prop where
  own : wr.ownsRow w.heap.size 3 1 v k (ds.map d64)
  ws : Ws ds
  c1 : c ≤ 1
  eq : val ds + c * 10000 ^ k = val (a.take k) + val (b.take k)
  cz : c = 0 ∨ k ≤ max a.length b.length
  le : k ≤ max a.length b.length + 1
  bel : Below w.heap.size w wr
theorem PlusSt.len {w : World} {a b : List Nat} {k c : Nat} {ds : List Nat} {v : Value} {wr : World} (h : PlusSt w a b k c ds v wr) : ds.length = k := by
  have := h.own.1; simpa using this
theorem PlusSt.start (w : World) (a b : List Nat) : PlusSt w a b 0 0 [] (.slice none 0 0) w :=
  ⟨World.ownsRow_nil _ _ _ _, Ws.nil, by omega, by simp [val], .inl rfl, by omega, Below.refl _ _⟩
theorem PlusSt.step {w : World} {a b : List Nat} {k c : Nat} {ds : List Nat} {v : Value} {wr : World} (h : PlusSt w a b k c ds v wr) (ha : Ws a) (hb : Ws b) (hk : k < a.length ∨ k < b.length ∨ 0 < c)
    {v' : Value} {w' : World} {y : Int} (hy : y = (((c + (a.getD k 0 + b.getD k 0)) % 10000 : Nat) : Int)) (hown : w'.ownsRow w.heap.size 3 1 v' (k + 1) (ds.map d64 ++ [.int .i64 y])) (hbel : Below w.heap.size w w') :
    PlusSt w a b (k + 1) ((c + (a.getD k 0 + b.getD k 0)) / 10000) (ds ++ [(c + (a.getD k 0 + b.getD k 0)) % 10000]) v' w' := by
  subst hy
  have hs := Dig.sum_step ha hb h.len h.c1 h.eq
  have h1 := h.c1
  rw [map_snoc] at hown
  refine ⟨hown, h.ws.append (Ws.cons (by omega) Ws.nil), hs.1, hs.2, ?_, ?_, hbel⟩
  · rcases Nat.lt_or_ge k (max a.length b.length) with hl | hl
    · right; omega
    · left
      rw [Dig.getD_ge (l := a) (by omega), Dig.getD_ge (l := b) (by omega)]
      omega
  · have := h.cz
    rcases hk with hk | hk | hk <;> omega
theorem PlusSt.fin {w : World} {a b : List Nat} {k : Nat} {ds : List Nat} {v : Value} {wr : World} (h : PlusSt w a b k 0 ds v wr) (h1 : a.length ≤ k) (h2 : b.length ≤ k) :
    RetD w (fun l => val l = val a + val b ∧ l.length ≤ max a.length b.length + 1) (.returned v) wr := by
  obtain ⟨A, c, rfl, hd, hf⟩ := owns_dig h.own h.ws
  have he := h.eq
  rw [List.take_of_length_le h1, List.take_of_length_le h2] at he
  exact ⟨A, c, ds, rfl, h.bel, hd, ⟨by omega, by rw [h.len]; exact h.le⟩, hf⟩
set_option maxRecDepth 100000 in
set_option maxHeartbeats 1600000 in
theorem rplus_any {A B : Option Addr} {ca cb : Nat} {a b : List Nat} {w : World} (ha : DigIs w A a ca) (hb : DigIs w B b cb) (la : a.length ≤ many) (lb : b.length ≤ many) :
    Calls Tryz.prog 127 #[.slice A a.length ca, .slice B b.length cb] w (RetD w (fun l => val l = val a + val b ∧ l.length ≤ max a.length b.length + 1)) := by
  have hwa := ha.ws
  have hwb := hb.ws
  have ma := ha.mx
  have mb := hb.mx
  have xa := ha.cap
  have xb := hb.cap
  unfold maxLen at ma mb
  unfold many at la lb
  go_enter Tryz.func127, Tryz.ntmps127
  go_wp2_with fail
  go_loopw [5, 6, 7] (fun v c i wr => ∃ (k cy : Nat) (ds : List Nat) (v' : Value), i = .int .i64 (k : Int) ∧ c = .int .i64 (cy : Int) ∧ v = v' ∧ PlusSt w a b k cy ds v' wr) (fun _ _ i _ => max a.length b.length + 1 - (intOf i).toNat)
  case atStart => exact ⟨0, 0, [], _, rfl, rfl, rfl, PlusSt.start w a b⟩
  case round =>
    obtain ⟨k, cy, ds, v, rfl, rfl, hv, hst⟩ := hrel
    have hv' := hv.symm
    subst hv'
    have hcy := hst.c1
    have hle := hst.le
    by_cases hin : k < a.length ∨ k < b.length ∨ 0 < cy
    · have ha' := (ha.on hst.bel)
      have hb' := (hb.on hst.bel)
      have hbel := hst.bel
      have hown := hst.own
      have HST := Lib.hid hst
      have HIN := Lib.hid hin
      have hkm : k < max a.length b.length + 1 := by have := hst.cz; omega
      have hga := hwa.getD k
      have hgb := hwb.getD k
      clear hst
      obtain ⟨x, hx⟩ : ∃ x, x = a.getD k 0 := ⟨_, rfl⟩
      obtain ⟨y, hy⟩ : ∃ y, y = b.getD k 0 := ⟨_, rfl⟩
      rw [← hx] at hga
      rw [← hy] at hgb
      have HA := fun (wq : World) (hq : DigIs wq A a ca) => rat_any hq k (by unfold maxLen; omega)
      have HB := fun (wq : World) (hq : DigIs wq B b cb) => rat_any hq k (by unfold maxLen; omega)
      rw [← hx] at HA
      rw [← hy] at HB
      have HX := Lib.hid hx
      have HY := Lib.hid hy
      have HHA := Lib.hid HA
      have HHB := Lib.hid HB
      clear hx hy HA HB
      have p0 : (0 : Int) ≤ (x : Int) + (y : Int) + (cy : Int) := by omega
      have hcond : (k < a.length) ∨ (¬ k < a.length ∧ k < b.length) ∨ (¬ k < a.length ∧ ¬ k < b.length ∧ (0 : Int) < (cy : Int)) := by omega
      clear hin
      rcases hcond with c1 | ⟨c1, c2⟩ | ⟨c1, c2, c3⟩
      all_goals
        go_wp2_with fail
        refine (HHA.out _ ha').mono ?_
        rintro e w1 ⟨rfl, k1⟩
        have hb1 := hb'.on k1
        have hown1 := owns_keep hown k1
        have hbel1 := Below.call hbel k1
        go_wp2_with fail
        refine (HHB.out _ hb1).mono ?_
        rintro e w2 ⟨rfl, k2⟩
        have hown2 := owns_keep hown1 k2
        have hbel2 := Below.call hbel1 k2
        go_wp2_with (at_builtin; refine push_int rfl _ _ rfl w.heap.size v k (ds.map d64) _ rfl hown2 rfl ?c1 ?c2 ?_)
        case c1 => omega
        case c2 => exact hbel2.size
        intro v' w5 hown5 hb5
        have hbel5 := Below.trans hbel2 hb5
        have HN := Lib.hid (HST.out.step hwa hwb HIN.out (y := ((x : Int) + (y : Int) + (cy : Int)) % 10000) (by rw [← HX.out, ← HY.out]; omega) hown5 hbel5)
        rw [← HX.out, ← HY.out] at HN
        clear hown5
        go_wp2_with fail
        go_roundw
        case rel => exact ⟨k + 1, (cy + (x + y)) / 10000, _, v', by go_num, by go_num, rfl, HN.out⟩
        case measure => simp only [intOf]; omega
    · have h1 : ¬ k < a.length := by omega
      have h2 : ¬ k < b.length := by omega
      have h3 : cy = 0 := by omega
      subst h3
      have HF := Lib.hid (hst.fin (by omega) (by omega))
      clear hst
      go_wp2
      go_returns
      exact HF.out

/-- The state of minus at a round's head. -/
structure MinusSt (w : World) (a b : List Nat) (k c : Nat) (ds : List Nat) (v : Value) (wr : World) : Prop where
  own : wr.ownsRow w.heap.size 3 1 v k (ds.map d64)
  ws : Ws ds
  c1 : c ≤ 1
  eq : val ds + val (b.take k) = val (a.take k) + c * 10000 ^ k
  le : k ≤ a.length
  bel : Below w.heap.size w wr
theorem MinusSt.len {w : World} {a b : List Nat} {k c : Nat} {ds : List Nat} {v : Value} {wr : World} (h : MinusSt w a b k c ds v wr) : ds.length = k := by
  have := h.own.1; simpa using this
theorem MinusSt.start (w : World) (a b : List Nat) : MinusSt w a b 0 0 [] (.slice none 0 0) w :=
  ⟨World.ownsRow_nil _ _ _ _, Ws.nil, by omega, by simp [val], by omega, Below.refl _ _⟩
theorem MinusSt.step {w : World} {a b : List Nat} {k c : Nat} {ds : List Nat} {v : Value} {wr : World} (h : MinusSt w a b k c ds v wr) (hk : k < a.length)
    {v' : Value} {w' : World} {d c' : Nat} (hc : c' ≤ 1) (hd : d < 10000) (he : d + (c + b.getD k 0) = a.getD k 0 + c' * 10000) (hown : w'.ownsRow w.heap.size 3 1 v' (k + 1) (ds.map d64 ++ [.int .i64 (d : Int)])) (hbel : Below w.heap.size w w') :
    MinusSt w a b (k + 1) c' (ds ++ [d]) v' w' := by
  have hs := Dig.sub_step h.len h.eq he
  rw [map_snoc] at hown
  exact ⟨hown, h.ws.append (Ws.cons hd Ws.nil), hc, hs, by omega, hbel⟩
theorem MinusSt.fin {w : World} {a b : List Nat} {k c : Nat} {ds : List Nat} {v : Value} {wr : World} (h : MinusSt w a b k c ds v wr) (h1 : a.length ≤ k) (hl : b.length ≤ a.length) (hge : val b ≤ val a) :
    RetD w (fun l => val l = val a - val b ∧ l.length = a.length) (.returned v) wr := by
  have hk : k = a.length := by have := h.le; omega
  subst hk
  obtain ⟨A, c', rfl, hd, hf⟩ := owns_dig h.own h.ws
  exact ⟨A, c', ds, rfl, h.bel, hd, ⟨Dig.sub_end hl h.len h.ws h.eq hge, h.len⟩, hf⟩
set_option maxRecDepth 100000 in
set_option maxHeartbeats 1600000 in
theorem rminus_any {A B : Option Addr} {ca cb : Nat} {a b : List Nat} {w : World} (ha : DigIs w A a ca) (hb : DigIs w B b cb) (la : a.length ≤ many) (hl : b.length ≤ a.length) (hge : val b ≤ val a) :
    Calls Tryz.prog 129 #[.slice A a.length ca, .slice B b.length cb] w (RetD w (fun l => val l = val a - val b ∧ l.length = a.length)) := by
  have hwa := ha.ws
  have hwb := hb.ws
  have ma := ha.mx
  have mb := hb.mx
  have xa := ha.cap
  have xb := hb.cap
  have HGE := Lib.hid hge
  clear hge
  unfold maxLen at ma mb
  unfold many at la
  go_enter Tryz.func129, Tryz.ntmps129
  go_wp2_with fail
  go_loopw [5, 6, 7] (fun v c i wr => ∃ (k cy : Nat) (ds : List Nat) (v' : Value), i = .int .i64 (k : Int) ∧ c = .int .i64 (cy : Int) ∧ v = v' ∧ MinusSt w a b k cy ds v' wr) (fun _ _ i _ => a.length - (intOf i).toNat)
  case atStart => exact ⟨0, 0, [], _, rfl, rfl, rfl, MinusSt.start w a b⟩
  case round =>
    obtain ⟨k, cy, ds, v, rfl, rfl, hv, hst⟩ := hrel
    have hv' := hv.symm
    subst hv'
    have hcy := hst.c1
    have hle := hst.le
    by_cases hin : k < a.length
    · have ha' := (ha.on hst.bel)
      have hb' := (hb.on hst.bel)
      have hbel := hst.bel
      have hown := hst.own
      have HST := Lib.hid hst
      have hga := hwa.getD k
      have hgb := hwb.getD k
      clear hst
      obtain ⟨x, hx⟩ : ∃ x, x = a.getD k 0 := ⟨_, rfl⟩
      obtain ⟨y, hy⟩ : ∃ y, y = b.getD k 0 := ⟨_, rfl⟩
      rw [← hx] at hga
      rw [← hy] at hgb
      have HA := fun (wq : World) (hq : DigIs wq A a ca) => rat_any hq k (by unfold maxLen; omega)
      have HB := fun (wq : World) (hq : DigIs wq B b cb) => rat_any hq k (by unfold maxLen; omega)
      rw [← hx] at HA
      rw [← hy] at HB
      have HX := Lib.hid hx
      have HY := Lib.hid hy
      have HHA := Lib.hid HA
      have HHB := Lib.hid HB
      clear hx hy HA HB
      have hcond : ((x : Int) - (y : Int) - (cy : Int) < 0 ∧ ∃ d : Nat, (x : Int) - (y : Int) - (cy : Int) + 10000 = (d : Int) ∧ d < 10000 ∧ d + (cy + y) = x + 1 * 10000) ∨ (¬ (x : Int) - (y : Int) - (cy : Int) < 0 ∧ ∃ d : Nat, (x : Int) - (y : Int) - (cy : Int) = (d : Int) ∧ d < 10000 ∧ d + (cy + y) = x + 0 * 10000) := by
        by_cases h : (x : Int) - (y : Int) - (cy : Int) < 0
        · exact .inl ⟨h, x + 10000 - (y + cy), by omega, by omega, by omega⟩
        · exact .inr ⟨h, x - (y + cy), by omega, by omega, by omega⟩
      rcases hcond with ⟨c1, d, d1, d2, d3⟩ | ⟨c1, d, d1, d2, d3⟩
      · have HD3 := Lib.hid d3
        have HD1 := Lib.hid d1
        clear d1 d3
        go_wp2_with fail
        refine (HHA.out _ ha').mono ?_
        rintro e w1 ⟨rfl, k1⟩
        have hb1 := hb'.on k1
        have hown1 := owns_keep hown k1
        have hbel1 := Below.call hbel k1
        go_wp2_with fail
        refine (HHB.out _ hb1).mono ?_
        rintro e w2 ⟨rfl, k2⟩
        have hown2 := owns_keep hown1 k2
        have hbel2 := Below.call hbel1 k2
        go_wp2_with (at_builtin; refine push_int rfl _ _ rfl w.heap.size v k (ds.map d64) _ rfl hown2 rfl ?c1 ?c2 ?_)
        case c1 => omega
        case c2 => exact hbel2.size
        intro v' w5 hown5 hb5
        have hbel5 := Below.trans hbel2 hb5
        rw [HD1.out] at hown5
        have HN := Lib.hid (HST.out.step (c' := 1) hin (by omega) d2 (by rw [← HX.out, ← HY.out]; exact HD3.out) hown5 hbel5)
        clear hown5
        go_wp2_with fail
        go_roundw
        case rel => exact ⟨k + 1, _, _, v', by go_num, rfl, rfl, HN.out⟩
        case measure => simp only [intOf]; omega
      · have HD3 := Lib.hid d3
        have HD1 := Lib.hid d1
        clear d1 d3
        go_wp2_with fail
        refine (HHA.out _ ha').mono ?_
        rintro e w1 ⟨rfl, k1⟩
        have hb1 := hb'.on k1
        have hown1 := owns_keep hown k1
        have hbel1 := Below.call hbel k1
        go_wp2_with fail
        refine (HHB.out _ hb1).mono ?_
        rintro e w2 ⟨rfl, k2⟩
        have hown2 := owns_keep hown1 k2
        have hbel2 := Below.call hbel1 k2
        go_wp2_with (at_builtin; refine push_int rfl _ _ rfl w.heap.size v k (ds.map d64) _ rfl hown2 rfl ?c1 ?c2 ?_)
        case c1 => omega
        case c2 => exact hbel2.size
        intro v' w5 hown5 hb5
        have hbel5 := Below.trans hbel2 hb5
        rw [HD1.out] at hown5
        have HN := Lib.hid (HST.out.step (c' := 0) hin (by omega) d2 (by rw [← HX.out, ← HY.out]; exact HD3.out) hown5 hbel5)
        clear hown5
        go_wp2_with fail
        go_roundw
        case rel => exact ⟨k + 1, _, _, v', by go_num, rfl, rfl, HN.out⟩
        case measure => simp only [intOf]; omega
    · have HF := Lib.hid (hst.fin (by omega) hl HGE.out)
      clear hst
      go_wp2
      go_returns
      exact HF.out
end Go.Proofs.YthafhbogpfggjaaGreatDoor
