/-
  Contracts of package wide: normal, signed.
-/
import Derived.Test.YthafhbogpfggjaaGreatDoorProg
import Derived.Test.YthafhbogpfggjaaGreatDoorMem
import Derived.Test.YthafhbogpfggjaaGreatDoorMag
import Derived.Handy
namespace Go.Proofs.YthafhbogpfggjaaGreatDoor
open Go.RowKit Mag

/-- What is left without zeros at the end. -/
def NormPost (A : Option Addr) (c : Nat) (l : List Nat) (w : World) (e : Ending) (w' : World) : Prop :=
  ∃ k, k ≤ l.length ∧ e = .returned (.slice A k c) ∧ w = w' ∧ Nz (l.take k) ∧ val (l.take k) = val l

set_option maxHeartbeats 400000 in
theorem normal_any (A : Option Addr) (c : Nat) (l : List Nat) (w : World) (hS : Sl w w.heap.size A (l.map w32)) (hc : l.length ≤ c) (hm : c ≤ maxLen) :
    Calls Tryz.prog 116 #[.slice A l.length c] w (NormPost A c l w) := by
  unfold maxLen at hm
  go_enter Tryz.func116, Tryz.ntmps116
  go_wp2
  go_loop [0] (fun s => ∃ k, k ≤ l.length ∧ s = .slice A k c ∧ val (l.take k) = val l) (fun s => match s with | .slice _ k _ => k | _ => 0)
  case atStart => exact ⟨l.length, Nat.le_refl _, rfl, by rw [List.take_of_length_le (Nat.le_refl _)]⟩
  case round =>
    obtain ⟨k, hk, rfl, hv⟩ := hrel
    have HV := Lib.hid hv
    clear hv
    rcases Nat.eq_zero_or_pos k with h0 | h0
    · subst h0
      go_wp2
      go_ret
      exact ⟨0, by omega, rfl, rfl, by simpa using Nz.nil, HV.out⟩
    · obtain ⟨g, off, rfl, hg, hcell⟩ := hS.w32at (i := k - 1) (by omega)
      go_wp2
      · have hz : (((l[k - 1] : Nat) : Int) == 0) = true := by assumption
        have hz' : l[k - 1] = 0 := by simpa using hz
        go_round
        case rel => exact ⟨k - 1, by omega, rfl, (norm_step h0 hk hz').trans HV.out⟩
        case measure => show k - 1 < k; omega
      · have hz : (((l[k - 1] : Nat) : Int) == 0) = false := by assumption
        have hz' : l[k - 1] ≠ 0 := by simpa using hz
        go_ret
        exact ⟨k, hk, rfl, rfl, norm_end h0 hk hz', HV.out⟩

/-- What a contract's world keeps: the walk uses both as rules. -/
theorem bcell {W w1 : World} (hb : Below W.heap.size W w1) : (∀ b o, b < W.heap.size → w1.cell? ⟨b, o, none⟩ = W.cell? ⟨b, o, none⟩) ∧ (∀ b o, b < W.heap.size → w1.frozen? ⟨b, o, none⟩ = W.frozen? ⟨b, o, none⟩) :=
  ⟨fun b o h => hb.cell (p := ⟨b, o, none⟩) h, fun b o h => hb.frozen (p := ⟨b, o, none⟩) h⟩

/-- The bound of the range: 2 to the 16384. -/
def topW : Nat := 512
def top : Nat := 4294967296 ^ topW
theorem topW_eq : topW = 512 := rfl
theorem top_eq : top = 4294967296 ^ topW := rfl
/-- The magnitude l at A, in the world w. -/
structure MagIs (w : World) (A : Option Addr) (l : List Nat) (c : Nat) : Prop where
  sl : Sl w w.heap.size A (l.map w32)
  ws : Ws l
  nz : Nz l
  cap : l.length ≤ c
  mx : c ≤ maxLen
/-- The Int with these parts stands for z. -/
def WI (w : World) (neg : Bool) (A : Option Addr) (n c : Nat) (z : Int) : Prop :=
  ∃ l, l.length = n ∧ n ≤ 512 ∧ MagIs w A l c ∧ (neg = true → n ≠ 0) ∧ z = if neg then -(val l : Int) else (val l : Int)
theorem MagIs.on {w w' : World} {A : Option Addr} {l : List Nat} {c : Nat} (h : MagIs w A l c) (hb : Below w.heap.size w w') : MagIs w' A l c := ⟨h.sl.on hb, h.ws, h.nz, h.cap, h.mx⟩
theorem WI.on {w w' : World} {neg : Bool} {A : Option Addr} {n c : Nat} {z : Int} (h : WI w neg A n c z) (hb : Below w.heap.size w w') : WI w' neg A n c z := by
  obtain ⟨l, h1, h2, h3, h4⟩ := h
  exact ⟨l, h1, h2, h3.on hb, h4⟩
theorem WI.zero (w : World) : WI w false none 0 0 0 := ⟨[], rfl, by omega, ⟨Sl.nil_, Ws.nil, Nz.nil, by simp, by unfold maxLen; omega⟩, by simp, by simp [val]⟩

/-- An Int and an error. -/
def IntErr (w : World) (z : Int) (err : Int) (e : Ending) (w' : World) : Prop :=
  ∃ neg A n c, e = .returned (.tuple #[.agg #[.bool neg, .slice A n c], .int .i64 err]) ∧ Below w.heap.size w w' ∧ WI w' neg A n c z
def sgn (neg : Bool) (m : Nat) : Int := if neg then -(m : Int) else (m : Int)

theorem len_top {l : List Nat} (h : Nz l) (hv : val l < top) : l.length ≤ 512 := by
  have h1 : l.length ≤ topW := by
    rw [top_eq] at hv
    exact length_le_of h hv
  rw [topW_eq] at h1
  exact h1
theorem lt_top {l : List Nat} (h : Ws l) (hl : l.length ≤ 512) : val l < top := by
  rw [top_eq]
  refine lt_pow_of_length h ?_
  rw [topW_eq]
  exact hl
theorem signed_end {w w' : World} {A : Option Addr} {c k : Nat} {l : List Nat} {neg b : Bool} (hS : Sl w w.heap.size A (l.map w32)) (hb : Below w.heap.size w w') (hc : l.length ≤ c) (hm : c ≤ maxLen) (hw : Ws l)
    (hk : k ≤ l.length) (h5 : k ≤ 512) (hnz : Nz (l.take k)) (hval : val (l.take k) = val l) (hbk : b = (neg && decide (0 < k))) : WI w' b A k c (sgn neg (val l)) := by
  subst hbk
  refine ⟨l.take k, by rw [List.length_take]; omega, h5, ⟨?_, hw.take k, hnz, by rw [List.length_take]; omega, hm⟩, ?_, ?_⟩
  · rw [List.map_take]
    exact (hS.take k).on hb
  · intro h; simp at h; omega
  · rw [hval]
    unfold sgn
    rcases Nat.eq_zero_or_pos k with h0 | h0
    · subst h0
      have : val l = 0 := by rw [← hval]; simp [val]
      simp [this]
    · simp [h0]

set_option maxHeartbeats 400000 in
theorem signed_any (neg : Bool) (A : Option Addr) (c : Nat) (l : List Nat) (w : World) (hS : Sl w w.heap.size A (l.map w32)) (hc : l.length ≤ c) (hm : c ≤ maxLen) (hw : Ws l) (hv : val l < top) :
    Calls Tryz.prog 119 #[.bool neg, .slice A l.length c] w (IntErr w (sgn neg (val l)) 0) := by
  have hm' := hm
  unfold maxLen at hm
  go_enter Tryz.func119, Tryz.ntmps119
  go_wp2_with fail
  refine (normal_any A c l _ (hS.alloc (Nat.le_refl _) _ |>.more (by simp)) hc hm').mono ?_
  rintro e w1 ⟨k, hk, rfl, rfl, hnz, hval⟩
  have hk5 : k ≤ 512 := by
    have := len_top (l := l.take k) hnz (by rw [hval]; exact hv)
    rw [List.length_take] at this; omega
  have HV := Lib.hid hval
  clear hval hv
  have hfin := fun (w' : World) (b : Bool) (hb : Below w.heap.size w w') hbk => signed_end (b := b) (neg := neg) hS hb hc hm' hw hk hk5 hnz HV.out hbk
  rcases Nat.eq_zero_or_pos k with h0 | h0
  · subst h0
    cases neg
    all_goals
      go_wp2
      go_returns
      exact ⟨_, _, _, _, rfl, by go_grown, hfin _ _ (by go_grown) (by simp)⟩
  · cases neg
    all_goals
      go_wp2
      go_returns
      exact ⟨_, _, _, _, rfl, by go_grown, hfin _ _ (by go_grown) (by simp [h0])⟩

set_option maxHeartbeats 400000 in
theorem signed_over (neg : Bool) (A : Option Addr) (c : Nat) (l : List Nat) (w : World) (hS : Sl w w.heap.size A (l.map w32)) (hc : l.length ≤ c) (hm : c ≤ maxLen) (hw : Ws l) (hv : top ≤ val l) :
    Calls Tryz.prog 119 #[.bool neg, .slice A l.length c] w (IntErr w 0 4) := by
  have hm' := hm
  unfold maxLen at hm
  go_enter Tryz.func119, Tryz.ntmps119
  go_wp2_with fail
  refine (normal_any A c l _ (hS.alloc (Nat.le_refl _) _ |>.more (by simp)) hc hm').mono ?_
  rintro e w1 ⟨k, hk, rfl, rfl, hnz, hval⟩
  have hk5 : 512 < k := by
    rcases Nat.lt_or_ge 512 k with h | h
    · exact h
    · have := lt_top (hw.take k) (by rw [List.length_take]; omega)
      omega
  have hk6 : 0 < k := by omega
  clear hval hv
  go_wp2
  go_returns
  exact ⟨_, _, _, _, rfl, by go_grown, WI.zero _⟩
end Go.Proofs.YthafhbogpfggjaaGreatDoor
