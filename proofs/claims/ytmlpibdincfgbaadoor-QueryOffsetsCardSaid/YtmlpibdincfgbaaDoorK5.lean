/-
  Package query: the reader's small steps.
-/
import Derived.Test.YtmlpibdincfgbaaDoorK3
import Derived.Test.YtmlpibdincfgbaaDoorRJ
namespace Go.Proofs.YtmlpibdincfgbaaDoor
open Go.RowKit

/-- The panic by which a reader is left. -/
def prob (a : Nat) (e : Int) : List PanicEntry := [{ v := .iface 76 (.agg #[.int .i64 (a : Int), .int .i64 e]), recovered := false }]
/-- How a reading function ends: by the result, with the reader at the tokens behind it; or by the panic. -/
def Ends {α : Type} (B r : Nat) (w : World) (res : Qy.Res α) (val : α → Value → World → Prop) (e : Ending) (w' : World) : Prop :=
  At1 r w w' ∧ match res with
    | .ok a l => (∃ v, e = .returned v ∧ val a v w') ∧ RdAt B r l w'
    | .bad x er => e = .panicked (prob x er)
def unitV (_ : Unit) (v : Value) (_ : World) : Prop := v = .tuple #[]
def intV (n : Int) (v : Value) (_ : World) : Prop := v = .int .i64 n
set_option maxRecDepth 100000 in
theorem qFail (B r : Nat) (l : List Qy.Tok) (er : Int) (w : World) (h : RdAt B r l w) : Calls Tryd.prog 76 #[.pointer (some ⟨r, 0, none⟩), .int .i64 er] w fun e w' => e = .panicked (prob (Qy.hdAt l) er) ∧ w' = w := by
  obtain ⟨_, _, t, rest, A, c, rfl, hO, hT⟩ := h
  have c1 := hO.c1
  clear hO hT
  go_enter Tryd.func76, Tryd.ntmps76
  go_wp2
  exact ⟨rfl, rfl, rfl⟩
theorem At1.set_ {r : Nat} (w : World) {p : Addr} (hp : p.block = r) (u : Value) : At1 r w (w.setCell p u) := by
  have h := (Below.refl r w).setCell (p := p) (Nat.le_of_eq hp.symm) u
  exact ⟨h.os, h.tape, h.output, h.size, fun k _ hk => Below.heap_setCell w p u k (fun e => hk (by rw [e, hp]))⟩
theorem At1.drew {r : Nat} {w w' : World} (h : At1 r w w') : At1 r w w'.drew := h.trans (At1.of_below (Below.drew (Below.refl _ _)))
/-- What holds of every world in the midst of step. -/
def JN (r : Nat) (w : World) (g off n c : Nat) (wz : World) : Prop := At1 r w wz ∧ ∃ a b, Own wz r 83 [a, b, .slice (some ⟨g, off, none⟩) (n + 1) c]
/-- The token that has been stored stays. -/
def RN (r : Nat) (u : Qy.Tok) (w w' : World) : Prop := (w.cell? ⟨r, 0, none⟩ = some (.string (bs u.text)) → w'.cell? ⟨r, 0, none⟩ = some (.string (bs u.text))) ∧ (w.cell? ⟨r, 1, none⟩ = some (.int .i64 (u.at_ : Int)) → w'.cell? ⟨r, 1, none⟩ = some (.int .i64 (u.at_ : Int)))
theorem RN.refl {r : Nat} {u : Qy.Tok} (w : World) : RN r u w w := ⟨id, id⟩
def sNew (r : Nat) (u : Qy.Tok) : Spec (RN r u) := ⟨fun _ w => w.cell? ⟨r, 0, none⟩ = some (.string (bs u.text)) ∧ w.cell? ⟨r, 1, none⟩ = some (.int .i64 (u.at_ : Int)), fun h k => ⟨k.1 h.1, k.2 h.2⟩⟩
set_option maxRecDepth 100000 in
set_option maxHeartbeats 1600000 in
theorem qStep (B r : Nat) (l : List Qy.Tok) (w : World) (h : RdAt B r l w) : Calls Tryd.prog 31 #[.pointer (some ⟨r, 0, none⟩)] w fun e w' => e = .returned (.tuple #[]) ∧ RdAt B r (Qy.stp l) w' ∧ At1 r w w' := by
  obtain ⟨hb1, hb2, t, rest, A, c, rfl, hO, hT⟩ := h
  have HB1 := Lib.hid hb1
  have HB2 := Lib.hid hb2
  clear hb1 hb2
  match rest, hT, hO with
  | [], hT, hO =>
    have HR := Lib.hid (show RdAt B r (Qy.stp [t]) w from ⟨HB1.out, HB2.out, t, [], A, c, rfl, hO, hT⟩)
    have c2 := hO.c2
    simp only [List.length_nil] at c2
    clear hO hT
    go_enter Tryd.func31, Tryd.ntmps31
    go_wp2
    exact bodyPost_end (results_none Tryd.results31 _ _ _) rfl ⟨rfl, HR.out, At1.refl _ _⟩
  | u :: rest, hT, hO =>
    obtain ⟨g, off, rfl, hg, hgB, hgl, hc, hcell⟩ : ∃ g off, A = some ⟨g, off, none⟩ ∧ g ≠ r ∧ g < B ∧ g < w.heap.size ∧ rest.length + 1 ≤ c ∧ ∀ j t, (u :: rest)[j]? = some t → w.cell? ⟨g, off + j * 2, none⟩ = some (.string (bs t.text)) ∧ w.cell? ⟨g, off + j * 2 + 1, none⟩ = some (.int .i64 (t.at_ : Int)) := by
      rcases hT with h | h
      · cases h
      · exact h
    have x0 : w.cell? ⟨g, off, none⟩ = some (.string (bs u.text)) := (hcell 0 u rfl).1
    have x1 : w.cell? ⟨g, off + 1, none⟩ = some (.int .i64 (u.at_ : Int)) := (hcell 0 u rfl).2
    have c0 := hO.c0
    have c1 := hO.c1
    have c2 := hO.c2
    have f0 := hO.frozen 0
    have f1 := hO.frozen 1
    have f2 := hO.frozen 2
    obtain ⟨n, hn⟩ : ∃ n, rest.length = n := ⟨_, rfl⟩
    simp only [List.length_cons] at c2
    rw [hn] at hc c2
    have n1 : (0 : Int) < (n : Int) + 1 := by omega
    have n3 : (1 : Int) ≤ (n : Int) + 1 := by omega
    have n2 : (n : Int) + 1 ≤ (c : Int) := by omega
    have HGB := Lib.hid hgB
    have HS : Hid (∀ (A' : Option Addr) (W : World), Own W r 83 [.string (bs u.text), .int .i64 (u.at_ : Int), .slice A' n (c - 1)] → At1 r w W → (n = 0 ∨ A' = some ⟨g, off + 2, none⟩) → RdAt B r (Qy.stp (t :: u :: rest)) W ∧ At1 r w W) := Lib.hid fun A' W hOW k hA => by
      refine ⟨⟨HB1.out, Nat.le_trans HB2.out k.size, u, rest, A', c - 1, rfl, by rw [hn]; exact hOW, ?_⟩, k⟩
      rcases hA with h0 | rfl
      · exact .inl (List.eq_nil_of_length_eq_zero (hn.trans h0))
      · refine .inr ⟨g, off + 2, rfl, hg, HGB.out, Nat.lt_of_lt_of_le hgl k.size, by omega, fun j v hj => ?_⟩
        have e : ∀ o, W.cell? ⟨g, o, none⟩ = w.cell? ⟨g, o, none⟩ := fun o => World.cell?_of_block (a := ⟨g, o, none⟩) (k.heap hgl hg)
        rw [e, e, show off + 2 + j * 2 = off + (j + 1) * 2 by omega]
        exact hcell (j + 1) v hj
    rw [List.length_cons, hn] at hO
    have HO := Lib.hid hO
    have m1 : g ≠ r := hg
    clear hgB hcell hO hT hn
    have HJ : Hid (∀ wz, JN r w g off n c wz → wz.cell? ⟨r, 2, none⟩ = some (.slice (some ⟨g, off, none⟩) (n + 1) c) ∧ wz.cell? ⟨g, off, none⟩ = some (.string (bs u.text)) ∧ wz.cell? ⟨g, off + 1, none⟩ = some (.int .i64 (u.at_ : Int))) := Lib.hid fun wz ⟨k, a, b, ho⟩ => by
      have e : ∀ o, wz.cell? ⟨g, o, none⟩ = w.cell? ⟨g, o, none⟩ := fun o => World.cell?_of_block (a := ⟨g, o, none⟩) (k.heap hgl hg)
      exact ⟨ho.c2, (e _).trans x0, (e _).trans x1⟩
    have hJ0 : JN r w g off n c w.drew := ⟨At1.of_below (Below.drew (Below.refl _ _)), _, _, HO.out.on (Below.drew (Below.refl _ _))⟩
    obtain ⟨A2, hA2⟩ : ∃ A2, (if c = 1 then some ⟨g, off, none⟩ else some ⟨g, off + 2, none⟩ : Option Addr) = A2 := ⟨_, rfl⟩
    have n2' : n ≤ c - 1 := by omega
    have HA : Hid (n = 0 ∨ A2 = some ⟨g, off + 2, none⟩) := Lib.hid (by
      rw [← hA2]
      split
      · exact .inl (by omega)
      · exact .inr rfl)
    obtain ⟨c2_, hc2⟩ : ∃ x, c - 1 = x := ⟨_, rfl⟩
    rw [hc2] at HS
    clear x0 x1 c0 c1 f0 f1 f2
    go_enter Tryd.func31, Tryd.ntmps31
    have c2 := HO.out.c2
    go_wp2_with fail
    clear c2
    refine wp_region_suffixJ (R := RN r u) (JN r w g off n c) 18 [Spec.eq (.pointer (some ⟨r, 0, none⟩)), Spec.eq (.pointer (some ⟨r, 0, none⟩)), Spec.eq (.pointer (some ⟨r, 0, none⟩)), Spec.eq (.pointer (some ⟨r, 0, none⟩)), Spec.eq (.pointer (some ⟨r, 2, none⟩)), Spec.eq (.slice (some ⟨g, off, none⟩) (n + 1) c), Spec.eq (.pointer (some ⟨g, off, none⟩)), Spec.eq (.agg #[.string (bs u.text), .int .i64 (u.at_ : Int)]), Spec.eq (.pointer (some ⟨r, 0, none⟩)), Spec.eq (.pointer (some ⟨r, 0, none⟩)), Spec.eq (.pointer (some ⟨r, 2, none⟩)), Spec.eq (.slice (some ⟨g, off, none⟩) (n + 1) c), Spec.eq (.slice A2 n c2_), Spec.eq (.pointer (some ⟨r, 0, none⟩)), Spec.eq (.pointer (some ⟨r, 0, none⟩)), sNew r u, Spec.eq (.pointer (some ⟨r, 0, none⟩)), Spec.eq (.pointer (some ⟨r, 2, none⟩))]
        (by kernel_rfl) (by kernel_rfl) rfl (by kernel_rfl) (by kernel_rfl) hJ0 ?_ ?_
    ·
      refine RegStepsJ.cons ?_ ?_
      · intro az wz hC hF hD K hK
        have q0 : az.tmps[0]? = some (.pointer (some ⟨r, 0, none⟩)) := hF 0 rfl
        clear hF hD
        refine want_none rfl ?_
        go_simp
        exact hK _ _ hC (RN.refl _) rfl
      refine RegStepsJ.cons ?_ ?_
      · intro az wz hC hF hD K hK
        have q0 : az.tmps[0]? = some (.pointer (some ⟨r, 0, none⟩)) := hF 0 rfl
        clear hF hD
        refine want_none rfl ?_
        go_simp
        exact hK _ _ hC (RN.refl _) rfl
      refine RegStepsJ.cons ?_ ?_
      · intro az wz hC hF hD K hK
        have q0 : az.tmps[0]? = some (.pointer (some ⟨r, 0, none⟩)) := hF 0 rfl
        clear hF hD
        refine want_none rfl ?_
        go_simp
        exact hK _ _ hC (RN.refl _) rfl
      refine RegStepsJ.cons ?_ ?_
      · intro az wz hC hF hD K hK
        obtain ⟨_, q10, rfl⟩ := dep hD 2 rfl rfl rfl rfl
        clear hF hD
        refine want_none rfl ?_
        go_simp
        exact hK _ _ hC (RN.refl _) rfl
      refine RegStepsJ.cons ?_ ?_
      · intro az wz hC hF hD K hK
        obtain ⟨_, q11, rfl⟩ := dep hD 3 rfl rfl rfl rfl
        clear hF hD
        refine want_none rfl ?_
        go_simp
        exact hK _ _ hC (RN.refl _) rfl
      refine RegStepsJ.cons ?_ ?_
      · intro az wz hC hF hD K hK
        obtain ⟨_, q12, rfl⟩ := dep hD 4 rfl rfl rfl rfl
        obtain ⟨j2, j3, j4⟩ := HJ.out _ hC
        clear hF hD
        refine want_none rfl ?_
        go_simp
        exact hK _ _ hC (RN.refl _) rfl
      refine RegStepsJ.cons ?_ ?_
      · intro az wz hC hF hD K hK
        obtain ⟨_, q13, rfl⟩ := dep hD 5 rfl rfl rfl rfl
        clear hF hD
        refine want_none rfl ?_
        go_simp
        exact hK _ _ hC (RN.refl _) rfl
      refine RegStepsJ.cons ?_ ?_
      · intro az wz hC hF hD K hK
        obtain ⟨_, q14, rfl⟩ := dep hD 6 rfl rfl rfl rfl
        obtain ⟨j2, j3, j4⟩ := HJ.out _ hC
        clear hF hD
        refine want_none rfl ?_
        go_simp
        exact hK _ _ hC (RN.refl _) rfl
      refine RegStepsJ.cons ?_ ?_
      · intro az wz hC hF hD K hK
        have q0 : az.tmps[0]? = some (.pointer (some ⟨r, 0, none⟩)) := hF 0 rfl
        clear hF hD
        refine want_none rfl ?_
        go_simp
        exact hK _ _ hC (RN.refl _) rfl
      refine RegStepsJ.cons ?_ ?_
      · intro az wz hC hF hD K hK
        obtain ⟨_, q16, rfl⟩ := dep hD 8 rfl rfl rfl rfl
        clear hF hD
        refine want_none rfl ?_
        go_simp
        exact hK _ _ hC (RN.refl _) rfl
      refine RegStepsJ.cons ?_ ?_
      · intro az wz hC hF hD K hK
        obtain ⟨_, q17, rfl⟩ := dep hD 9 rfl rfl rfl rfl
        clear hF hD
        refine want_none rfl ?_
        go_simp
        exact hK _ _ hC (RN.refl _) rfl
      refine RegStepsJ.cons ?_ ?_
      · intro az wz hC hF hD K hK
        obtain ⟨_, q18, rfl⟩ := dep hD 10 rfl rfl rfl rfl
        obtain ⟨j2, j3, j4⟩ := HJ.out _ hC
        clear hF hD
        refine want_none rfl ?_
        go_simp
        exact hK _ _ hC (RN.refl _) rfl
      refine RegStepsJ.cons ?_ ?_
      · intro az wz hC hF hD K hK
        obtain ⟨_, q19, rfl⟩ := dep hD 11 rfl rfl rfl rfl
        clear hF hD
        refine want_none rfl ?_
        go_simp
        exact hK _ _ hC (RN.refl _) rfl
      refine RegStepsJ.cons ?_ ?_
      · intro az wz hC hF hD K hK
        obtain ⟨_, q8, rfl⟩ := dep hD 0 rfl rfl rfl rfl
        clear hF hD
        refine want_none rfl ?_
        go_simp
        exact hK _ _ hC (RN.refl _) rfl
      refine RegStepsJ.cons ?_ ?_
      · intro az wz hC hF hD K hK
        obtain ⟨_, q21, rfl⟩ := dep hD 13 rfl rfl rfl rfl
        clear hF hD
        refine want_none rfl ?_
        go_simp
        exact hK _ _ hC (RN.refl _) rfl
      refine RegStepsJ.cons ?_ ?_
      · intro az wz hC hF hD K hK
        obtain ⟨_, q22, rfl⟩ := dep hD 14 rfl rfl rfl rfl
        obtain ⟨_, q15, rfl⟩ := dep hD 7 rfl rfl rfl rfl
        clear hF hD
        obtain ⟨kk, a, b, ho⟩ := hC
        have z0 := ho.c0
        have z1 := ho.c1
        have y0 := ho.frozen 0
        have y1 := ho.frozen 1
        refine want_none rfl ?_
        have HH := Lib.hid ((ho.set_ 0 (.string (bs u.text))).set_ 1 (.int .i64 (u.at_ : Int)))
        have HK := Lib.hid ((kk.trans (At1.set_ wz (p := ⟨r, 0, none⟩) rfl (.string (bs u.text)))).trans (At1.set_ _ (p := ⟨r, 1, none⟩) rfl (.int .i64 (u.at_ : Int))))
        clear ho kk
        go_simp
        exact hK undef _ ⟨HK.out, _, _, HH.out⟩ ⟨fun _ => HH.out.c0, fun _ => HH.out.c1⟩ ⟨HH.out.c0, HH.out.c1⟩
      refine RegStepsJ.cons ?_ ?_
      · intro az wz hC hF hD K hK
        obtain ⟨_, q9, rfl⟩ := dep hD 1 rfl rfl rfl rfl
        clear hF hD
        refine want_none rfl ?_
        go_simp
        exact hK _ _ hC (RN.refl _) rfl
      refine RegStepsJ.cons ?_ ?_
      · intro az wz hC hF hD K hK
        obtain ⟨_, q23, rfl⟩ := dep hD 16 rfl rfl rfl rfl
        clear hF hD
        refine want_none rfl ?_
        go_simp
        exact hK _ _ hC (RN.refl _) rfl
      exact RegStepsJ.nil
    intro w2 hC2
    rintro _ rfl _ rfl _ rfl _ rfl _ rfl _ rfl _ rfl _ rfl _ rfl _ rfl _ rfl _ rfl _ rfl _ rfl _ rfl _ hs15 _ rfl _ rfl
    simp only [List.take, FinOK, Act.put, List.setIfInBounds_toArray, List.set_cons_zero, List.set_cons_succ]
    simp only [List.drop, TailOK]
    obtain ⟨kk, a, b, ho⟩ := hC2
    obtain ⟨s0, s1⟩ := hs15
    rw [ho.c0] at s0
    injection s0 with s0
    subst s0
    rw [ho.c1] at s1
    injection s1 with s1
    subst s1
    have c2 := ho.c2
    have f2 := ho.frozen 2
    have HE := Lib.hid (HS.out A2 _ (ho.set_ 2 (.slice A2 n c2_)) (kk.trans (At1.set_ _ rfl _)) HA.out)
    clear ho kk
    intro K hK
    refine want_none rfl ?_
    go_simp
    refine hK _ _ ?_
    clear hK K
    exact bodyPost_end (results_none Tryd.results31 _ _ _) rfl ⟨rfl, HE.out.1, HE.out.2⟩
end Go.Proofs.YtmlpibdincfgbaaDoor
