/-
  Package point: Encode; the encodings of points and their order, plain; the reference's Compare, SameBytes.
-/
import Derived.Test.YtfbbnphpapmpcaaGreatDoorN0
import Derived.Test.YtfbbnphpapmpcaaGreatDoorP5
import Derived.Test.YtfbbnphpapmpcaaGreatDoorZ5
import Derived.Test.YtfbbnphpapmpcaaGreatDoorQ2
import Derived.Lib.ConvBytes
namespace Go.Proofs.YtfbbnphpapmpcaaGreatDoor
open Go.RowKit Mag

/-- A text's bytes as numbers. -/
def nb (l : List UInt8) : List Nat := l.map UInt8.toNat
theorem nb_len (l : List UInt8) : (nb l).length = l.length := by simp [nb]
theorem nb_inj {a b : List UInt8} (h : nb a = nb b) : a = b := by
  have h2 := congrArg (List.map UInt8.ofNat) h
  have e : ∀ l : List UInt8, (nb l).map UInt8.ofNat = l := fun l => by
    unfold nb
    rw [List.map_map]
    conv => rhs; rw [← List.map_id l]
    exact List.map_congr_left fun x _ => by simp
  rwa [e, e] at h2
/-- The bytes of two texts. -/
def encP (a b : List UInt8) : List Nat := uv (nb a).length ++ nb a ++ (uv (nb b).length ++ nb b)
theorem encP_read (a b : List UInt8) (ha : a.length < 1000000) (hb : b.length < 1000000) : rl (encP a b) = (nb a, uv (nb b).length ++ nb b, 0) ∧ rl (uv (nb b).length ++ nb b) = (nb b, [], 0) := by
  refine ⟨rl_text _ _ (by rw [nb_len]; omega), ?_⟩
  have := rl_text (nb b) [] (by rw [nb_len]; omega)
  rwa [List.append_nil] at this
theorem encP_inj {a b c d : List UInt8} (ha : a.length < 1000000) (hb : b.length < 1000000) (hc : c.length < 1000000) (hd : d.length < 1000000) (h : encP a b = encP c d) : a = c ∧ b = d := by
  obtain ⟨h1, h2⟩ := encP_read a b ha hb
  obtain ⟨h3, h4⟩ := encP_read c d hc hd
  rw [h, h3] at h1
  injection h1 with e1 e2
  injection e2 with e2 _
  rw [← e2, h4] at h2
  injection h2 with e3 _
  exact ⟨nb_inj e1.symm, nb_inj e3.symm⟩
theorem ftext_len {p q : Int} (hp : p.natAbs < top) (hq : q.natAbs < top) : (ftext p q).length ≤ 10001 := by
  have h1 := itoa_5000 hp
  have h2 := itoa_5000 hq
  unfold ftext
  split
  · omega
  · rw [List.length_append, List.length_cons]; omega
theorem encP_len {p q r s : Int} (hp : p.natAbs < top) (hq : q.natAbs < top) (hr : r.natAbs < top) (hs : s.natAbs < top) : (encP (ftext p q) (ftext r s)).length ≤ 20100 := by
  have h1 := ftext_len hp hq
  have h2 := ftext_len hr hs
  have h3 := uv_len10 (n := (nb (ftext p q)).length) (by rw [nb_len]; omega)
  have h4 := uv_len10 (n := (nb (ftext r s)).length) (by rw [nb_len]; omega)
  unfold encP
  simp only [List.length_append, nb_len] at *
  omega
/-- The order of points given by three numbers each. -/
def pc (X Y D X' Y' D' : Int) : Int := orI (cmpI (X * D') (X' * D)) (cmpI (Y * D') (Y' * D))
theorem cmpPt_mk (X Y X' Y' : Int) {D D' : Int} (hD : 0 < D) (hD' : 0 < D') : cmpPt (mkP X D) (mkQ X D) (mkP Y D) (mkQ Y D) (mkP X' D') (mkQ X' D') (mkP Y' D') (mkQ Y' D') = pc X Y D X' Y' D' := by
  rw [cmpPt, cmp_mk _ _ hD hD', cmp_mk _ _ hD hD']
  rfl
theorem cmpI_tri (x y : Int) : (x < y ∧ cmpI x y = -1) ∨ (x = y ∧ cmpI x y = 0) ∨ (y < x ∧ cmpI x y = 1) := by
  rcases Int.lt_trichotomy x y with h | h | h
  · exact .inl ⟨h, cmpI_lt h⟩
  · exact .inr (.inl ⟨h, cmpI_eq h⟩)
  · exact .inr (.inr ⟨h, cmpI_gt h⟩)
theorem pc_neg (X Y D X' Y' D' : Int) : pc X' Y' D' X Y D = -pc X Y D X' Y' D' := by
  unfold pc orI
  rw [cmpI_swap (X' * D), cmpI_swap (Y' * D)]
  split <;> split <;> omega
theorem pc_rg (X Y D X' Y' D' : Int) : -1 ≤ pc X Y D X' Y' D' ∧ pc X Y D X' Y' D' ≤ 1 := by
  unfold pc orI
  have h1 := cmpI_bd (X * D') (X' * D)
  have h2 := cmpI_bd (Y * D') (Y' * D)
  split <;> omega
theorem mk_divInt {a b c d : Int} (hb : b ≠ 0) (hd : d ≠ 0) : (a * d = c * b) ↔ Rat.divInt a b = Rat.divInt c d := (Rat.divInt_eq_divInt_iff hb hd).symm
theorem ftext_mk {X D : Int} (hD : D ≠ 0) : ftext (mkP X D) (mkQ X D) = rtext (Rat.divInt X D) := by
  unfold rtext
  rw [(mk_rat hD).1, (mk_rat hD).2]
theorem abs_top {z : Int} (h : z.natAbs ≤ 1000000) : z.natAbs < top := small_top (by omega)
theorem pc_zero {X Y D X' Y' D' : Int} (hD : 0 < D) (hD' : 0 < D') (x1 : X.natAbs ≤ 1000000) (y1 : Y.natAbs ≤ 1000000) (d1 : D.natAbs ≤ 1000000) (x2 : X'.natAbs ≤ 1000000) (y2 : Y'.natAbs ≤ 1000000) (d2 : D'.natAbs ≤ 1000000) :
    (pc X Y D X' Y' D' = 0) ↔ encP (ftext (mkP X D) (mkQ X D)) (ftext (mkP Y D) (mkQ Y D)) = encP (ftext (mkP X' D') (mkQ X' D')) (ftext (mkP Y' D') (mkQ Y' D')) := by
  have n1 : D ≠ 0 := by omega
  have n2 : D' ≠ 0 := by omega
  have f1 := divInt_fits (abs_top x1) (abs_top d1) n1
  have f2 := divInt_fits (abs_top y1) (abs_top d1) n1
  have f3 := divInt_fits (abs_top x2) (abs_top d2) n2
  have f4 := divInt_fits (abs_top y2) (abs_top d2) n2
  rw [ftext_mk n1, ftext_mk n1, ftext_mk n2, ftext_mk n2]
  have e : pc X Y D X' Y' D' = 0 ↔ X * D' = X' * D ∧ Y * D' = Y' * D := by
    unfold pc orI
    rcases cmpI_tri (X * D') (X' * D) with ⟨h, k⟩ | ⟨h, k⟩ | ⟨h, k⟩ <;> rcases cmpI_tri (Y * D') (Y' * D) with ⟨h2, k2⟩ | ⟨h2, k2⟩ | ⟨h2, k2⟩ <;> rw [k, k2] <;> simp <;> omega
  rw [e, mk_divInt n1 n2, mk_divInt n1 n2]
  constructor
  · rintro ⟨h1, h2⟩
    rw [h1, h2]
  · intro h
    have l1 := ftext_len f1.1 f1.2
    have l2 := ftext_len f2.1 f2.2
    have l3 := ftext_len f3.1 f3.2
    have l4 := ftext_len f4.1 f4.2
    obtain ⟨h1, h2⟩ := encP_inj (by unfold rtext; omega) (by unfold rtext; omega) (by unfold rtext; omega) (by unfold rtext; omega) h
    exact ⟨rtext_inj f1 f3 h1, rtext_inj f2 f4 h2⟩
theorem le_chain {x y z a b c : Int} (ha : 0 < a) (hb : 0 < b) (hc : 0 < c) (h1 : x * b ≤ y * a) (h2 : y * c ≤ z * b) : x * c ≤ z * a ∧ (x * c = z * a → x * b = y * a ∧ y * c = z * b) := by
  have k1 : x * b * c ≤ y * a * c := Int.mul_le_mul_of_nonneg_right h1 (by omega)
  have k2 : y * c * a ≤ z * b * a := Int.mul_le_mul_of_nonneg_right h2 (by omega)
  have e1 : y * a * c = y * c * a := Int.mul_right_comm _ _ _
  have e2 : x * b * c = x * c * b := Int.mul_right_comm _ _ _
  have e3 : z * b * a = z * a * b := Int.mul_right_comm _ _ _
  have k3 : x * c * b ≤ z * a * b := by omega
  refine ⟨Int.le_of_mul_le_mul_right k3 hb, fun h => ?_⟩
  rw [← h] at e3
  have k4 : x * b * c = y * a * c := by omega
  have k5 : y * c * a = z * b * a := by omega
  exact ⟨Int.eq_of_mul_eq_mul_right (by omega) k4, Int.eq_of_mul_eq_mul_right (by omega) k5⟩
theorem pc_le {X Y D X' Y' D' : Int} : pc X Y D X' Y' D' ≤ 0 ↔ X * D' ≤ X' * D ∧ (X * D' = X' * D → Y * D' ≤ Y' * D) := by
  unfold pc orI
  rcases cmpI_tri (X * D') (X' * D) with ⟨h, k⟩ | ⟨h, k⟩ | ⟨h, k⟩ <;> rcases cmpI_tri (Y * D') (Y' * D) with ⟨h2, k2⟩ | ⟨h2, k2⟩ | ⟨h2, k2⟩ <;> rw [k, k2] <;> simp <;> omega
theorem pc_trans {X Y D X' Y' D' X'' Y'' D'' : Int} (hD : 0 < D) (hD' : 0 < D') (hD'' : 0 < D'') (h1 : pc X Y D X' Y' D' ≤ 0) (h2 : pc X' Y' D' X'' Y'' D'' ≤ 0) : pc X Y D X'' Y'' D'' ≤ 0 := by
  rw [pc_le] at *
  obtain ⟨c1, c2⟩ := le_chain hD hD' hD'' h1.1 h2.1
  refine ⟨c1, fun e => ?_⟩
  obtain ⟨e1, e2⟩ := c2 e
  exact (le_chain hD hD' hD'' (h1.2 e1) (h2.2 e2)).1
/-! ### The reference -/
theorem sign5_any (n : Int) (w : World) : Calls Tryz.prog 24 #[.int .i64 n] w (RetInt w (cmpI n 0)) := by
  rcases cmpI_tri n 0 with ⟨h, k⟩ | ⟨h, k⟩ | ⟨h, k⟩
  · rw [k]
    go_enter Tryz.func24, Tryz.ntmps24
    go_wp2
    go_returns
    exact ⟨rfl, Below.refl _ _⟩
  · rw [k]
    subst h
    go_enter Tryz.func24, Tryz.ntmps24
    go_wp2
    go_returns
    exact ⟨rfl, Below.refl _ _⟩
  · rw [k]
    have h2 : ¬ n < 0 := by omega
    go_enter Tryz.func24, Tryz.ntmps24
    go_wp2
    go_returns
    exact ⟨rfl, Below.refl _ _⟩
set_option maxRecDepth 100000 in
set_option maxHeartbeats 1600000 in
theorem RCompare_any (X Y D X' Y' D' : Int) (w : World) (h1 : X.natAbs ≤ 1000000) (h2 : Y.natAbs ≤ 1000000) (h3 : 0 < D) (h4 : D ≤ 1000000) (k1 : X'.natAbs ≤ 1000000) (k2 : Y'.natAbs ≤ 1000000) (k3 : 0 < D') (k4 : D' ≤ 1000000) :
    Calls Tryz.prog 10 #[.agg #[.int .i64 X, .int .i64 Y, .int .i64 D], .agg #[.int .i64 X', .int .i64 Y', .int .i64 D']] w (RetInt w (pc X Y D X' Y' D')) := by
  have mb : ∀ a b : Int, a.natAbs ≤ 1000000 → b.natAbs ≤ 1000000 → -1000000000000 ≤ a * b ∧ a * b ≤ 1000000000000 := fun a b ha hb => by
    have h := Nat.mul_le_mul ha hb
    rw [← Int.natAbs_mul] at h
    omega
  have m1 := mb X D' h1 (by omega)
  have m2 := mb X' D k1 (by omega)
  have m3 := mb Y D' h2 (by omega)
  have m4 := mb Y' D k2 (by omega)
  obtain ⟨c, hc⟩ : ∃ c, cmpI (X * D') (X' * D) = c := ⟨_, rfl⟩
  obtain ⟨d, hd⟩ : ∃ d, cmpI (Y * D') (Y' * D) = d := ⟨_, rfl⟩
  have HS1 : Hid (∀ u, Calls Tryz.prog 24 #[.int .i64 (X * D' - X' * D)] u (RetInt u c)) := Lib.hid fun u => by
    have := sign5_any (X * D' - X' * D) u
    rwa [cmpI_sub (c := X * D') (d := X' * D) (by omega), hc] at this
  have HS2 : Hid (∀ u, Calls Tryz.prog 24 #[.int .i64 (Y * D' - Y' * D)] u (RetInt u d)) := Lib.hid fun u => by
    have := sign5_any (Y * D' - Y' * D) u
    rwa [cmpI_sub (c := Y * D') (d := Y' * D) (by omega), hd] at this
  have HP : pc X Y D X' Y' D' = if c = 0 then d else c := by unfold pc orI; rw [hc, hd]
  rw [HP]
  clear HP hc hd mb h1 h2 h3 h4 k1 k2 k3 k4
  by_cases h0 : c = 0
  all_goals go_enter Tryz.func10, Tryz.ntmps10
  all_goals go_upto_region 1 with fail
  all_goals refine wp_new2 fun W hS hT hB => ?_
  all_goals obtain ⟨r0, r1, r2⟩ := hS.rules3
  all_goals obtain ⟨s0, s1, s2⟩ := hT.rules3
  all_goals have hW := Below.refl W.heap.size W
  all_goals go_wp2_with fail
  all_goals refine (HS1.out _).mono ?_
  all_goals rintro e w2 ⟨rfl, k5⟩
  all_goals have hW2 := Below.call hW k5
  · subst h0
    have HB := Lib.hid (Below.call hB k5)
    go_wp2_with fail
    refine (HS2.out _).mono ?_
    rintro e w3 ⟨rfl, k6⟩
    replace HB := Lib.hid (Below.call HB.out k6)
    go_wp2
    go_returns
    exact ⟨rfl, HB.out⟩
  · have HB := Lib.hid (Below.call hB k5)
    go_wp2
    go_returns
    exact ⟨rfl, HB.out⟩
/-! ### Bytes -/
theorem BIs.get {w : World} {B : Nat} {A : Option Addr} {c : Nat} {l : List Nat} (h : BIs w B A c l) (h0 : 0 < l.length) : ∃ g off, A = some ⟨g, off, none⟩ ∧ g < B ∧ l.length ≤ c ∧ ∀ j (x : Nat), l[j]? = some x → w.cell? ⟨g, off + j, none⟩ = some (.int .u8 (x : Int)) := by
  rcases h with ⟨_, rfl, _⟩ | ⟨g, off, h1, h2, h3, h4⟩
  · exact absurd h0 (by simp)
  · exact ⟨g, off, h1, h2, h3, fun j x hx => h4 j _ (by simp [u8s, hx])⟩
set_option maxRecDepth 100000 in
set_option maxHeartbeats 1600000 in
theorem SameBytes_any (A A' : Option Addr) (c c' : Nat) (l l' : List Nat) (w : World) (h : BIs w w.heap.size A c l) (h' : BIs w w.heap.size A' c' l') (hl : l.length ≤ 1000000000) (hl' : l'.length ≤ 1000000000) :
    Calls Tryz.prog 8 #[.slice A l.length c, .slice A' l'.length c'] w (RetB w (decide (l = l'))) := by
  obtain ⟨n, hn⟩ : ∃ n, l.length = n := ⟨_, rfl⟩
  obtain ⟨n', hn'⟩ : ∃ n, l'.length = n := ⟨_, rfl⟩
  rw [hn] at hl
  rw [hn'] at hl'
  rw [hn, hn']
  obtain ⟨bb, hbb⟩ : ∃ b, decide (l = l') = b := ⟨_, rfl⟩
  have HBB := Lib.hid hbb
  rw [hbb]
  clear hbb
  by_cases he : n = n'
  · subst he
    have HN := Lib.hid (And.intro hn hn')
    have HH := Lib.hid (And.intro h h')
    clear hn hn' h h' hl'
    go_enter Tryz.func8, Tryz.ntmps8
    go_wp2_with fail
    go_loopw [5] (fun s wr => ∃ i : Nat, i ≤ n ∧ s = .int .i64 (i : Int) ∧ l.take i = l'.take i ∧ Below w.heap.size w wr) (fun s _ => n - (intOf s).toNat)
    case atStart => exact ⟨0, by omega, rfl, by simp, Below.refl _ _⟩
    case round =>
      obtain ⟨i, hi, rfl, htk, hbw⟩ := hrel
      rcases Nat.lt_or_eq_of_le hi with hlt | heq
      · have i0 : (0 : Int) ≤ (i : Int) := by omega
        have i1 : (i : Int) < (n : Int) := by omega
        obtain ⟨hn, hn'⟩ := HN.out
        obtain ⟨g, off, rfl, _, hc, hg⟩ := (HH.out.1.on hbw).get (by omega)
        obtain ⟨g', off', rfl, _, hc', hg'⟩ := (HH.out.2.on hbw).get (by omega)
        obtain ⟨a, ha⟩ : ∃ a, l[i]? = some a := ⟨_, List.getElem?_eq_getElem (by omega)⟩
        obtain ⟨b, hb⟩ : ∃ b, l'[i]? = some b := ⟨_, List.getElem?_eq_getElem (by omega)⟩
        have x1 := hg i a ha
        have x2 := hg' i b hb
        have HT := Lib.hid (And.intro (show l.take (i + 1) = l.take i ++ [a] by rw [List.take_add_one, ha]; rfl) (show l'.take (i + 1) = l'.take i ++ [b] by rw [List.take_add_one, hb]; rfl))
        rw [hn] at hc
        rw [hn'] at hc'
        have HI := Lib.hid (And.intro ha hb)
        have HTK := Lib.hid htk
        clear hg hg' ha hb hn hn' htk
        by_cases hab : a = b
        · subst hab
          go_wp2_with fail
          go_region
          go_wp2_with fail
          go_roundw
          case rel => exact ⟨i + 1, by omega, by go_num, by rw [HT.out.1, HT.out.2, HTK.out], Below.drew hbw⟩
          case measure => simp [intOf]; omega
        · have hab2 : ¬ ((a : Int) = (b : Int)) := by omega
          have hd : bb = false := HBB.out.symm.trans (decide_eq_false fun e => by
            subst e
            have := HI.out.1.symm.trans HI.out.2
            injection this with this
            exact hab this)
          subst hd
          go_wp2_with fail
          go_region
          go_wp2
          go_returns
          exact ⟨rfl, Below.drew hbw⟩
      · subst heq
        have hd : bb = true := HBB.out.symm.trans (decide_eq_true (by
          have h1 := HN.out
          rw [List.take_of_length_le (by omega), List.take_of_length_le (by omega)] at htk
          exact htk))
        subst hd
        clear htk
        go_wp2
        go_returns
        exact ⟨rfl, hbw⟩
  · have hd : bb = false := HBB.out.symm.trans (decide_eq_false fun e => he (by rw [← hn, ← hn', e]))
    subst hd
    have he2 : ¬ ((n : Int) = (n' : Int)) := by omega
    clear hn hn' h h'
    go_enter Tryz.func8, Tryz.ntmps8
    go_wp2
    go_returns
    exact ⟨rfl, Below.refl _ _⟩
theorem WAt.on {b : Nat} {l : List Nat} {w w' : World} (h : WAt b l w) (hb : Below w.heap.size w w') : WAt b l w' := by
  obtain ⟨v, h1, h2⟩ := h
  exact ⟨v, h1.on hb, owns_on h2 hb⟩
theorem BIs.mono {w : World} {B B' : Nat} {A : Option Addr} {c : Nat} {l : List Nat} (h : BIs w B A c l) (hB : B ≤ B') : BIs w B' A c l := by
  rcases h with h | ⟨g, off, h1, h2, h3⟩
  · exact .inl h
  · exact .inr ⟨g, off, h1, Nat.lt_of_lt_of_le h2 hB, h3⟩
theorem conv_bis_to (w : World) (s : ByteArray) : ∃ V A c, (convert 9 36 (.string s)).run Tryz.prog w = .ok (.slice A (sbs s).length c) V ∧ Below w.heap.size w V ∧ BIs V V.heap.size A c (sbs s) := by
  have hr : (convert 9 36 (.string s)).run Tryz.prog w = .ok (.slice (some ⟨w.heap.size, 0, none⟩) (sbs s).length (grownCap w s.size 0 5)) (Lib.bytesWorld w 5 s) := by
    rw [sbs_len]
    exact Lib.run_convert_string_bytes w 9 36 5 s Tryz.underlying9 Tryz.underlying36 Tryz.underlying5
  refine ⟨_, _, _, hr, ?_, ?_⟩
  · refine ⟨rfl, rfl, rfl, ?_, fun k hk => Lib.bytesWorld_at_old w _ s k hk⟩
    simp [Lib.bytesWorld, World.freeze]
  · have hn := Lib.bytesWorld_at_new w 5 s
    refine .inr ⟨w.heap.size, 0, rfl, ?_, by rw [sbs_len]; exact grownCap_ge w s.size 0 _, fun j x hx => ?_⟩
    · simp [Lib.bytesWorld, World.freeze]
    · have hj : j < (sbs s).length := by rw [← u8s_len]; exact (List.getElem?_eq_some_iff.1 hx).1
      rw [u8s_sbs] at hx
      have hl : j < (Lib.strCells s).length := (List.getElem?_eq_some_iff.1 hx).1
      rw [Nat.zero_add]
      have : (Lib.bytesCells w 5 s)[j]? = some x := by
        rw [← Array.getElem?_toList]
        simp only [Lib.bytesCells, Array.toList_append, Array.toList_map]
        rw [List.getElem?_append_left (by simpa [Lib.strCells] using hl)]
        exact hx
      simpa [World.cell?, hn] using this
theorem sbs_strB {l : List Nat} (h : ∀ c ∈ l, c < 256) : sbs (strB l) = l := by
  unfold sbs strB
  simp only [List.map_map]
  conv => rhs; rw [← List.map_id l]
  exact List.map_congr_left fun x hx => by simp [Nat.mod_eq_of_lt (h x hx)]
set_option maxRecDepth 100000 in
set_option maxHeartbeats 1600000 in
theorem wRaw (b : Nat) (l m : List Nat) (A : Option Addr) (c : Nat) (w : World) (h : WAt b l w) (hm : BIs w w.heap.size A c m) (hb : ∀ c ∈ m, c < 256) (hlen : l.length + m.length + 20 ≤ 140737488355328) :
    Calls Tryz.prog 12 #[.pointer (some ⟨b, 0, none⟩), .slice A m.length c] w fun e w' => e = .returned (.tuple #[]) ∧ WAt b (l ++ uv m.length ++ m) w' ∧ Below b w w' := by
  have hcv : (convert 36 9 (.slice A m.length c)).run Tryz.prog w = .ok (.string (strB m)) w := conv_bis hm
  have hs : sbs (strB m) = m := sbs_strB hb
  have hsz : (strB m).size = m.length := by rw [← sbs_len, hs]
  have HT := Lib.hid (wText b l (strB m) w h (by omega))
  rw [hs, hsz] at HT
  clear hs hsz hm h
  go_enter Tryz.func12, Tryz.ntmps12
  go_wp2_with fail
  refine HT.out.mono ?_
  rintro e w1 ⟨rfl, h1, h2⟩
  have HF := Lib.hid (And.intro h1 h2)
  clear h1 h2 hcv
  go_wp2
  exact bodyPost_end (results_none Tryz.results12 _ _ _) rfl ⟨rfl, HF.out.1, HF.out.2⟩
theorem sbs_nb {l : List UInt8} : sbs (⟨l.toArray⟩ : ByteArray) = nb l := rfl
theorem nb_byte (l : List UInt8) : ∀ c ∈ nb l, c < 256 := fun c hc => by
  obtain ⟨x, _, rfl⟩ := List.mem_map.1 hc
  exact x.toNat_lt
/-- The bytes l are returned, in a new block. -/
def RetBI (w : World) (l : List Nat) (e : Ending) (w' : World) : Prop := ∃ A c, e = .returned (.slice A l.length c) ∧ BIs w' w'.heap.size A c l ∧ Below w.heap.size w w'
set_option maxRecDepth 100000 in
set_option maxHeartbeats 3200000 in
theorem Encode_any {a : PV} {p q r s : Int} {w : World} (ha : a.is w p q r s) (ht : Tab w) : Calls Tryz.prog 9 #[.agg #[.bool a.x.p.neg, .slice a.x.p.A a.x.p.n a.x.p.c, .bool a.x.l.neg, .slice a.x.l.A a.x.l.n a.x.l.c, .bool a.y.p.neg, .slice a.y.p.A a.y.p.n a.y.p.c, .bool a.y.l.neg, .slice a.y.l.A a.y.l.n a.y.l.c]] w (RetBI w (encP (ftext p q) (ftext r s))) := by
  have f1 := ftext_len ha.x.num.fits ha.x.fits
  have f2 := ftext_len ha.y.num.fits ha.y.fits
  obtain ⟨t1, ht1⟩ : ∃ t : ByteArray, t = ⟨(ftext p q).toArray⟩ := ⟨_, rfl⟩
  obtain ⟨t2, ht2⟩ : ∃ t : ByteArray, t = ⟨(ftext r s).toArray⟩ := ⟨_, rfl⟩
  obtain ⟨m1, hm1⟩ : ∃ m, nb (ftext p q) = m := ⟨_, rfl⟩
  obtain ⟨m2, hm2⟩ : ∃ m, nb (ftext r s) = m := ⟨_, rfl⟩
  have HT1 := Lib.hid (show sbs t1 = m1 by rw [ht1, ← hm1]; rfl)
  have HT2 := Lib.hid (show sbs t2 = m2 by rw [ht2, ← hm2]; rfl)
  have HB1 := Lib.hid (show ∀ c ∈ m1, c < 256 by rw [← hm1]; exact nb_byte _)
  have HB2 := Lib.hid (show ∀ c ∈ m2, c < 256 by rw [← hm2]; exact nb_byte _)
  have hl1 : m1.length ≤ 10001 := by rw [← hm1, nb_len]; exact f1
  have hl2 : m2.length ≤ 10001 := by rw [← hm2, nb_len]; exact f2
  have HS1 : Hid (∀ u, a.is u p q r s → Tab u → Calls Tryz.prog 13 #[.agg #[.bool a.x.p.neg, .slice a.x.p.A a.x.p.n a.x.p.c, .bool a.x.l.neg, .slice a.x.l.A a.x.l.n a.x.l.c]] u (fun e w9 => e = .returned (.string t1) ∧ Below u.heap.size u w9)) := Lib.hid fun u h1 h2 => by rw [ht1]; exact FString_any h1.x h2
  have HS2 : Hid (∀ u, a.is u p q r s → Tab u → Calls Tryz.prog 13 #[.agg #[.bool a.y.p.neg, .slice a.y.p.A a.y.p.n a.y.p.c, .bool a.y.l.neg, .slice a.y.l.A a.y.l.n a.y.l.c]] u (fun e w9 => e = .returned (.string t2) ∧ Below u.heap.size u w9)) := Lib.hid fun u h1 h2 => by rw [ht2]; exact FString_any h1.y h2
  obtain ⟨l2, hE⟩ : ∃ l2, encP (ftext p q) (ftext r s) = l2 := ⟨_, rfl⟩
  have HE := Lib.hid (show [] ++ uv m1.length ++ m1 ++ uv m2.length ++ m2 = l2 by rw [← hE, ← hm1, ← hm2]; simp [encP])
  rw [hE]
  clear hE hm1 hm2 ht1 ht2 f1 f2
  go_enter Tryz.func9, Tryz.ntmps9
  go_upto_region 1 with fail
  refine wp_new1 fun V0 hO hB => ?_
  go_upto_region 2 with fail
  refine wp_new1 fun V1 hW hb => ?_
  obtain ⟨b0, e_⟩ : ∃ b0, b0 = V0.heap.size := ⟨_, rfl⟩
  obtain ⟨g0, eg⟩ : ∃ g0, g0 = w.heap.size := ⟨_, rfl⟩
  have hbx : Below b0 V0 V1 := by rw [e_]; exact hb
  rw [← e_] at hW ⊢
  rw [← eg] at hO ⊢
  replace hW : WAt b0 [] V1 := ⟨_, hW, World.ownsRow_nil _ _ _ _⟩
  have HF3 : Hid (∀ u, Below b0 V0 u → a.is u p q r s ∧ Tab u ∧ Own u g0 _ _) := Lib.hid fun u hu => by rw [e_] at hu; exact ⟨(ha.on hB).on hu, (ht.on hB).on hu, hO.on hu⟩
  have HB9 : Hid (∀ u, Below b0 V0 u → Below w.heap.size w u) := Lib.hid fun u hu => by rw [e_] at hu; exact Below.call hB hu
  clear hb e_ eg hO ha ht hB
  obtain ⟨hX1, hT1, hO1⟩ := HF3.out _ hbx
  obtain ⟨c_0, c_1, c_2, c_3, c_4, c_5, c_6, c_7, _⟩ := hO1.all8
  go_wp2_with fail
  refine (HS1.out _ hX1 hT1).mono ?_
  rintro e u1 ⟨rfl, k1⟩
  clear c_0 c_1 c_2 c_3 c_4 c_5 c_6 c_7 hX1 hT1 hO1
  have hlt := hW.lt
  obtain ⟨v1, A1, c1, hcv, k2, hbi⟩ := conv_bis_to u1 t1
  rw [HT1.out] at hcv hbi
  have kk := Below.call k1 k2
  replace hW := hW.on kk
  replace hbx := hbx.trans (kk.mono (Nat.le_of_lt hlt))
  clear k1 k2 kk hlt
  go_wp2_with fail
  refine (wRaw b0 [] m1 A1 c1 _ hW hbi HB1.out (by simp only [List.length_nil]; have := uv_len10 (n := m1.length) (by omega); omega)).mono ?_
  rintro e V2 ⟨rfl, hW2, k2⟩
  replace hbx := hbx.trans k2
  replace hW := hW2
  clear hW2 hbi hcv k2
  obtain ⟨hX2, hT2, hO2⟩ := HF3.out _ hbx
  obtain ⟨c_0, c_1, c_2, c_3, c_4, c_5, c_6, c_7, _⟩ := hO2.all8
  go_wp2_with fail
  refine (HS2.out _ hX2 hT2).mono ?_
  rintro e u2 ⟨rfl, k1⟩
  clear c_0 c_1 c_2 c_3 c_4 c_5 c_6 c_7 hX2 hT2 hO2
  have hlt := hW.lt
  obtain ⟨v2, A2, c2, hcv, k2, hbi⟩ := conv_bis_to u2 t2
  rw [HT2.out] at hcv hbi
  have kk := Below.call k1 k2
  replace hW := hW.on kk
  replace hbx := hbx.trans (kk.mono (Nat.le_of_lt hlt))
  clear k1 k2 kk hlt
  go_wp2_with fail
  refine (wRaw b0 ([] ++ uv m1.length ++ m1) m2 A2 c2 _ hW hbi HB2.out (by simp only [List.length_append, List.length_nil]; have := uv_len10 (n := m1.length) (by omega); omega)).mono ?_
  rintro e V3 ⟨rfl, hW2, k2⟩
  replace hbx := hbx.trans k2
  replace hW := hW2
  clear hW2 hbi hcv k2
  rw [HE.out] at hW
  have u1 := uv_len10 (n := m1.length) (by omega)
  have u2 := uv_len10 (n := m2.length) (by omega)
  have hlen : l2.length ≤ 140737488355328 := by rw [← HE.out]; simp only [List.length_append, List.length_nil]; omega
  have hlt := hW.lt
  clear u1 u2 HE HB1 HB2 HT1 HT2 HS1 HS2 HF3 hl1 hl2
  go_wp2_with fail
  refine (wDone b0 l2 _ hW hlen).mono ?_
  rintro e V4 ⟨A3, c3, rfl, h1, k1⟩
  have HF := Lib.hid (And.intro h1 (HB9.out _ (hbx.trans (k1.mono (Nat.le_of_lt hlt)))))
  clear h1 k1 hbx hW hlen HB9
  go_wp2
  go_returns
  exact ⟨A3, c3, rfl, HF.out.1, HF.out.2⟩
/-- The same, or an empty slice at whatever place. -/
def BIv (w : World) (B : Nat) (A : Option Addr) (c : Nat) (l : List Nat) : Prop := BIs w B A c l ∨ (l = [] ∧ c = 0 ∧ ∃ a, A = some a)
theorem BIv.on {w w' : World} {B : Nat} {A : Option Addr} {c : Nat} {l : List Nat} (h : BIv w B A c l) (hb : Below B w w') : BIv w' B A c l := h.imp (fun h => h.on hb) id
theorem BIv.mono {w : World} {B B' : Nat} {A : Option Addr} {c : Nat} {l : List Nat} (h : BIv w B A c l) (hB : B ≤ B') : BIv w B' A c l := h.imp (fun h => h.mono hB) id
end Go.Proofs.YtfbbnphpapmpcaaGreatDoor
