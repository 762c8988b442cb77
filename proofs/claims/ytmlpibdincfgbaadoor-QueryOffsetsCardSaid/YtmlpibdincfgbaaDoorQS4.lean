/-
  Chapter 38's law QueryOffsets.
-/
import Derived.Test.YtmlpibdincfgbaaDoorQS1
import Derived.Test.YtmlpibdincfgbaaDoorQS2
namespace Go.Proofs.YtmlpibdincfgbaaDoor
open Go.RowKit
set_option linter.unusedSimpArgs false
set_option linter.unusedVariables false

theorem bs_eta' (b : ByteArray) : bs b.data.toList = b := by cases b; rfl
theorem goodQ_len' {q : Qy.Qry} (hq : GoodQ q) : (Qy.printT q).length ≤ 4000 := by
  obtain ⟨⟨y, hmp⟩, hk, hd, hs, hvk⟩ := hq
  obtain ⟨h1, h2, _⟩ := view_parts hvk
  exact Qy.made_query hmp ⟨by omega, by omega⟩ ⟨by omega, by omega⟩ ⟨by omega, by omega⟩ ⟨by omega, by omega⟩ ⟨by omega, fun n hn => by have := h2 n hn; omega⟩
theorem ext_take (W : Qy.Bs) (k : Nat) : (bs W).extract 0 k = bs (W.take k) := by
  have h : ((bs W).extract 0 k).data.toList = W.take k := by simp [bs, ByteArray.data_extract]
  exact str_eq h
theorem bs_cat (a b : Qy.Bs) : bs a ++ bs b = bs (a ++ b) := by
  have h : (bs a ++ bs b).data.toList = a ++ b := by simp [bs]
  exact str_eq h
theorem no_step {T : List Qy.Tok} {i px : Nat} {t : Qy.Tok} (h : ∀ (j : Nat) (t : Qy.Tok), j < i → T[j]? = some t → t.text = [] ∨ t.at_ ≠ px) (ht : T[i]? = some t) (hx : t.text = [] ∨ t.at_ ≠ px) : ∀ (j : Nat) (t : Qy.Tok), j < i + 1 → T[j]? = some t → t.text = [] ∨ t.at_ ≠ px := by
  intro j t2 hj h2
  rcases Nat.lt_or_eq_of_le (Nat.le_of_lt_succ hj) with k | k
  · exact h j t2 k h2
  · subst k
    rw [ht] at h2
    cases h2
    exact hx
set_option maxRecDepth 100000 in
set_option maxHeartbeats 6400000 in
theorem QueryOffsets_any {w : World} {A B : Option Addr} {l m : List Int} {c d : Nat} {at_ how : Int} (k0 : IntsIs w A l c) (b1 : in64 at_) (b2 : in64 how) (k3 : IntsIs w B m d) :
    Calls Tryd.prog 5 #[.slice A l.length c, .int .i64 at_, .int .i64 how, .slice B m.length d] w (RetB w true) := by
  have HL0 := Lib.hid fun u => lives_any u
  have HSo := Lib.hid (Some_any k0)
  have HSo2 := Lib.hid fun u (k : Below w.heap.size w u) => Some_any (k3.on k)
  obtain ⟨L, hL⟩ : ∃ L, l.length = L := ⟨_, rfl⟩
  obtain ⟨M, hM⟩ : ∃ M, m.length = M := ⟨_, rfl⟩
  rw [hL] at HSo
  rw [hM] at HSo2
  rw [hL, hM]
  clear hL hM k0 k3
  have HB12 := Lib.hid (And.intro b1 b2)
  clear b1 b2
  go_enter Tryd.func5, Tryd.ntmps5
  go_wp2_with fail
  refine HSo.out.mono ?_
  rintro e w1 ⟨q, v, rfl, hB1, hq, hg⟩
  have HPr := Lib.hid (rPrint_ok q hg v w1 hq.isQry)
  have hlen := goodQ_len' hg
  obtain ⟨s1, hs1⟩ : ∃ s, Qy.printT q = s := ⟨_, rfl⟩
  rw [hs1] at hlen HPr
  clear hs1 hq hg HSo
  go_wp2_with fail
  refine HPr.out.mono ?_
  rintro e w2 ⟨t, rfl, hB2, ht⟩
  have htb : t = bs s1 := ht
  subst htb
  have hB2w := Below.call hB1 hB2
  clear ht hB1 hB2 HPr
  have HSo3 := Lib.hid (HSo2.out _ hB2w)
  go_wp2_with fail
  refine HSo3.out.mono ?_
  rintro e w3 ⟨q2, v2, rfl, hB3, hq2, hg2⟩
  have HPr := Lib.hid (rPrint_ok q2 hg2 v2 w3 hq2.isQry)
  have hlen2 := goodQ_len' hg2
  obtain ⟨s2, hs2⟩ : ∃ s, Qy.printT q2 = s := ⟨_, rfl⟩
  rw [hs2] at hlen2 HPr
  have hB3w := Below.call hB2w hB3
  clear hs2 hq2 hg2 HSo2 HSo3 hB2w hB3
  go_wp2_with fail
  refine HPr.out.mono ?_
  rintro e w4 ⟨t, rfl, hB4, ht⟩
  have htb : t = bs s2 := ht
  subst htb
  have hB4w := Below.call hB3w hB4
  have HW := Lib.hid (Wrong_any s1 (by omega) at_ how HB12.out.1 HB12.out.2 w4)
  clear ht hB3w hB4 HPr HB12
  go_wp2_with fail
  refine HW.out.mono ?_
  rintro e w5 ⟨t2, rfl, hB5, ht2⟩
  obtain ⟨W, hW⟩ : ∃ W : Qy.Bs, t2 = bs W := ⟨t2.data.toList, (bs_eta' t2).symm⟩
  subst hW
  rw [bs_size] at ht2
  have hWl : W.length ≤ 20000 := by omega
  have hB5w := Below.call hB4w hB5
  have HQ : Hid (∀ u, Calls Tryd.prog 9 #[.string (bs W)] u (ParseR u (Qy.parse W))) := Lib.hid fun u => qParse W u (by omega)
  obtain ⟨P1, hP1⟩ : ∃ P, Qy.parse W = P := ⟨_, rfl⟩
  have HP1 := Lib.hid hP1
  rw [hP1] at HQ
  obtain ⟨Q0, px, g⟩ := P1
  clear HW hB4w hB5 ht2 hP1
  go_wp2_with fail
  refine (HQ.out _).mono ?_
  rintro e w6 ⟨v, rfl, hq, hb6⟩
  obtain ⟨an0, as1, an2, an3, an4, an5, an6, an7, aA8, al8, ac8, avA, avl, avc, rfl, hvl, _⟩ := hq.lit
  have hB6w := Below.call hB5w hb6
  simp only at hvl ⊢
  clear hq hb6 hB5w hvl HQ
  go_upto_region 7 with fail
  refine wp_new1 fun W2 hOa kn => ?_
  have HB7 := Lib.hid (Below.call hB6w kn)
  clear hB6w kn hOa
  by_cases hgg : g = 2 ∨ g = 5 ∨ g = 6 ∨ g = 8
  rotate_left
  · have a2 : ¬ g = 2 := fun e => hgg (.inl e)
    have a5 : ¬ g = 5 := fun e => hgg (.inr (.inl e))
    have a6 : ¬ g = 6 := fun e => hgg (.inr (.inr (.inl e)))
    have a8 : ¬ g = 8 := fun e => hgg (.inr (.inr (.inr e)))
    have c2 : (g != 2) = true := by simp [a2]
    have c5 : (g != 5) = true := by simp [a5]
    have c6 : (g != 6) = true := by simp [a6]
    have c8 : (g != 8) = true := by simp [a8]
    go_wp2_with fail
    refine (HL0.out _).mono ?_
    rintro e w9 ⟨rfl, k9⟩
    have HF := Lib.hid (Below.call HB7.out k9)
    clear k9
    go_wp2
    go_returns
    exact ⟨by simp, HF.out⟩
  have h4 : (Qy.parse W).2.2 ≠ 4 := by rw [HP1.out]; show g ≠ 4; omega
  have h0 : (Qy.parse W).2.2 ≠ 0 := by rw [HP1.out]; show g ≠ 0; omega
  have hWs : W.length ≤ 4096 := by
    rcases Nat.lt_or_ge 4096 W.length with h | h
    · exfalso
      unfold Qy.parse at h4
      rw [if_pos h] at h4
      exact h4 rfl
    · exact h
  have HAt := Lib.hid (Qy.parse_at hWs h4 h0)
  have HCut := Lib.hid fun (pre post : List Qy.Tok) (t : Qy.Tok) (ht : Qy.toks W 0 = pre ++ t :: post) (hne : t.text ≠ []) (hx : (Qy.parse W).2.1 = t.at_) => Qy.parse_cut hWs ht hne hx h4 h0
  rw [HP1.out] at HAt HCut
  have HTk := Lib.hid (tokens_any W (by omega))
  have htp := toks_pos W
  obtain ⟨T, hT⟩ : ∃ T, Qy.toks W 0 = T := ⟨_, rfl⟩
  rw [hT] at HAt HCut HTk htp
  obtain ⟨n, hn⟩ : ∃ n, T.length = n := ⟨_, rfl⟩
  rw [hn] at HTk htp
  have HN := Lib.hid hn
  have hnb : n ≤ 100001 := by omega
  have hbW := bs_size W
  obtain ⟨wz, hwz⟩ : ∃ wz, (bs W).size = wz := ⟨_, rfl⟩
  have HWZ : Hid (W.length = wz) := Lib.hid (by rw [← hbW, hwz])
  have hwzb : wz ≤ 4096 := by rw [← hwz, hbW]; exact hWs
  have hgcase : Hid (g = 2 ∨ g = 5 ∨ g = 6 ∨ g = 8) := Lib.hid hgg
  clear hT hn h4 h0 hWs hWl hbW htp HP1 hgg
  have HREST : Hid True := Lib.hid trivial
  rcases hgcase.out with rfl | rfl | rfl | rfl
  ·
    clear hgcase HREST
    go_wp2_with fail
    refine (HTk.out _).mono ?_
    rintro e w8 ⟨A1, c1, rfl, hB8, hTk⟩
    have HS := Lib.hid (And.intro (Below.call HB7.out hB8) hTk)
    clear hB8 hTk HTk HB7
    go_wp2_with fail
    go_loopw [18] (fun s wr => ∃ i : Nat, i ≤ n ∧ s = .int .i64 (i : Int) ∧ (∀ (j : Nat) (t : Qy.Tok), j < i → T[j]? = some t → t.text = [] ∨ t.at_ ≠ px) ∧ Below w.heap.size w wr ∧ TkAt wr A1 T) (fun s _ => n - (intOf s).toNat)
    case atStart => exact ⟨0, Nat.zero_le _, rfl, fun j t h => absurd h (Nat.not_lt_zero _), HS.out.1, HS.out.2⟩
    case round =>
      obtain ⟨i, hi, rfl, hno, hB, hTk⟩ := hrel
      clear HS
      have HNo := Lib.hid hno
      clear hno
      rcases Nat.lt_or_eq_of_le hi with hlt | heq
      · have i1 : (i : Int) < (n : Int) := by omega
        obtain ⟨t, ht⟩ : ∃ t, T[i]? = some t := ⟨_, List.getElem?_eq_getElem (by have := HN.out; omega)⟩
        obtain ⟨ga, off, rfl, hgl, hc⟩ := hTk.get (by have := HN.out; omega)
        obtain ⟨y1, y2⟩ := hc i t ht
        have HT := Lib.hid ht
        have HS := Lib.hid (And.intro hB hTk)
        clear hB hTk hgl hc ht
        by_cases ha : t.at_ = px
        rotate_left
        · have haz : ¬ (t.at_ : Int) = (px : Int) := by omega
          have hay : ((t.at_ : Int) != (px : Int)) = true := by simp; omega
          go_wp2_with fail
          clear y1 y2
          go_roundw
          case rel => exact ⟨i + 1, by omega, by go_num, no_step HNo.out HT.out (.inr ha), HS.out.1, HS.out.2⟩
          case measure => simp [intOf]; omega
        subst ha
        by_cases he : t.text = []
        · have hez : ((bs t.text).toList == []) = true := by rw [bs_toList, he]; rfl
          have HE := Lib.hid he
          clear he
          go_wp2_with fail
          clear y1 y2
          go_roundw
          case rel => exact ⟨i + 1, by omega, by go_num, no_step HNo.out HT.out (.inl HE.out), HS.out.1, HS.out.2⟩
          case measure => simp [intOf]; omega
        have hez : ((bs t.text).toList == []) = false := by rw [bs_toList]; simpa using he
        have hspl : T = T.take i ++ t :: T.drop (i + 1) := by
          obtain ⟨h1, h2⟩ := List.getElem?_eq_some_iff.1 HT.out
          rw [← h2, ← List.drop_eq_getElem_cons h1, List.take_append_drop]
        have hcut := HCut.out (T.take i) (T.drop (i + 1)) t hspl he rfl
        obtain ⟨hk1, hk2⟩ := hcut
        clear he
        have HK2 := Lib.hid hk2
        have hbt := bs_size t.text
        obtain ⟨tz, htz⟩ : ∃ tz, (bs t.text).size = tz := ⟨_, rfl⟩
        rw [← hbt, htz, HWZ.out] at hk1
        have HTZ : Hid (t.text.length = tz) := Lib.hid (by rw [← hbt, htz])
        have sA : (0 : Int) ≤ (t.at_ : Int) := by omega
        have sB : (t.at_ : Int) + (tz : Int) ≤ (wz : Int) := by omega
        clear hspl hk2 hbt HCut HAt HNo
        go_upto_region 15 with fail
        clear y1 y2 sA sB
        rw [ext_take]
        have HK3 : Hid (∀ r : Qy.Bs, (∀ d r', r = d :: r' → d = 32) → (W.take (t.at_ + tz) ++ r).length ≤ 4096 → (Qy.parse (W.take (t.at_ + tz) ++ r)).2 = (t.at_, 2)) := Lib.hid fun r h1 h2 => by
          have h3 := HK2.out r h1
          rw [HTZ.out] at h3
          exact h3 h2
        have hBl : (W.take (t.at_ + tz)).length ≤ 4096 := by rw [List.length_take, HWZ.out]; omega
        obtain ⟨Bg, hBg⟩ : ∃ Bg, W.take (t.at_ + tz) = Bg := ⟨_, rfl⟩
        rw [hBg] at HK3 hBl
        rw [hBg]
        have hz1 : (bs Bg).size ≤ 4096 := by rw [bs_size]; exact hBl
        have hz2 : (bs s2).size ≤ 4000 := by rw [bs_size]; exact hlen2
        clear hBg HK2
        go_upto_region 16 with fail
        refine wp_new1 fun W3 hX kn => ?_
        obtain ⟨g20, hg20⟩ : ∃ g, wr.heap.size = g := ⟨_, rfl⟩
        rw [hg20] at hX ⊢
        have hXX : ∃ xs : List Value, Own W3 g20 9 xs ∧ ∀ k, k < 4 → ∃ r : Qy.Bs, xs[k]? = some (.string (bs (Bg ++ r))) ∧ (∀ d r', r = d :: r' → d = 32) ∧ r.length ≤ 4100 := ⟨_, hX, fun k hk => by
          rcases (by omega : k = 0 ∨ k = 1 ∨ k = 2 ∨ k = 3) with rfl | rfl | rfl | rfl
          · exact ⟨[], by rw [List.append_nil]; rfl, (fun d r' h => by cases h), by simp⟩
          · exact ⟨32 :: s2, by rw [show bs (Bg ++ 32 :: s2) = bs Bg ++ ⟨#[32]⟩ ++ bs s2 by rw [show (⟨#[32]⟩ : ByteArray) = bs [32] from rfl, bs_cat, bs_cat]; simp]; rfl, (fun d r' h => by cases h; rfl), by simp only [List.length_cons]; omega⟩
          · exact ⟨[32, 41], by rw [← bs_cat]; rfl, (fun d r' h => by cases h; rfl), by simp⟩
          · exact ⟨[32, 35], by rw [← bs_cat]; rfl, (fun d r' h => by cases h; rfl), by simp⟩⟩
        obtain ⟨xs, hX, hxs⟩ := hXX
        have HX := Lib.hid hxs
        have HS2 := Lib.hid (And.intro (Below.call HS.out.1 kn) hX)
        clear hX hxs kn hg20 HS hz1 hz2
        go_wp2_with fail
        go_loopw [21] (fun s wr => ∃ k : Nat, k ≤ 4 ∧ s = .int .i64 (k : Int) ∧ Below w.heap.size w wr ∧ Own wr g20 9 xs) (fun s _ => 4 - (intOf s).toNat)
        case atStart => exact ⟨0, by omega, rfl, HS2.out.1, HS2.out.2⟩
        case round =>
          obtain ⟨k, hk, rfl, hB, hS⟩ := hrel
          clear HS2
          rcases Nat.lt_or_eq_of_le hk with hklt | hkeq
          · have k1 : (k : Int) < 4 := by omega
            obtain ⟨r, hr, hr2, hrl⟩ := HX.out k hklt
            have x1 : wr.cell? ⟨g20, k, none⟩ = some (.string (bs (Bg ++ r))) := by rw [hS.cell, hr]
            have HXI := Lib.hid hr
            have hP3 := HK3.out r hr2
            obtain ⟨u, hu⟩ : ∃ u, Bg ++ r = u := ⟨_, rfl⟩
            have hul : u.length ≤ 8200 := by rw [← hu, List.length_append]; omega
            rw [hu] at x1 hP3 HXI
            have HQ2 : Hid (∀ v, Calls Tryd.prog 9 #[.string (bs u)] v (ParseR v (Qy.parse u))) := Lib.hid fun v => qParse u v (by omega)
            obtain ⟨P2, hP2⟩ : ∃ P, Qy.parse u = P := ⟨_, rfl⟩
            rw [hP2] at HQ2 hP3
            obtain ⟨Q2, x2, e2⟩ := P2
            have hbu := bs_size u
            obtain ⟨uz, huz⟩ : ∃ uz, (bs u).size = uz := ⟨_, rfl⟩
            have HUZ : Hid (u.length = uz) := Lib.hid (by rw [← hbu, huz])
            have HP3 := Lib.hid hP3
            have HS := Lib.hid (And.intro hB hS)
            clear hP3 hP2 hu hr hr2 hrl hbu hB hS hul
            go_wp2_with fail
            refine (HQ2.out _).mono ?_
            rintro e w9 ⟨v, rfl, hq, hb9⟩
            obtain ⟨bn0, bs1, bn2, bn3, bn4, bn5, bn6, bn7, bA8, bl8, bc8, bvA, bvl, bvc, rfl, hvl, _⟩ := hq.lit
            have HS9 := Lib.hid (And.intro (Below.call HS.out.1 hb9) (HS.out.2.on hb9))
            simp only at hvl ⊢
            clear hq hb9 hvl HS x1
            go_upto_region 20 with fail
            refine wp_new1 fun W4 hOb kn => ?_
            have hS4 := HS9.out.2.on kn
            have HS10 := Lib.hid (And.intro (Below.call HS9.out.1 kn) hS4)
            have x1 : W4.cell? ⟨g20, k, none⟩ = some (.string (bs u)) := by rw [hS4.cell]; exact HXI.out
            clear kn hOb hS4 HS9
            by_cases hu : uz ≤ 4096
            ·
              have h9 := HP3.out (by rw [HUZ.out]; exact hu)
              simp only [Prod.mk.injEq] at h9
              obtain ⟨rfl, rfl⟩ := h9
              have huz2 : (uz : Int) ≤ 4096 := by omega
              go_wp2_with fail
              clear x1
              go_roundw
              case rel => exact ⟨k + 1, by omega, by go_num, HS10.out.1, HS10.out.2⟩
              case measure => simp [intOf]; omega
            ·
              have huz2 : ¬ (uz : Int) ≤ 4096 := by omega
              go_wp2_with fail
              clear x1
              go_roundw
              case rel => exact ⟨k + 1, by omega, by go_num, HS10.out.1, HS10.out.2⟩
              case measure => simp [intOf]; omega
          · subst hkeq
            have HB9 := Lib.hid hB
            clear hB hS
            go_wp2_with fail
            refine (HL0.out _).mono ?_
            rintro e w10 ⟨rfl, k10⟩
            have HF := Lib.hid (Below.call HB9.out k10)
            clear k10
            go_wp2
            go_returns
            exact ⟨by simp, HF.out⟩
      · subst heq
        have hpx : px = wz := by
          rcases HAt.out with ⟨t, ht, hne, hx⟩ | hx
          · obtain ⟨j, hj⟩ := List.mem_iff_getElem?.1 ht
            have hjl : j < i := by rw [← HN.out]; exact (List.getElem?_eq_some_iff.1 hj).1
            rcases HNo.out j t hjl hj with h | h
            · exact absurd h hne
            · exact absurd hx.symm h
          · rw [← HWZ.out]; exact hx
        subst hpx
        have HS := Lib.hid hB
        clear hB hTk HNo HAt HCut
        go_wp2_with fail
        refine (HL0.out _).mono ?_
        rintro e w9 ⟨rfl, k9⟩
        have HF := Lib.hid (Below.call HS.out k9)
        clear k9
        go_wp2
        go_returns
        exact ⟨by simp, HF.out⟩
  ·
    clear hgcase HREST
    go_wp2_with fail
    refine (HTk.out _).mono ?_
    rintro e w8 ⟨A1, c1, rfl, hB8, hTk⟩
    have HS := Lib.hid (And.intro (Below.call HB7.out hB8) hTk)
    clear hB8 hTk HTk HB7
    go_wp2_with fail
    go_loopw [18] (fun s wr => ∃ i : Nat, i ≤ n ∧ s = .int .i64 (i : Int) ∧ (∀ (j : Nat) (t : Qy.Tok), j < i → T[j]? = some t → t.text = [] ∨ t.at_ ≠ px) ∧ Below w.heap.size w wr ∧ TkAt wr A1 T) (fun s _ => n - (intOf s).toNat)
    case atStart => exact ⟨0, Nat.zero_le _, rfl, fun j t h => absurd h (Nat.not_lt_zero _), HS.out.1, HS.out.2⟩
    case round =>
      obtain ⟨i, hi, rfl, hno, hB, hTk⟩ := hrel
      clear HS
      have HNo := Lib.hid hno
      clear hno
      rcases Nat.lt_or_eq_of_le hi with hlt | heq
      · have i1 : (i : Int) < (n : Int) := by omega
        obtain ⟨t, ht⟩ : ∃ t, T[i]? = some t := ⟨_, List.getElem?_eq_getElem (by have := HN.out; omega)⟩
        obtain ⟨ga, off, rfl, hgl, hc⟩ := hTk.get (by have := HN.out; omega)
        obtain ⟨y1, y2⟩ := hc i t ht
        have HT := Lib.hid ht
        have HS := Lib.hid (And.intro hB hTk)
        clear hB hTk hgl hc ht
        by_cases ha : t.at_ = px
        rotate_left
        · have haz : ¬ (t.at_ : Int) = (px : Int) := by omega
          have hay : ((t.at_ : Int) != (px : Int)) = true := by simp; omega
          go_wp2_with fail
          clear y1 y2
          go_roundw
          case rel => exact ⟨i + 1, by omega, by go_num, no_step HNo.out HT.out (.inr ha), HS.out.1, HS.out.2⟩
          case measure => simp [intOf]; omega
        subst ha
        by_cases he : t.text = []
        · have hez : ((bs t.text).toList == []) = true := by rw [bs_toList, he]; rfl
          have HE := Lib.hid he
          clear he
          go_wp2_with fail
          clear y1 y2
          go_roundw
          case rel => exact ⟨i + 1, by omega, by go_num, no_step HNo.out HT.out (.inl HE.out), HS.out.1, HS.out.2⟩
          case measure => simp [intOf]; omega
        have hez : ((bs t.text).toList == []) = false := by rw [bs_toList]; simpa using he
        have hspl : T = T.take i ++ t :: T.drop (i + 1) := by
          obtain ⟨h1, h2⟩ := List.getElem?_eq_some_iff.1 HT.out
          rw [← h2, ← List.drop_eq_getElem_cons h1, List.take_append_drop]
        have hcut := HCut.out (T.take i) (T.drop (i + 1)) t hspl he rfl
        obtain ⟨hk1, hk2⟩ := hcut
        clear he
        have HK2 := Lib.hid hk2
        have hbt := bs_size t.text
        obtain ⟨tz, htz⟩ : ∃ tz, (bs t.text).size = tz := ⟨_, rfl⟩
        rw [← hbt, htz, HWZ.out] at hk1
        have HTZ : Hid (t.text.length = tz) := Lib.hid (by rw [← hbt, htz])
        have sA : (0 : Int) ≤ (t.at_ : Int) := by omega
        have sB : (t.at_ : Int) + (tz : Int) ≤ (wz : Int) := by omega
        clear hspl hk2 hbt HCut HAt HNo
        go_upto_region 15 with fail
        clear y1 y2 sA sB
        rw [ext_take]
        have HK3 : Hid (∀ r : Qy.Bs, (∀ d r', r = d :: r' → d = 32) → (W.take (t.at_ + tz) ++ r).length ≤ 4096 → (Qy.parse (W.take (t.at_ + tz) ++ r)).2 = (t.at_, 5)) := Lib.hid fun r h1 h2 => by
          have h3 := HK2.out r h1
          rw [HTZ.out] at h3
          exact h3 h2
        have hBl : (W.take (t.at_ + tz)).length ≤ 4096 := by rw [List.length_take, HWZ.out]; omega
        obtain ⟨Bg, hBg⟩ : ∃ Bg, W.take (t.at_ + tz) = Bg := ⟨_, rfl⟩
        rw [hBg] at HK3 hBl
        rw [hBg]
        have hz1 : (bs Bg).size ≤ 4096 := by rw [bs_size]; exact hBl
        have hz2 : (bs s2).size ≤ 4000 := by rw [bs_size]; exact hlen2
        clear hBg HK2
        go_upto_region 16 with fail
        refine wp_new1 fun W3 hX kn => ?_
        obtain ⟨g20, hg20⟩ : ∃ g, wr.heap.size = g := ⟨_, rfl⟩
        rw [hg20] at hX ⊢
        have hXX : ∃ xs : List Value, Own W3 g20 9 xs ∧ ∀ k, k < 4 → ∃ r : Qy.Bs, xs[k]? = some (.string (bs (Bg ++ r))) ∧ (∀ d r', r = d :: r' → d = 32) ∧ r.length ≤ 4100 := ⟨_, hX, fun k hk => by
          rcases (by omega : k = 0 ∨ k = 1 ∨ k = 2 ∨ k = 3) with rfl | rfl | rfl | rfl
          · exact ⟨[], by rw [List.append_nil]; rfl, (fun d r' h => by cases h), by simp⟩
          · exact ⟨32 :: s2, by rw [show bs (Bg ++ 32 :: s2) = bs Bg ++ ⟨#[32]⟩ ++ bs s2 by rw [show (⟨#[32]⟩ : ByteArray) = bs [32] from rfl, bs_cat, bs_cat]; simp]; rfl, (fun d r' h => by cases h; rfl), by simp only [List.length_cons]; omega⟩
          · exact ⟨[32, 41], by rw [← bs_cat]; rfl, (fun d r' h => by cases h; rfl), by simp⟩
          · exact ⟨[32, 35], by rw [← bs_cat]; rfl, (fun d r' h => by cases h; rfl), by simp⟩⟩
        obtain ⟨xs, hX, hxs⟩ := hXX
        have HX := Lib.hid hxs
        have HS2 := Lib.hid (And.intro (Below.call HS.out.1 kn) hX)
        clear hX hxs kn hg20 HS hz1 hz2
        go_wp2_with fail
        go_loopw [21] (fun s wr => ∃ k : Nat, k ≤ 4 ∧ s = .int .i64 (k : Int) ∧ Below w.heap.size w wr ∧ Own wr g20 9 xs) (fun s _ => 4 - (intOf s).toNat)
        case atStart => exact ⟨0, by omega, rfl, HS2.out.1, HS2.out.2⟩
        case round =>
          obtain ⟨k, hk, rfl, hB, hS⟩ := hrel
          clear HS2
          rcases Nat.lt_or_eq_of_le hk with hklt | hkeq
          · have k1 : (k : Int) < 4 := by omega
            obtain ⟨r, hr, hr2, hrl⟩ := HX.out k hklt
            have x1 : wr.cell? ⟨g20, k, none⟩ = some (.string (bs (Bg ++ r))) := by rw [hS.cell, hr]
            have HXI := Lib.hid hr
            have hP3 := HK3.out r hr2
            obtain ⟨u, hu⟩ : ∃ u, Bg ++ r = u := ⟨_, rfl⟩
            have hul : u.length ≤ 8200 := by rw [← hu, List.length_append]; omega
            rw [hu] at x1 hP3 HXI
            have HQ2 : Hid (∀ v, Calls Tryd.prog 9 #[.string (bs u)] v (ParseR v (Qy.parse u))) := Lib.hid fun v => qParse u v (by omega)
            obtain ⟨P2, hP2⟩ : ∃ P, Qy.parse u = P := ⟨_, rfl⟩
            rw [hP2] at HQ2 hP3
            obtain ⟨Q2, x2, e2⟩ := P2
            have hbu := bs_size u
            obtain ⟨uz, huz⟩ : ∃ uz, (bs u).size = uz := ⟨_, rfl⟩
            have HUZ : Hid (u.length = uz) := Lib.hid (by rw [← hbu, huz])
            have HP3 := Lib.hid hP3
            have HS := Lib.hid (And.intro hB hS)
            clear hP3 hP2 hu hr hr2 hrl hbu hB hS hul
            go_wp2_with fail
            refine (HQ2.out _).mono ?_
            rintro e w9 ⟨v, rfl, hq, hb9⟩
            obtain ⟨bn0, bs1, bn2, bn3, bn4, bn5, bn6, bn7, bA8, bl8, bc8, bvA, bvl, bvc, rfl, hvl, _⟩ := hq.lit
            have HS9 := Lib.hid (And.intro (Below.call HS.out.1 hb9) (HS.out.2.on hb9))
            simp only at hvl ⊢
            clear hq hb9 hvl HS x1
            go_upto_region 20 with fail
            refine wp_new1 fun W4 hOb kn => ?_
            have hS4 := HS9.out.2.on kn
            have HS10 := Lib.hid (And.intro (Below.call HS9.out.1 kn) hS4)
            have x1 : W4.cell? ⟨g20, k, none⟩ = some (.string (bs u)) := by rw [hS4.cell]; exact HXI.out
            clear kn hOb hS4 HS9
            by_cases hu : uz ≤ 4096
            ·
              have h9 := HP3.out (by rw [HUZ.out]; exact hu)
              simp only [Prod.mk.injEq] at h9
              obtain ⟨rfl, rfl⟩ := h9
              have huz2 : (uz : Int) ≤ 4096 := by omega
              go_wp2_with fail
              clear x1
              go_roundw
              case rel => exact ⟨k + 1, by omega, by go_num, HS10.out.1, HS10.out.2⟩
              case measure => simp [intOf]; omega
            ·
              have huz2 : ¬ (uz : Int) ≤ 4096 := by omega
              go_wp2_with fail
              clear x1
              go_roundw
              case rel => exact ⟨k + 1, by omega, by go_num, HS10.out.1, HS10.out.2⟩
              case measure => simp [intOf]; omega
          · subst hkeq
            have HB9 := Lib.hid hB
            clear hB hS
            go_wp2_with fail
            refine (HL0.out _).mono ?_
            rintro e w10 ⟨rfl, k10⟩
            have HF := Lib.hid (Below.call HB9.out k10)
            clear k10
            go_wp2
            go_returns
            exact ⟨by simp, HF.out⟩
      · subst heq
        have hpx : px = wz := by
          rcases HAt.out with ⟨t, ht, hne, hx⟩ | hx
          · obtain ⟨j, hj⟩ := List.mem_iff_getElem?.1 ht
            have hjl : j < i := by rw [← HN.out]; exact (List.getElem?_eq_some_iff.1 hj).1
            rcases HNo.out j t hjl hj with h | h
            · exact absurd h hne
            · exact absurd hx.symm h
          · rw [← HWZ.out]; exact hx
        subst hpx
        have HS := Lib.hid hB
        clear hB hTk HNo HAt HCut
        go_wp2_with fail
        refine (HL0.out _).mono ?_
        rintro e w9 ⟨rfl, k9⟩
        have HF := Lib.hid (Below.call HS.out k9)
        clear k9
        go_wp2
        go_returns
        exact ⟨by simp, HF.out⟩
  ·
    clear hgcase HREST
    go_wp2_with fail
    refine (HTk.out _).mono ?_
    rintro e w8 ⟨A1, c1, rfl, hB8, hTk⟩
    have HS := Lib.hid (And.intro (Below.call HB7.out hB8) hTk)
    clear hB8 hTk HTk HB7
    go_wp2_with fail
    go_loopw [18] (fun s wr => ∃ i : Nat, i ≤ n ∧ s = .int .i64 (i : Int) ∧ (∀ (j : Nat) (t : Qy.Tok), j < i → T[j]? = some t → t.text = [] ∨ t.at_ ≠ px) ∧ Below w.heap.size w wr ∧ TkAt wr A1 T) (fun s _ => n - (intOf s).toNat)
    case atStart => exact ⟨0, Nat.zero_le _, rfl, fun j t h => absurd h (Nat.not_lt_zero _), HS.out.1, HS.out.2⟩
    case round =>
      obtain ⟨i, hi, rfl, hno, hB, hTk⟩ := hrel
      clear HS
      have HNo := Lib.hid hno
      clear hno
      rcases Nat.lt_or_eq_of_le hi with hlt | heq
      · have i1 : (i : Int) < (n : Int) := by omega
        obtain ⟨t, ht⟩ : ∃ t, T[i]? = some t := ⟨_, List.getElem?_eq_getElem (by have := HN.out; omega)⟩
        obtain ⟨ga, off, rfl, hgl, hc⟩ := hTk.get (by have := HN.out; omega)
        obtain ⟨y1, y2⟩ := hc i t ht
        have HT := Lib.hid ht
        have HS := Lib.hid (And.intro hB hTk)
        clear hB hTk hgl hc ht
        by_cases ha : t.at_ = px
        rotate_left
        · have haz : ¬ (t.at_ : Int) = (px : Int) := by omega
          have hay : ((t.at_ : Int) != (px : Int)) = true := by simp; omega
          go_wp2_with fail
          clear y1 y2
          go_roundw
          case rel => exact ⟨i + 1, by omega, by go_num, no_step HNo.out HT.out (.inr ha), HS.out.1, HS.out.2⟩
          case measure => simp [intOf]; omega
        subst ha
        by_cases he : t.text = []
        · have hez : ((bs t.text).toList == []) = true := by rw [bs_toList, he]; rfl
          have HE := Lib.hid he
          clear he
          go_wp2_with fail
          clear y1 y2
          go_roundw
          case rel => exact ⟨i + 1, by omega, by go_num, no_step HNo.out HT.out (.inl HE.out), HS.out.1, HS.out.2⟩
          case measure => simp [intOf]; omega
        have hez : ((bs t.text).toList == []) = false := by rw [bs_toList]; simpa using he
        have hspl : T = T.take i ++ t :: T.drop (i + 1) := by
          obtain ⟨h1, h2⟩ := List.getElem?_eq_some_iff.1 HT.out
          rw [← h2, ← List.drop_eq_getElem_cons h1, List.take_append_drop]
        have hcut := HCut.out (T.take i) (T.drop (i + 1)) t hspl he rfl
        obtain ⟨hk1, hk2⟩ := hcut
        clear he
        have HK2 := Lib.hid hk2
        have hbt := bs_size t.text
        obtain ⟨tz, htz⟩ : ∃ tz, (bs t.text).size = tz := ⟨_, rfl⟩
        rw [← hbt, htz, HWZ.out] at hk1
        have HTZ : Hid (t.text.length = tz) := Lib.hid (by rw [← hbt, htz])
        have sA : (0 : Int) ≤ (t.at_ : Int) := by omega
        have sB : (t.at_ : Int) + (tz : Int) ≤ (wz : Int) := by omega
        clear hspl hk2 hbt HCut HAt HNo
        go_upto_region 15 with fail
        clear y1 y2 sA sB
        rw [ext_take]
        have HK3 : Hid (∀ r : Qy.Bs, (∀ d r', r = d :: r' → d = 32) → (W.take (t.at_ + tz) ++ r).length ≤ 4096 → (Qy.parse (W.take (t.at_ + tz) ++ r)).2 = (t.at_, 6)) := Lib.hid fun r h1 h2 => by
          have h3 := HK2.out r h1
          rw [HTZ.out] at h3
          exact h3 h2
        have hBl : (W.take (t.at_ + tz)).length ≤ 4096 := by rw [List.length_take, HWZ.out]; omega
        obtain ⟨Bg, hBg⟩ : ∃ Bg, W.take (t.at_ + tz) = Bg := ⟨_, rfl⟩
        rw [hBg] at HK3 hBl
        rw [hBg]
        have hz1 : (bs Bg).size ≤ 4096 := by rw [bs_size]; exact hBl
        have hz2 : (bs s2).size ≤ 4000 := by rw [bs_size]; exact hlen2
        clear hBg HK2
        go_upto_region 16 with fail
        refine wp_new1 fun W3 hX kn => ?_
        obtain ⟨g20, hg20⟩ : ∃ g, wr.heap.size = g := ⟨_, rfl⟩
        rw [hg20] at hX ⊢
        have hXX : ∃ xs : List Value, Own W3 g20 9 xs ∧ ∀ k, k < 4 → ∃ r : Qy.Bs, xs[k]? = some (.string (bs (Bg ++ r))) ∧ (∀ d r', r = d :: r' → d = 32) ∧ r.length ≤ 4100 := ⟨_, hX, fun k hk => by
          rcases (by omega : k = 0 ∨ k = 1 ∨ k = 2 ∨ k = 3) with rfl | rfl | rfl | rfl
          · exact ⟨[], by rw [List.append_nil]; rfl, (fun d r' h => by cases h), by simp⟩
          · exact ⟨32 :: s2, by rw [show bs (Bg ++ 32 :: s2) = bs Bg ++ ⟨#[32]⟩ ++ bs s2 by rw [show (⟨#[32]⟩ : ByteArray) = bs [32] from rfl, bs_cat, bs_cat]; simp]; rfl, (fun d r' h => by cases h; rfl), by simp only [List.length_cons]; omega⟩
          · exact ⟨[32, 41], by rw [← bs_cat]; rfl, (fun d r' h => by cases h; rfl), by simp⟩
          · exact ⟨[32, 35], by rw [← bs_cat]; rfl, (fun d r' h => by cases h; rfl), by simp⟩⟩
        obtain ⟨xs, hX, hxs⟩ := hXX
        have HX := Lib.hid hxs
        have HS2 := Lib.hid (And.intro (Below.call HS.out.1 kn) hX)
        clear hX hxs kn hg20 HS hz1 hz2
        go_wp2_with fail
        go_loopw [21] (fun s wr => ∃ k : Nat, k ≤ 4 ∧ s = .int .i64 (k : Int) ∧ Below w.heap.size w wr ∧ Own wr g20 9 xs) (fun s _ => 4 - (intOf s).toNat)
        case atStart => exact ⟨0, by omega, rfl, HS2.out.1, HS2.out.2⟩
        case round =>
          obtain ⟨k, hk, rfl, hB, hS⟩ := hrel
          clear HS2
          rcases Nat.lt_or_eq_of_le hk with hklt | hkeq
          · have k1 : (k : Int) < 4 := by omega
            obtain ⟨r, hr, hr2, hrl⟩ := HX.out k hklt
            have x1 : wr.cell? ⟨g20, k, none⟩ = some (.string (bs (Bg ++ r))) := by rw [hS.cell, hr]
            have HXI := Lib.hid hr
            have hP3 := HK3.out r hr2
            obtain ⟨u, hu⟩ : ∃ u, Bg ++ r = u := ⟨_, rfl⟩
            have hul : u.length ≤ 8200 := by rw [← hu, List.length_append]; omega
            rw [hu] at x1 hP3 HXI
            have HQ2 : Hid (∀ v, Calls Tryd.prog 9 #[.string (bs u)] v (ParseR v (Qy.parse u))) := Lib.hid fun v => qParse u v (by omega)
            obtain ⟨P2, hP2⟩ : ∃ P, Qy.parse u = P := ⟨_, rfl⟩
            rw [hP2] at HQ2 hP3
            obtain ⟨Q2, x2, e2⟩ := P2
            have hbu := bs_size u
            obtain ⟨uz, huz⟩ : ∃ uz, (bs u).size = uz := ⟨_, rfl⟩
            have HUZ : Hid (u.length = uz) := Lib.hid (by rw [← hbu, huz])
            have HP3 := Lib.hid hP3
            have HS := Lib.hid (And.intro hB hS)
            clear hP3 hP2 hu hr hr2 hrl hbu hB hS hul
            go_wp2_with fail
            refine (HQ2.out _).mono ?_
            rintro e w9 ⟨v, rfl, hq, hb9⟩
            obtain ⟨bn0, bs1, bn2, bn3, bn4, bn5, bn6, bn7, bA8, bl8, bc8, bvA, bvl, bvc, rfl, hvl, _⟩ := hq.lit
            have HS9 := Lib.hid (And.intro (Below.call HS.out.1 hb9) (HS.out.2.on hb9))
            simp only at hvl ⊢
            clear hq hb9 hvl HS x1
            go_upto_region 20 with fail
            refine wp_new1 fun W4 hOb kn => ?_
            have hS4 := HS9.out.2.on kn
            have HS10 := Lib.hid (And.intro (Below.call HS9.out.1 kn) hS4)
            have x1 : W4.cell? ⟨g20, k, none⟩ = some (.string (bs u)) := by rw [hS4.cell]; exact HXI.out
            clear kn hOb hS4 HS9
            by_cases hu : uz ≤ 4096
            ·
              have h9 := HP3.out (by rw [HUZ.out]; exact hu)
              simp only [Prod.mk.injEq] at h9
              obtain ⟨rfl, rfl⟩ := h9
              have huz2 : (uz : Int) ≤ 4096 := by omega
              go_wp2_with fail
              clear x1
              go_roundw
              case rel => exact ⟨k + 1, by omega, by go_num, HS10.out.1, HS10.out.2⟩
              case measure => simp [intOf]; omega
            ·
              have huz2 : ¬ (uz : Int) ≤ 4096 := by omega
              go_wp2_with fail
              clear x1
              go_roundw
              case rel => exact ⟨k + 1, by omega, by go_num, HS10.out.1, HS10.out.2⟩
              case measure => simp [intOf]; omega
          · subst hkeq
            have HB9 := Lib.hid hB
            clear hB hS
            go_wp2_with fail
            refine (HL0.out _).mono ?_
            rintro e w10 ⟨rfl, k10⟩
            have HF := Lib.hid (Below.call HB9.out k10)
            clear k10
            go_wp2
            go_returns
            exact ⟨by simp, HF.out⟩
      · subst heq
        have hpx : px = wz := by
          rcases HAt.out with ⟨t, ht, hne, hx⟩ | hx
          · obtain ⟨j, hj⟩ := List.mem_iff_getElem?.1 ht
            have hjl : j < i := by rw [← HN.out]; exact (List.getElem?_eq_some_iff.1 hj).1
            rcases HNo.out j t hjl hj with h | h
            · exact absurd h hne
            · exact absurd hx.symm h
          · rw [← HWZ.out]; exact hx
        subst hpx
        have HS := Lib.hid hB
        clear hB hTk HNo HAt HCut
        go_wp2_with fail
        refine (HL0.out _).mono ?_
        rintro e w9 ⟨rfl, k9⟩
        have HF := Lib.hid (Below.call HS.out k9)
        clear k9
        go_wp2
        go_returns
        exact ⟨by simp, HF.out⟩
  ·
    clear hgcase HREST
    go_wp2_with fail
    refine (HTk.out _).mono ?_
    rintro e w8 ⟨A1, c1, rfl, hB8, hTk⟩
    have HS := Lib.hid (And.intro (Below.call HB7.out hB8) hTk)
    clear hB8 hTk HTk HB7
    go_wp2_with fail
    go_loopw [18] (fun s wr => ∃ i : Nat, i ≤ n ∧ s = .int .i64 (i : Int) ∧ (∀ (j : Nat) (t : Qy.Tok), j < i → T[j]? = some t → t.text = [] ∨ t.at_ ≠ px) ∧ Below w.heap.size w wr ∧ TkAt wr A1 T) (fun s _ => n - (intOf s).toNat)
    case atStart => exact ⟨0, Nat.zero_le _, rfl, fun j t h => absurd h (Nat.not_lt_zero _), HS.out.1, HS.out.2⟩
    case round =>
      obtain ⟨i, hi, rfl, hno, hB, hTk⟩ := hrel
      clear HS
      have HNo := Lib.hid hno
      clear hno
      rcases Nat.lt_or_eq_of_le hi with hlt | heq
      · have i1 : (i : Int) < (n : Int) := by omega
        obtain ⟨t, ht⟩ : ∃ t, T[i]? = some t := ⟨_, List.getElem?_eq_getElem (by have := HN.out; omega)⟩
        obtain ⟨ga, off, rfl, hgl, hc⟩ := hTk.get (by have := HN.out; omega)
        obtain ⟨y1, y2⟩ := hc i t ht
        have HT := Lib.hid ht
        have HS := Lib.hid (And.intro hB hTk)
        clear hB hTk hgl hc ht
        by_cases ha : t.at_ = px
        rotate_left
        · have haz : ¬ (t.at_ : Int) = (px : Int) := by omega
          have hay : ((t.at_ : Int) != (px : Int)) = true := by simp; omega
          go_wp2_with fail
          clear y1 y2
          go_roundw
          case rel => exact ⟨i + 1, by omega, by go_num, no_step HNo.out HT.out (.inr ha), HS.out.1, HS.out.2⟩
          case measure => simp [intOf]; omega
        subst ha
        by_cases he : t.text = []
        · have hez : ((bs t.text).toList == []) = true := by rw [bs_toList, he]; rfl
          have HE := Lib.hid he
          clear he
          go_wp2_with fail
          clear y1 y2
          go_roundw
          case rel => exact ⟨i + 1, by omega, by go_num, no_step HNo.out HT.out (.inl HE.out), HS.out.1, HS.out.2⟩
          case measure => simp [intOf]; omega
        have hez : ((bs t.text).toList == []) = false := by rw [bs_toList]; simpa using he
        have hspl : T = T.take i ++ t :: T.drop (i + 1) := by
          obtain ⟨h1, h2⟩ := List.getElem?_eq_some_iff.1 HT.out
          rw [← h2, ← List.drop_eq_getElem_cons h1, List.take_append_drop]
        have hcut := HCut.out (T.take i) (T.drop (i + 1)) t hspl he rfl
        obtain ⟨hk1, hk2⟩ := hcut
        clear he
        have HK2 := Lib.hid hk2
        have hbt := bs_size t.text
        obtain ⟨tz, htz⟩ : ∃ tz, (bs t.text).size = tz := ⟨_, rfl⟩
        rw [← hbt, htz, HWZ.out] at hk1
        have HTZ : Hid (t.text.length = tz) := Lib.hid (by rw [← hbt, htz])
        have sA : (0 : Int) ≤ (t.at_ : Int) := by omega
        have sB : (t.at_ : Int) + (tz : Int) ≤ (wz : Int) := by omega
        clear hspl hk2 hbt HCut HAt HNo
        go_upto_region 15 with fail
        clear y1 y2 sA sB
        rw [ext_take]
        have HK3 : Hid (∀ r : Qy.Bs, (∀ d r', r = d :: r' → d = 32) → (W.take (t.at_ + tz) ++ r).length ≤ 4096 → (Qy.parse (W.take (t.at_ + tz) ++ r)).2 = (t.at_, 8)) := Lib.hid fun r h1 h2 => by
          have h3 := HK2.out r h1
          rw [HTZ.out] at h3
          exact h3 h2
        have hBl : (W.take (t.at_ + tz)).length ≤ 4096 := by rw [List.length_take, HWZ.out]; omega
        obtain ⟨Bg, hBg⟩ : ∃ Bg, W.take (t.at_ + tz) = Bg := ⟨_, rfl⟩
        rw [hBg] at HK3 hBl
        rw [hBg]
        have hz1 : (bs Bg).size ≤ 4096 := by rw [bs_size]; exact hBl
        have hz2 : (bs s2).size ≤ 4000 := by rw [bs_size]; exact hlen2
        clear hBg HK2
        go_upto_region 16 with fail
        refine wp_new1 fun W3 hX kn => ?_
        obtain ⟨g20, hg20⟩ : ∃ g, wr.heap.size = g := ⟨_, rfl⟩
        rw [hg20] at hX ⊢
        have hXX : ∃ xs : List Value, Own W3 g20 9 xs ∧ ∀ k, k < 4 → ∃ r : Qy.Bs, xs[k]? = some (.string (bs (Bg ++ r))) ∧ (∀ d r', r = d :: r' → d = 32) ∧ r.length ≤ 4100 := ⟨_, hX, fun k hk => by
          rcases (by omega : k = 0 ∨ k = 1 ∨ k = 2 ∨ k = 3) with rfl | rfl | rfl | rfl
          · exact ⟨[], by rw [List.append_nil]; rfl, (fun d r' h => by cases h), by simp⟩
          · exact ⟨32 :: s2, by rw [show bs (Bg ++ 32 :: s2) = bs Bg ++ ⟨#[32]⟩ ++ bs s2 by rw [show (⟨#[32]⟩ : ByteArray) = bs [32] from rfl, bs_cat, bs_cat]; simp]; rfl, (fun d r' h => by cases h; rfl), by simp only [List.length_cons]; omega⟩
          · exact ⟨[32, 41], by rw [← bs_cat]; rfl, (fun d r' h => by cases h; rfl), by simp⟩
          · exact ⟨[32, 35], by rw [← bs_cat]; rfl, (fun d r' h => by cases h; rfl), by simp⟩⟩
        obtain ⟨xs, hX, hxs⟩ := hXX
        have HX := Lib.hid hxs
        have HS2 := Lib.hid (And.intro (Below.call HS.out.1 kn) hX)
        clear hX hxs kn hg20 HS hz1 hz2
        go_wp2_with fail
        go_loopw [21] (fun s wr => ∃ k : Nat, k ≤ 4 ∧ s = .int .i64 (k : Int) ∧ Below w.heap.size w wr ∧ Own wr g20 9 xs) (fun s _ => 4 - (intOf s).toNat)
        case atStart => exact ⟨0, by omega, rfl, HS2.out.1, HS2.out.2⟩
        case round =>
          obtain ⟨k, hk, rfl, hB, hS⟩ := hrel
          clear HS2
          rcases Nat.lt_or_eq_of_le hk with hklt | hkeq
          · have k1 : (k : Int) < 4 := by omega
            obtain ⟨r, hr, hr2, hrl⟩ := HX.out k hklt
            have x1 : wr.cell? ⟨g20, k, none⟩ = some (.string (bs (Bg ++ r))) := by rw [hS.cell, hr]
            have HXI := Lib.hid hr
            have hP3 := HK3.out r hr2
            obtain ⟨u, hu⟩ : ∃ u, Bg ++ r = u := ⟨_, rfl⟩
            have hul : u.length ≤ 8200 := by rw [← hu, List.length_append]; omega
            rw [hu] at x1 hP3 HXI
            have HQ2 : Hid (∀ v, Calls Tryd.prog 9 #[.string (bs u)] v (ParseR v (Qy.parse u))) := Lib.hid fun v => qParse u v (by omega)
            obtain ⟨P2, hP2⟩ : ∃ P, Qy.parse u = P := ⟨_, rfl⟩
            rw [hP2] at HQ2 hP3
            obtain ⟨Q2, x2, e2⟩ := P2
            have hbu := bs_size u
            obtain ⟨uz, huz⟩ : ∃ uz, (bs u).size = uz := ⟨_, rfl⟩
            have HUZ : Hid (u.length = uz) := Lib.hid (by rw [← hbu, huz])
            have HP3 := Lib.hid hP3
            have HS := Lib.hid (And.intro hB hS)
            clear hP3 hP2 hu hr hr2 hrl hbu hB hS hul
            go_wp2_with fail
            refine (HQ2.out _).mono ?_
            rintro e w9 ⟨v, rfl, hq, hb9⟩
            obtain ⟨bn0, bs1, bn2, bn3, bn4, bn5, bn6, bn7, bA8, bl8, bc8, bvA, bvl, bvc, rfl, hvl, _⟩ := hq.lit
            have HS9 := Lib.hid (And.intro (Below.call HS.out.1 hb9) (HS.out.2.on hb9))
            simp only at hvl ⊢
            clear hq hb9 hvl HS x1
            go_upto_region 20 with fail
            refine wp_new1 fun W4 hOb kn => ?_
            have hS4 := HS9.out.2.on kn
            have HS10 := Lib.hid (And.intro (Below.call HS9.out.1 kn) hS4)
            have x1 : W4.cell? ⟨g20, k, none⟩ = some (.string (bs u)) := by rw [hS4.cell]; exact HXI.out
            clear kn hOb hS4 HS9
            by_cases hu : uz ≤ 4096
            ·
              have h9 := HP3.out (by rw [HUZ.out]; exact hu)
              simp only [Prod.mk.injEq] at h9
              obtain ⟨rfl, rfl⟩ := h9
              have huz2 : (uz : Int) ≤ 4096 := by omega
              go_wp2_with fail
              clear x1
              go_roundw
              case rel => exact ⟨k + 1, by omega, by go_num, HS10.out.1, HS10.out.2⟩
              case measure => simp [intOf]; omega
            ·
              have huz2 : ¬ (uz : Int) ≤ 4096 := by omega
              go_wp2_with fail
              clear x1
              go_roundw
              case rel => exact ⟨k + 1, by omega, by go_num, HS10.out.1, HS10.out.2⟩
              case measure => simp [intOf]; omega
          · subst hkeq
            have HB9 := Lib.hid hB
            clear hB hS
            go_wp2_with fail
            refine (HL0.out _).mono ?_
            rintro e w10 ⟨rfl, k10⟩
            have HF := Lib.hid (Below.call HB9.out k10)
            clear k10
            go_wp2
            go_returns
            exact ⟨by simp, HF.out⟩
      · subst heq
        have hpx : px = wz := by
          rcases HAt.out with ⟨t, ht, hne, hx⟩ | hx
          · obtain ⟨j, hj⟩ := List.mem_iff_getElem?.1 ht
            have hjl : j < i := by rw [← HN.out]; exact (List.getElem?_eq_some_iff.1 hj).1
            rcases HNo.out j t hjl hj with h | h
            · exact absurd h hne
            · exact absurd hx.symm h
          · rw [← HWZ.out]; exact hx
        subst hpx
        have HS := Lib.hid hB
        clear hB hTk HNo HAt HCut
        go_wp2_with fail
        refine (HL0.out _).mono ?_
        rintro e w9 ⟨rfl, k9⟩
        have HF := Lib.hid (Below.call HS.out k9)
        clear k9
        go_wp2
        go_returns
        exact ⟨by simp, HF.out⟩
end Go.Proofs.YtmlpibdincfgbaaDoor
