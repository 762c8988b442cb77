/-
  The law FracWritten: the walk.
-/
import Derived.Test.YthafhbogpfggjaaGreatDoorB7
import Derived.Test.YthafhbogpfggjaaGreatDoorB6
import Derived.Test.YthafhbogpfggjaaGreatDoorZ5
import Derived.Test.YthafhbogpfggjaaGreatDoorH4
import Derived.Lib.ConvBytes
namespace Go.Proofs.YthafhbogpfggjaaGreatDoor
open Go.RowKit Mag

theorem WAt.on {b : Nat} {l : List Nat} {w w' : World} (h : WAt b l w) (hb : Below w.heap.size w w') : WAt b l w' := by
  obtain ⟨v, h1, h2⟩ := h
  exact ⟨v, h1.on hb, owns_on h2 hb⟩
def Bq (b0 : Nat) (W3 u : World) : Prop := Below b0 W3 u ∧ b0 ≤ u.heap.size
theorem Bq.on {b0 : Nat} {W3 u v : World} (h : Bq b0 W3 u) (k : Below u.heap.size u v) : Bq b0 W3 v := ⟨h.1.trans (k.mono h.2), Nat.le_trans h.2 k.size⟩
theorem rtext_len' {a : Rat} {k : Nat} (h : SmR k a) (hk : 0 < k := by omega) : (rtext a).length ≤ 8 * k + 3 := by
  have h1 := sm_itoa h.1 hk
  have h2 := sm_itoa h.2 hk
  unfold rtext ftext
  split
  · omega
  · simp only [List.length_append, List.length_cons]
    omega
theorem BIs.mono {w : World} {B B' : Nat} {A : Option Addr} {c : Nat} {l : List Nat} (h : BIs w B A c l) (hB : B ≤ B') : BIs w B' A c l := by
  rcases h with h | ⟨g, off, h1, h2, h3⟩
  · exact .inl h
  · exact .inr ⟨g, off, h1, Nat.lt_of_lt_of_le h2 hB, h3⟩
def sBI (l : List Nat) : Spec Bel := ⟨fun v w => ∃ p : Option Addr × Nat, v = .slice p.1 l.length p.2 ∧ BIs w w.heap.size p.1 p.2 l, fun ⟨p, e, h⟩ k => ⟨p, e, (h.on k).mono k.size⟩⟩
theorem conv_bis_to (w : World) (s : ByteArray) : ∃ V A c, (convert 9 36 (.string s)).run Tryz.prog w = .ok (.slice A (sbs s).length c) V ∧ Below w.heap.size w V ∧ BIs V V.heap.size A c (sbs s) := by
  have hr : (convert 9 36 (.string s)).run Tryz.prog w = .ok (.slice (some ⟨w.heap.size, 0, none⟩) (sbs s).length (grownCap w s.size 0 5)) (Lib.bytesWorld w 5 s) := by
    rw [sbs_len]
    exact Lib.run_convert_string_bytes w 9 36 5 s Tryz.underlying9 Tryz.underlying36 Tryz.underlying5
  refine ⟨_, _, _, hr, ?_, ?_⟩
  · refine ⟨rfl, rfl, rfl, ?_, fun k hk => Lib.bytesWorld_at_old w _ s k hk⟩
    simp [Lib.bytesWorld, World.freeze]
  · have hn := Lib.bytesWorld_at_new w 5 s
    refine .inr ⟨w.heap.size, 0, rfl, ?_, by rw [sbs_len]; exact grownCap_ge w s.size 0 _, fun j x hx => ?_⟩
    · simp [Lib.bytesWorld, World.freeze]
    · have hj : j < (sbs s).length := by rw [← u8s_len]; exact (List.getElem?_eq_some_iff.1 hx).1
      rw [u8s_sbs] at hx
      have hl : j < (Lib.strCells s).length := (List.getElem?_eq_some_iff.1 hx).1
      rw [Nat.zero_add]
      have : (Lib.bytesCells w 5 s)[j]? = some x := by
        rw [← Array.getElem?_toList]
        simp only [Lib.bytesCells, Array.toList_append, Array.toList_map]
        rw [List.getElem?_append_left (by simpa [Lib.strCells] using hl)]
        exact hx
      simpa [World.cell?, hn] using this
theorem equal_eq' {f g : FV} {a b : Rat} {w : World} (hf : FR f w a) (hg : FR g w b) (h : a = b) (ht : Tab w) : Calls Tryz.prog 83 #[.agg #[.bool f.p.neg, .slice f.p.A f.p.n f.p.c, .bool f.l.neg, .slice f.l.A f.l.n f.l.c], .agg #[.bool g.p.neg, .slice g.p.A g.p.n g.p.c, .bool g.l.neg, .slice g.l.A g.l.n g.l.c]] w (RetBool w true) := by
  have := equalF_any hf hg ht
  rwa [decide_eq_true h] at this
set_option maxRecDepth 100000 in
set_option maxHeartbeats 12800000 in
theorem FracWritten_any {w : World} {A : Option Addr} {l : List Int} {c0 : Nat} (h : IntsIs w A l c0) (hTab0 : Tab w) : Calls Tryz.prog 19 #[.slice A l.length c0] w (RetBool w true) := by
  have b1 := Below.refl w.heap.size w
  have hTab := hTab0
  go_enter Tryz.func19, Tryz.ntmps19
  go_wp2_with fail
  refine (fFrac_any h 0 (by omega) 0 rfl).mono ?_
  rintro e v1 ⟨f, rfl, k1_, hf⟩
  replace h := h.on k1_
  replace hTab := hTab.on k1_
  replace b1 := Below.call b1 k1_
  clear k1_
  obtain ⟨a, sa, hf⟩ := hf
  go_wp2_with fail
  refine (of_any hf (sa.fit (by omega))).mono ?_
  rintro e v2 ⟨x, rfl, k1_, hx⟩
  go_upto_region 2 with fail
  refine wp_new1 fun v3 hX k2_ => ?_
  have kk_ := Below.call k1_ k2_
  replace h := h.on kk_
  replace hTab := hTab.on kk_
  replace hf := hf.on kk_
  replace hx := hx.on k2_
  replace b1 := Below.call b1 kk_
  clear k1_ k2_ kk_
  clear hf
  go_wp2_with fail
  refine (fFrac_any h 4 (by omega) 4 rfl).mono ?_
  rintro e v4 ⟨f, rfl, k1_, hf⟩
  replace h := h.on k1_
  replace hTab := hTab.on k1_
  replace hx := hx.on k1_
  replace hX := hX.on k1_
  replace b1 := Below.call b1 k1_
  clear k1_
  obtain ⟨b, sb, hf⟩ := hf
  go_wp2_with fail
  refine (of_any hf (sb.fit (by omega))).mono ?_
  rintro e v5 ⟨y, rfl, k1_, hy⟩
  go_upto_region 3 with fail
  refine wp_new1 fun v6 hY k2_ => ?_
  have kk_ := Below.call k1_ k2_
  replace h := h.on kk_
  replace hTab := hTab.on kk_
  replace hx := hx.on kk_
  replace hX := hX.on kk_
  replace hf := hf.on kk_
  replace hy := hy.on k2_
  replace b1 := Below.call b1 kk_
  clear k1_ k2_ kk_
  clear hf
  clear h
  obtain ⟨ta, hta⟩ : ∃ t : ByteArray, t = ⟨(rtext a).toArray⟩ := ⟨_, rfl⟩
  have hda : ta.data.toList = rtext a := by rw [hta]
  have hla := rtext_len' sa (by omega)
  have hsa : ta.size = (rtext a).length := str_size hda
  have h2a : ta.size ≤ 1100 := by omega
  have HSa : Hid (∀ (g : FV) u, FR g u a → Tab u → Calls Tryz.prog 87 #[.agg #[.bool g.p.neg, .slice g.p.A g.p.n g.p.c, .bool g.l.neg, .slice g.l.A g.l.n g.l.c]] u (fun e w9 => e = .returned (.string ta) ∧ Below u.heap.size u w9)) := Lib.hid fun g u h1 h2 => by rw [hta]; exact FString_r h1 h2
  have HPa : Hid (∀ u, Tab u → Calls Tryz.prog 86 #[.string ta] u (RetFRE u a 0)) := Lib.hid fun u hT => by
    have := ParseF_any ta (by omega) u hT
    rwa [hda, parR_text (sa.fit (by omega)).1 (sa.fit (by omega)).2] at this
  clear hta hda hla hsa
  obtain ⟨tb, htb⟩ : ∃ t : ByteArray, t = ⟨(rtext b).toArray⟩ := ⟨_, rfl⟩
  have hdb : tb.data.toList = rtext b := by rw [htb]
  have hlb := rtext_len' sb (by omega)
  have hsb : tb.size = (rtext b).length := str_size hdb
  have h2b : tb.size ≤ 1100 := by omega
  have HSb : Hid (∀ (g : FV) u, FR g u b → Tab u → Calls Tryz.prog 87 #[.agg #[.bool g.p.neg, .slice g.p.A g.p.n g.p.c, .bool g.l.neg, .slice g.l.A g.l.n g.l.c]] u (fun e w9 => e = .returned (.string tb) ∧ Below u.heap.size u w9)) := Lib.hid fun g u h1 h2 => by rw [htb]; exact FString_r h1 h2
  have HPb : Hid (∀ u, Tab u → Calls Tryz.prog 86 #[.string tb] u (RetFRE u b 0)) := Lib.hid fun u hT => by
    have := ParseF_any tb (by omega) u hT
    rwa [hdb, parR_text (sb.fit (by omega)).1 (sb.fit (by omega)).2] at this
  clear htb hdb hlb hsb
  obtain ⟨W3, e_⟩ : ∃ W3, W3 = v6 := ⟨_, rfl⟩
  subst e_
  go_upto_region 4 with fail
  refine wp_new1 fun V1 hW hb => ?_
  obtain ⟨b0, e_⟩ : ∃ b0, b0 = W3.heap.size := ⟨_, rfl⟩
  have hbx : Below b0 W3 V1 := by rw [e_]; exact hb
  have lX : W3.heap.size = b0 := e_.symm
  rw [← e_] at hW ⊢
  replace hW : WAt b0 [] V1 := ⟨_, hW, World.ownsRow_nil _ _ _ _⟩
  have HF3 : Hid (∀ u, Below b0 W3 u → FR x u a ∧ FR y u b ∧ Own u _ _ _ ∧ Own u _ _ _ ∧ Tab u ∧ Below w.heap.size w u) := Lib.hid fun u hu => by rw [e_] at hu; exact ⟨hx.on hu, hy.on hu, hX.on hu, hY.on hu, hTab.on hu, Below.call b1 hu⟩
  clear hb e_ lX hx hy hX hY hTab b1
  obtain ⟨hx1, hy1, hX1, hY1, hT1, _⟩ := HF3.out _ hbx
  obtain ⟨c_0, c_1, c_2, c_3, _⟩ := hX1.all4
  go_wp2_with fail
  refine (HSa.out _ _ hx1 hT1).mono ?_
  rintro e u1 ⟨rfl, k1⟩
  clear c_0 c_1 c_2 c_3 hx1 hy1 hX1 hY1 hT1
  have hlt := hW.lt
  replace hW := hW.on k1
  have kk := k1
  go_wp2_with fail
  refine (wText b0 [] ta _ hW (by simp only [List.length_nil]; omega)).mono ?_
  rintro e V2 ⟨rfl, hW2, k2⟩
  replace hbx := (hbx.trans (kk.mono (Nat.le_of_lt hlt))).trans k2
  replace hW := hW2
  clear hW2 k1 k2 kk hlt
  obtain ⟨hx2, hy2, hX2, hY2, hT2, _⟩ := HF3.out _ hbx
  obtain ⟨c_0, c_1, c_2, c_3, _⟩ := hY2.all4
  go_wp2_with fail
  refine (HSb.out _ _ hy2 hT2).mono ?_
  rintro e u2 ⟨rfl, k1⟩
  clear c_0 c_1 c_2 c_3 hx2 hy2 hX2 hY2 hT2
  have hlt := hW.lt
  replace hW := hW.on k1
  have kk := k1
  go_wp2_with fail
  refine (wText b0 ([] ++ uv ta.size ++ sbs ta) tb _ hW (by simp only [List.length_append, sbs_len, List.length_nil]; have := uv_len10 (n := ta.size) (by omega); omega)).mono ?_
  rintro e V3 ⟨rfl, hW2, k2⟩
  replace hbx := (hbx.trans (kk.mono (Nat.le_of_lt hlt))).trans k2
  replace hW := hW2
  clear hW2 k1 k2 kk hlt
  obtain ⟨l2, hl2⟩ : ∃ l2, [] ++ uv ta.size ++ sbs ta ++ uv tb.size ++ sbs tb = l2 := ⟨_, rfl⟩
  rw [hl2] at hW
  have hva := uv_len10 (n := ta.size) (by omega)
  have hvb := uv_len10 (n := tb.size) (by omega)
  have hlen : l2.length ≤ 3000 := by rw [← hl2]; simp only [List.length_append, sbs_len, List.length_nil]; omega
  have e1 : rl l2 = (sbs ta, uv tb.size ++ sbs tb, 0) := by
    rw [← hl2]
    have := rl_text (sbs ta) (uv tb.size ++ sbs tb) (by rw [sbs_len]; omega)
    rw [sbs_len] at this
    simpa [List.append_assoc] using this
  have e2 : rl (uv tb.size ++ sbs tb) = (sbs tb, [], 0) := by
    have := rl_text (sbs tb) [] (by rw [sbs_len]; omega)
    rw [sbs_len] at this
    simpa using this
  have hb3 : ∀ c ∈ uv tb.size ++ sbs tb, c < 256 := fun c hc => by
    rcases List.mem_append.1 hc with h | h
    · exact uv_byte tb.size tb.size (Nat.le_refl _) c h
    · exact sbs_byte tb c h
  have hb2 : ∀ c ∈ l2, c < 256 := fun c hc => by
    rw [← hl2] at hc
    simp only [List.nil_append, List.append_assoc, List.mem_append] at hc
    rcases hc with h | h | h | h
    · exact uv_byte ta.size ta.size (Nat.le_refl _) c h
    · exact sbs_byte ta c h
    · exact uv_byte tb.size tb.size (Nat.le_refl _) c h
    · exact sbs_byte tb c h
  obtain ⟨l3, hl3⟩ : ∃ l3, uv tb.size ++ sbs tb = l3 := ⟨_, rfl⟩
  rw [hl3] at e1 e2 hb3
  have hlen3 : l3.length ≤ 3000 := by rw [← hl3, List.length_append, sbs_len]; omega
  have HR1 : Hid (∀ u r, RAt r l2 0 u → Calls Tryz.prog 97 #[.pointer (some ⟨r, 0, none⟩)] u (fun e w9 => e = .returned (.string ta) ∧ RAt r l3 0 w9 ∧ At1 r u w9)) := Lib.hid fun u r h => by
    have := rText r l2 u h hb2 (by omega)
    simpa only [e1, strB_sbs] using this
  have HR2 : Hid (∀ u r, RAt r l3 0 u → Calls Tryz.prog 97 #[.pointer (some ⟨r, 0, none⟩)] u (fun e w9 => e = .returned (.string tb) ∧ RAt r [] 0 w9 ∧ At1 r u w9)) := Lib.hid fun u r h => by
    have := rText r l3 u h hb3 (by omega)
    simpa only [e2, strB_sbs] using this
  have HL := Lib.hid hlen
  clear hl2 e1 e2 hb2 hb3 hl3 hlen hlen3 hva hvb
  have hlt := hW.lt
  go_wp2_with fail
  refine (wDone b0 l2 _ hW (by have := HL.out; omega)).mono ?_
  rintro e V4 ⟨A1, c1, rfl, hBI, k1⟩
  replace hbx := hbx.trans (k1.mono (Nat.le_of_lt hlt))
  replace hlt := Nat.lt_of_lt_of_le hlt k1.size
  clear hW k1
  go_wp2_with fail
  refine (wRead A1 c1 l2 V4 hBI (by have := HL.out; omega)).mono ?_
  rintro e V5 ⟨r, rfl, hr, hR, k1⟩
  replace hbx := hbx.trans (k1.mono (Nat.le_of_lt hlt))
  replace hlt := Nat.lt_of_lt_of_le hlt hr
  clear hBI k1 hr
  go_wp2_with fail
  refine (HR1.out _ _ hR).mono ?_
  rintro e V6 ⟨rfl, hR1, k1⟩
  replace hbx := hbx.trans ((k1.below (Nat.le_of_lt hR.lt)).mono (Nat.le_of_lt hlt))
  replace hR := hR1
  clear hR1 k1
  have hT := (HF3.out _ hbx).2.2.2.2.1
  have hbq : Bq b0 W3 V6 := ⟨hbx, Nat.le_of_lt (Nat.lt_trans hlt hR.lt)⟩
  clear hbx
  go_wp2_with fail
  refine (HPa.out _ hT).mono ?_
  rintro e x11 ⟨p, rfl, k1_, hp⟩
  go_upto_region 10 with fail
  refine wp_new1 fun x12 hP k2_ => ?_
  obtain ⟨gP, e_⟩ : ∃ gP, gP = x11.heap.size := ⟨_, rfl⟩
  rw [← e_] at hP ⊢
  have m1_hR := (hR.on k1_).lt
  rw [← e_] at m1_hR
  clear e_
  have kk_ := Below.call k1_ k2_
  replace hR := hR.on kk_
  replace hT := hT.on kk_
  replace hbq := hbq.on kk_
  replace hp := hp.on k2_
  clear k1_ k2_ kk_
  have hbx := hbq.1
  clear hbq
  go_wp2_with fail
  refine (HR2.out _ _ hR).mono ?_
  rintro e V8 ⟨rfl, hR1, k1⟩
  replace hbx := hbx.trans ((k1.below (Nat.le_of_lt hR.lt)).mono (Nat.le_of_lt hlt))
  replace hp := hp.keeps (hR.keeps hR1 k1)
  replace hP := hP.at1 k1 (by omega)
  clear hT
  have hT := (HF3.out _ hbx).2.2.2.2.1
  replace hR := hR1
  clear hR1 k1
  have hbq : Bq b0 W3 V8 := ⟨hbx, Nat.le_of_lt (Nat.lt_trans hlt hR.lt)⟩
  clear hbx
  go_wp2_with fail
  refine (HPb.out _ hT).mono ?_
  rintro e x13 ⟨q, rfl, k1_, hq⟩
  go_upto_region 11 with fail
  refine wp_new1 fun x14 hQ k2_ => ?_
  have kk_ := Below.call k1_ k2_
  replace hR := hR.on kk_
  replace hT := hT.on kk_
  replace hp := hp.on kk_
  replace hP := hP.on kk_
  replace hbq := hbq.on kk_
  replace hq := hq.on k2_
  clear k1_ k2_ kk_
  have hbx := hbq.1
  clear hbq
  obtain ⟨hx, hy, hX, hY, _, b1⟩ := HF3.out _ hbx
  go_wp2_with fail
  refine (rEnd r [] 0 _ hR (by simp)).mono ?_
  rintro e V9 ⟨rfl, e_⟩
  obtain rfl := e_.symm
  clear hbx HF3 hR hlt
  obtain ⟨c0_0, c0_1, c0_2, c0_3, _⟩ := hP.all4
  obtain ⟨c1_0, c1_1, c1_2, c1_3, _⟩ := hX.all4
  go_wp2_with fail
  refine (equal_eq' hp hx rfl hT).mono ?_
  rintro e x15 ⟨rfl, k1_⟩
  clear c0_0 c0_1 c0_2 c0_3 c1_0 c1_1 c1_2 c1_3
  replace hT := hT.on k1_
  replace hp := hp.on k1_
  replace hP := hP.on k1_
  replace hq := hq.on k1_
  replace hQ := hQ.on k1_
  replace hx := hx.on k1_
  replace hy := hy.on k1_
  replace hX := hX.on k1_
  replace hY := hY.on k1_
  replace b1 := Below.call b1 k1_
  clear k1_
  obtain ⟨c0_0, c0_1, c0_2, c0_3, _⟩ := hQ.all4
  obtain ⟨c1_0, c1_1, c1_2, c1_3, _⟩ := hY.all4
  go_wp2_with fail
  refine (equal_eq' hq hy rfl hT).mono ?_
  rintro e x16 ⟨rfl, k1_⟩
  clear c0_0 c0_1 c0_2 c0_3 c1_0 c1_1 c1_2 c1_3
  replace hT := hT.on k1_
  replace hp := hp.on k1_
  replace hP := hP.on k1_
  replace hq := hq.on k1_
  replace hQ := hQ.on k1_
  replace hx := hx.on k1_
  replace hy := hy.on k1_
  replace hX := hX.on k1_
  replace hY := hY.on k1_
  replace b1 := Below.call b1 k1_
  clear k1_
  obtain ⟨c0_0, c0_1, c0_2, c0_3, _⟩ := hP.all4
  obtain ⟨c1_0, c1_1, c1_2, c1_3, _⟩ := hQ.all4
  go_wp2_with fail
  refine (subF_ok hp hq sa sb (by omega)).mono ?_
  rintro e x17 ⟨dd, rfl, k1_, hdd⟩
  clear c0_0 c0_1 c0_2 c0_3 c1_0 c1_1 c1_2 c1_3
  go_upto_region 14 with fail
  refine wp_new1 fun x18 hDD k2_ => ?_
  have kk_ := Below.call k1_ k2_
  replace hT := hT.on kk_
  replace hp := hp.on kk_
  replace hP := hP.on kk_
  replace hq := hq.on kk_
  replace hQ := hQ.on kk_
  replace hx := hx.on kk_
  replace hy := hy.on kk_
  replace hX := hX.on kk_
  replace hY := hY.on kk_
  replace hdd := hdd.on k2_
  replace b1 := Below.call b1 kk_
  clear k1_ k2_ kk_
  clear hp hP hq hQ
  obtain ⟨c0_0, c0_1, c0_2, c0_3, _⟩ := hX.all4
  obtain ⟨c1_0, c1_1, c1_2, c1_3, _⟩ := hY.all4
  go_wp2_with fail
  refine (equalF_any hx hy hT).mono ?_
  rintro e x19 ⟨rfl, k1_⟩
  clear c0_0 c0_1 c0_2 c0_3 c1_0 c1_1 c1_2 c1_3
  replace hT := hT.on k1_
  replace hx := hx.on k1_
  replace hy := hy.on k1_
  replace hX := hX.on k1_
  replace hY := hY.on k1_
  replace hdd := hdd.on k1_
  replace hDD := hDD.on k1_
  replace b1 := Below.call b1 k1_
  clear k1_
  go_upto_if 72 with fail
  by_cases hab : a = b
  · have hd1 : decide (a = b) = true := decide_eq_true hab
    rw [hd1]
    have HSd : Hid (∀ v, FR dd v (a - b) → Calls Tryz.prog 84 #[.agg #[.bool dd.p.neg, .slice dd.p.A dd.p.n dd.p.c, .bool dd.l.neg, .slice dd.l.A dd.l.n dd.l.c]] v (RetInt v 0)) := Lib.hid fun v h1 => by
      have h2 := signF h1
      rwa [show sgnR (a - b) = 0 by rw [hab, Rat.sub_self]; rfl] at h2
    obtain ⟨hv, hhv⟩ : ∃ hv, hashv ⟨#[102, 114, 97, 99]⟩ (sbs ta) = hv := ⟨_, rfl⟩
    have HHs : Hid (∀ (p : Option Addr × Nat) v, BIs v v.heap.size p.1 p.2 (sbs ta) → Calls Tryz.prog 99 #[.string ⟨#[102, 114, 97, 99]⟩, .slice p.1 (sbs ta).length p.2] v (fun e w9 => e = .returned (.int .u64 hv) ∧ Below v.heap.size v w9)) := Lib.hid fun p v h1 => by
      rw [← hhv]; exact hBytes _ (by decide) p.1 (sbs ta) (by rw [sbs_len]; omega) p.2 v h1
    subst hab
    clear hhv hd1
    go_upto_region 15 with fail
    refine wp_region_specs x19 [Spec.eq (.int .i64 0), Spec.eq (.bool true), Spec.eq (.bool true), Spec.eq (.agg #[.bool dd.p.neg, .slice dd.p.A dd.p.n dd.p.c, .bool dd.l.neg, .slice dd.l.A dd.l.n dd.l.c]), Spec.eq (.int .i64 0), Spec.eq (.bool true), Spec.eq (.bool true), Spec.eq (.bool true), Spec.eq (.agg #[.bool x.p.neg, .slice x.p.A x.p.n x.p.c, .bool x.l.neg, .slice x.l.A x.l.n x.l.c]), Spec.eq (.string ta), sBI (sbs ta), Spec.eq (.int .u64 hv), Spec.eq (.agg #[.bool y.p.neg, .slice y.p.A y.p.n y.p.c, .bool y.l.neg, .slice y.l.A y.l.n y.l.c]), Spec.eq (.string ta), sBI (sbs ta), Spec.eq (.int .u64 hv), Spec.eq (.bool true), Spec.eq (.bool true), Spec.eq (.bool true), Spec.eq (.bool true), Spec.eq (.bool true), Spec.eq (.bool true)]
        (by kernel_rfl) (by kernel_rfl) rfl (by kernel_rfl) (Below.drew (Below.refl _ _)) ?_ ?_
    ·
      refine RegSteps.cons ?_ ?_
      · intro _ az wz hC hF hD _ K hK; have q12 : az.tmps[12]? = some (.int .i64 0) := hF 12 rfl; clear hF hD; refine want_none rfl ?_; go_simp; exact hK _ _ hC (Below.refl _ _) rfl
      refine RegSteps.cons ?_ ?_
      · intro _ az wz hC hF hD _ K hK; obtain ⟨_, q73, rfl⟩ := dep hD 0 rfl rfl rfl rfl; clear hF hD; refine want_none rfl ?_; go_simp; exact hK _ _ hC (Below.refl _ _) rfl
      refine RegSteps.cons ?_ ?_
      · intro _ az wz hC hF hD _ K hK; obtain ⟨_, q74, rfl⟩ := dep hD 1 rfl rfl rfl rfl; clear hF hD; refine want_none rfl ?_; go_simp; exact hK _ _ hC (Below.refl _ _) rfl
      refine RegSteps.cons ?_ ?_
      · intro _ az wz hC hF hD _ K hK; have q11 : az.tmps[11]? = some (.pointer (some ⟨x17.heap.size, 0, none⟩)) := hF 11 rfl; obtain ⟨_, qg, rfl⟩ := dep hD 2 rfl rfl rfl rfl; obtain ⟨l0, l1, l2, l3, _⟩ := (hDD.on hC).all4; clear hF hD; refine want_yes rfl rfl rfl qg ?_; go_simp; exact hK _ _ hC (Below.refl _ _) rfl
      refine RegSteps.cons ?_ ?_
      · intro _ az wz hC hF hD _ K hK; obtain ⟨_, q76, rfl⟩ := dep hD 3 rfl rfl rfl rfl; obtain ⟨_, qg, rfl⟩ := dep hD 2 rfl rfl rfl rfl; clear hF hD; refine want_yes rfl rfl rfl qg ?_; go_simp; refine (HSd.out _ (hdd.on hC)).mono ?_; rintro e wy ⟨rfl, k⟩; exact hK _ _ (Below.call hC k) k rfl
      refine RegSteps.cons ?_ ?_
      · intro _ az wz hC hF hD _ K hK; obtain ⟨_, q77, rfl⟩ := dep hD 4 rfl rfl rfl rfl; obtain ⟨_, qg, rfl⟩ := dep hD 2 rfl rfl rfl rfl; clear hF hD; refine want_yes rfl rfl rfl qg ?_; go_simp; exact hK _ _ hC (Below.refl _ _) rfl
      refine RegSteps.cons ?_ ?_
      · intro _ az wz hC hF hD _ K hK; obtain ⟨_, q75, rfl⟩ := dep hD 2 rfl rfl rfl rfl; obtain ⟨_, q78, rfl⟩ := dep hD 5 rfl rfl rfl rfl; clear hF hD; refine want_none rfl ?_; go_simp; exact hK _ _ hC (Below.refl _ _) rfl
      refine RegSteps.cons ?_ ?_
      · intro _ az wz hC hF hD _ K hK; obtain ⟨_, q79, rfl⟩ := dep hD 6 rfl rfl rfl rfl; clear hF hD; refine want_none rfl ?_; go_simp; exact hK _ _ hC (Below.refl _ _) rfl
      refine RegSteps.cons ?_ ?_
      · intro _ az wz hC hF hD _ K hK; have q3 : az.tmps[3]? = some (.pointer (some ⟨v2.heap.size, 0, none⟩)) := hF 3 rfl; obtain ⟨_, qg, rfl⟩ := dep hD 7 rfl rfl rfl rfl; obtain ⟨l0, l1, l2, l3, _⟩ := (hX.on hC).all4; clear hF hD; refine want_yes rfl rfl rfl qg ?_; go_simp; exact hK _ _ hC (Below.refl _ _) rfl
      refine RegSteps.cons ?_ ?_
      · intro _ az wz hC hF hD _ K hK; obtain ⟨_, q81, rfl⟩ := dep hD 8 rfl rfl rfl rfl; obtain ⟨_, qg, rfl⟩ := dep hD 7 rfl rfl rfl rfl; clear hF hD; refine want_yes rfl rfl rfl qg ?_; go_simp; refine (HSa.out _ _ (hx.on hC) (hT.on hC)).mono ?_; rintro e wy ⟨rfl, k⟩; exact hK _ _ (Below.call hC k) k rfl
      refine RegSteps.cons ?_ ?_
      · intro _ az wz hC hF hD _ K hK; obtain ⟨_, q82, rfl⟩ := dep hD 9 rfl rfl rfl rfl; obtain ⟨_, qg, rfl⟩ := dep hD 7 rfl rfl rfl rfl; obtain ⟨V_, A_, c_, hcv_, k_, hbi_⟩ := conv_bis_to wz ta; clear hF hD; refine want_yes rfl rfl rfl qg ?_; go_simp; exact hK _ _ (Below.call hC k_) k_ ⟨(A_, c_), rfl, hbi_⟩
      refine RegSteps.cons ?_ ?_
      · intro _ az wz hC hF hD _ K hK; obtain ⟨_, q83, x83, rfl, hx83⟩ := dep hD 10 rfl rfl rfl rfl; obtain ⟨_, qg, rfl⟩ := dep hD 7 rfl rfl rfl rfl; clear hF hD; refine want_yes rfl rfl rfl qg ?_; go_simp; refine (HHs.out _ _ hx83).mono ?_; rintro e wy ⟨rfl, k⟩; exact hK _ _ (Below.call hC k) k rfl
      refine RegSteps.cons ?_ ?_
      · intro _ az wz hC hF hD _ K hK; have q4 : az.tmps[4]? = some (.pointer (some ⟨v5.heap.size, 0, none⟩)) := hF 4 rfl; obtain ⟨_, qg, rfl⟩ := dep hD 7 rfl rfl rfl rfl; obtain ⟨l0, l1, l2, l3, _⟩ := (hY.on hC).all4; clear hF hD; refine want_yes rfl rfl rfl qg ?_; go_simp; exact hK _ _ hC (Below.refl _ _) rfl
      refine RegSteps.cons ?_ ?_
      · intro _ az wz hC hF hD _ K hK; obtain ⟨_, q85, rfl⟩ := dep hD 12 rfl rfl rfl rfl; obtain ⟨_, qg, rfl⟩ := dep hD 7 rfl rfl rfl rfl; clear hF hD; refine want_yes rfl rfl rfl qg ?_; go_simp; refine (HSa.out _ _ (hy.on hC) (hT.on hC)).mono ?_; rintro e wy ⟨rfl, k⟩; exact hK _ _ (Below.call hC k) k rfl
      refine RegSteps.cons ?_ ?_
      · intro _ az wz hC hF hD _ K hK; obtain ⟨_, q86, rfl⟩ := dep hD 13 rfl rfl rfl rfl; obtain ⟨_, qg, rfl⟩ := dep hD 7 rfl rfl rfl rfl; obtain ⟨V_, A_, c_, hcv_, k_, hbi_⟩ := conv_bis_to wz ta; clear hF hD; refine want_yes rfl rfl rfl qg ?_; go_simp; exact hK _ _ (Below.call hC k_) k_ ⟨(A_, c_), rfl, hbi_⟩
      refine RegSteps.cons ?_ ?_
      · intro _ az wz hC hF hD _ K hK; obtain ⟨_, q87, x87, rfl, hx87⟩ := dep hD 14 rfl rfl rfl rfl; obtain ⟨_, qg, rfl⟩ := dep hD 7 rfl rfl rfl rfl; clear hF hD; refine want_yes rfl rfl rfl qg ?_; go_simp; refine (HHs.out _ _ hx87).mono ?_; rintro e wy ⟨rfl, k⟩; exact hK _ _ (Below.call hC k) k rfl
      refine RegSteps.cons ?_ ?_
      · intro _ az wz hC hF hD _ K hK; obtain ⟨_, q84, rfl⟩ := dep hD 11 rfl rfl rfl rfl; obtain ⟨_, q88, rfl⟩ := dep hD 15 rfl rfl rfl rfl; obtain ⟨_, qg, rfl⟩ := dep hD 7 rfl rfl rfl rfl; clear hF hD; refine want_yes rfl rfl rfl qg ?_; go_simp; exact hK _ _ hC (Below.refl _ _) rfl
      refine RegSteps.cons ?_ ?_
      · intro _ az wz hC hF hD _ K hK; obtain ⟨_, q80, rfl⟩ := dep hD 7 rfl rfl rfl rfl; obtain ⟨_, q89, rfl⟩ := dep hD 16 rfl rfl rfl rfl; clear hF hD; refine want_none rfl ?_; go_simp; exact hK _ _ hC (Below.refl _ _) rfl
      refine RegSteps.cons ?_ ?_
      · intro _ az wz hC hF hD _ K hK; obtain ⟨_, q90, rfl⟩ := dep hD 17 rfl rfl rfl rfl; clear hF hD; refine want_none rfl ?_; go_simp; exact hK _ _ hC (Below.refl _ _) rfl
      refine RegSteps.cons ?_ ?_
      · intro _ az wz hC hF hD _ K hK; obtain ⟨_, qg, rfl⟩ := dep hD 18 rfl rfl rfl rfl; clear hF hD; refine want_yes rfl rfl rfl qg ?_; go_simp; refine (lives4_any _ (hT.on hC)).mono ?_; rintro e wy ⟨rfl, k⟩; exact hK _ _ (Below.call hC k) k rfl
      refine RegSteps.cons ?_ ?_
      · intro _ az wz hC hF hD _ K hK; obtain ⟨_, q91, rfl⟩ := dep hD 18 rfl rfl rfl rfl; obtain ⟨_, q92, rfl⟩ := dep hD 19 rfl rfl rfl rfl; clear hF hD; refine want_none rfl ?_; go_simp; exact hK _ _ hC (Below.refl _ _) rfl
      refine RegSteps.cons ?_ ?_
      · intro _ az wz hC hF hD _ K hK; obtain ⟨_, q93, rfl⟩ := dep hD 20 rfl rfl rfl rfl; clear hF hD; refine want_none rfl ?_; go_simp; exact hK _ _ hC (Below.refl _ _) rfl
      exact RegSteps.nil
    intro w9 hC
    rintro _ rfl _ rfl _ rfl _ rfl _ rfl _ rfl _ rfl _ rfl _ rfl _ rfl _ ⟨y83, rfl, _⟩ _ rfl _ rfl _ rfl _ ⟨y87, rfl, _⟩ _ rfl _ rfl _ rfl _ rfl _ rfl _ rfl _ rfl
    simp only [FinOK, Act.put, List.setIfInBounds_toArray, List.set_cons_zero, List.set_cons_succ]
    have HB := Lib.hid (Below.call b1 hC)
    go_wp2
    go_returns
    exact ⟨rfl, HB.out⟩
  · have hd1 : decide (a = b) = false := decide_eq_false hab
    rw [hd1]
    obtain ⟨sg, hsg⟩ : ∃ c, sgnR (a - b) = c := ⟨_, rfl⟩
    obtain ⟨cm, hcm⟩ : ∃ c, cmpR a b = c := ⟨_, rfl⟩
    have sg0 : ¬ sg = 0 := fun h0 => by
      rw [h0] at hsg
      rcases sgnR_tri (a - b) with ⟨_, e⟩ | ⟨e, _⟩ | ⟨_, e⟩
      · rw [hsg] at e; cases e
      · exact hab (by have h2 := Rat.sub_add_cancel (a := a) (b := b); rw [e, Rat.zero_add] at h2; exact h2.symm)
      · rw [hsg] at e; cases e
    have cm0 : ¬ cm = 0 := fun h0 => hab (cmpR_zero.1 (hcm.trans h0))
    have HSd : Hid (∀ v, FR dd v (a - b) → Calls Tryz.prog 84 #[.agg #[.bool dd.p.neg, .slice dd.p.A dd.p.n dd.p.c, .bool dd.l.neg, .slice dd.l.A dd.l.n dd.l.c]] v (RetInt v sg)) := Lib.hid fun v h1 => by rw [← hsg]; exact signF h1
    have HCm : Hid (∀ v, FR x v a → FR y v b → Calls Tryz.prog 90 #[.agg #[.bool x.p.neg, .slice x.p.A x.p.n x.p.c, .bool x.l.neg, .slice x.l.A x.l.n x.l.c], .agg #[.bool y.p.neg, .slice y.p.A y.p.n y.p.c, .bool y.l.neg, .slice y.l.A y.l.n y.l.c]] v (RetInt v cm)) := Lib.hid fun v h1 h2 => by rw [← hcm]; exact compareF h1 h2
    have q1 : (sg != 0) = true := by simp [sg0]
    have q2 : (cm != 0) = true := by simp [cm0]
    clear hsg hcm hab hd1
    obtain ⟨c0_0, c0_1, c0_2, c0_3, _⟩ := hDD.all4
    go_wp2_with fail
    refine (HSd.out _ hdd).mono ?_
    rintro e x20 ⟨rfl, k1_⟩
    clear c0_0 c0_1 c0_2 c0_3
    replace hT := hT.on k1_
    replace hx := hx.on k1_
    replace hy := hy.on k1_
    replace hX := hX.on k1_
    replace hY := hY.on k1_
    replace hdd := hdd.on k1_
    replace hDD := hDD.on k1_
    replace b1 := Below.call b1 k1_
    clear k1_
    obtain ⟨c0_0, c0_1, c0_2, c0_3, _⟩ := hX.all4
    obtain ⟨c1_0, c1_1, c1_2, c1_3, _⟩ := hY.all4
    go_wp2_with fail
    refine (HCm.out _ hx hy).mono ?_
    rintro e x21 ⟨rfl, k1_⟩
    clear c0_0 c0_1 c0_2 c0_3 c1_0 c1_1 c1_2 c1_3
    replace hT := hT.on k1_
    replace hx := hx.on k1_
    replace hy := hy.on k1_
    replace hX := hX.on k1_
    replace hY := hY.on k1_
    replace hdd := hdd.on k1_
    replace hDD := hDD.on k1_
    replace b1 := Below.call b1 k1_
    clear k1_
    go_wp2_with fail
    refine (lives4_any _ hT).mono ?_
    rintro e x22 ⟨rfl, k1_⟩
    replace hT := hT.on k1_
    replace hx := hx.on k1_
    replace hy := hy.on k1_
    replace hX := hX.on k1_
    replace hY := hY.on k1_
    replace hdd := hdd.on k1_
    replace hDD := hDD.on k1_
    replace b1 := Below.call b1 k1_
    clear k1_
    have HB := Lib.hid b1
    go_wp2
    go_returns
    exact ⟨by first | rfl | (simp [sg0, cm0]; done), HB.out⟩
end Go.Proofs.YthafhbogpfggjaaGreatDoor
