/-
  Contract of package wide: Parse.
-/
import Derived.Test.YthafhbogpfggjaaGreatDoorW16
import Derived.Lib.AtoiErrMem
import Derived.Test.YthafhbogpfggjaaGreatDoorT1
import Derived.Test.YthafhbogpfggjaaGreatDoorShelf2
import Derived.Test.YthafhbogpfggjaaGreatDoorReg
namespace Go.Proofs.YthafhbogpfggjaaGreatDoor
open Go.RowKit Mag
open DecM (digV isDig)

theorem hasPrefix_neg (l : List UInt8) : Lib.hasPrefix l [45] = Txt.neg l := by
  unfold Lib.hasPrefix Txt.neg
  cases l with
  | nil => rfl
  | cons c t => simp [List.isPrefixOf]; exact BEq.comm
theorem trimPrefix_digs (l : List UInt8) : Lib.trimPrefix l [45] = Txt.digs l := by
  unfold Lib.trimPrefix Txt.digs
  rw [hasPrefix_neg]
  simp
def tenDigits : List UInt8 := [48, 49, 50, 51, 52, 53, 54, 55, 56, 57]
theorem ten_dig (c : UInt8) : tenDigits.contains c = isDig c := by
  have h : ∀ n : Fin 256, tenDigits.contains (UInt8.ofNat n.val) = isDig (UInt8.ofNat n.val) := by decide +kernel
  have := h ⟨c.toNat, c.toNat_lt⟩
  simpa using this
theorem dropWhile_nil {p : UInt8 → Bool} {l : List UInt8} : l.dropWhile p = [] ↔ ∀ c ∈ l, p c = true := by
  induction l with
  | nil => simp
  | cons c t ih =>
    rw [List.dropWhile_cons]
    cases hp : p c with
    | true => simp [hp, ih]
    | false => simp [hp]
theorem trim_nil (l : List UInt8) : Lib.trimS l tenDigits = [] ↔ l.all isDig = true := by
  unfold Lib.trimS Lib.trimLeftS Lib.trimRightS
  simp only [ten_dig]
  constructor
  · intro h
    rw [List.all_eq_true]
    rw [dropWhile_nil] at h
    intro c hc
    by_cases hd : isDig c = true
    · exact hd
    · exfalso
      have h2 : l.reverse.dropWhile isDig ≠ [] := by
        intro e
        rw [dropWhile_nil] at e
        exact hd (e c (by simpa using hc))
      obtain ⟨x, hx⟩ : ∃ x, (l.reverse.dropWhile isDig).head? = some x := by
        cases h3 : l.reverse.dropWhile isDig with
        | nil => exact absurd h3 h2
        | cons a b => exact ⟨a, rfl⟩
      have h4 := List.head?_dropWhile_not isDig l.reverse
      rw [hx] at h4
      have h5 := h x (by rw [List.mem_reverse]; exact Txt.head_mem hx)
      simp [h5] at h4
  · intro h
    rw [List.all_eq_true] at h
    have : l.reverse.dropWhile isDig = [] := by
      rw [dropWhile_nil]
      intro c hc; exact h c (by simpa using hc)
    rw [this]; rfl
/-- strconv.Atoi at digits, of a world that only grows. -/
theorem Atoi_b (s : ByteArray) (v : Nat) (hs : s.size ≤ 9) (h : Lib.atoiAll s.data.toList = .ok (v : Int)) (w : World) : Calls Tryz.prog 115 #[.string s] w fun e w' => e = .returned (.tuple #[.int .i64 (v : Int), .nilIface]) ∧ Below w.heap.size w w' :=
  (Tryz.strconv_Atoi_ok s (by omega) v h w).mono fun _ _ ⟨he, hw⟩ => ⟨he, by
    rcases hw with rfl | ⟨t, rfl⟩
    · exact Below.refl _ _
    · exact Lib.bytesWorld_below w _ t⟩
/-- What Parse has read of the digits D: the first i of them; sd is what is left. -/
structure ParSt (D : List UInt8) (i : Nat) (lm : List Nat) (sd : ByteArray) : Prop where
  str : sd.data.toList = D.drop i
  le : i ≤ D.length
  v : val lm = digV (D.take i)
  mul : i = 0 ∨ (D.length - i) % 9 = 0
  len : lm.length ≤ 2 * i
theorem ParSt.start {D : List UInt8} {sd : ByteArray} (h : sd.data.toList = D) : ParSt D 0 [] sd := ⟨by rw [h]; rfl, by omega, by simp [val, digV], .inl rfl, by simp⟩
theorem ParSt.size {D : List UInt8} {i : Nat} {lm : List Nat} {sd : ByteArray} (h : ParSt D i lm sd) : sd.size = D.length - i := by rw [str_size h.str, List.length_drop]
theorem ParSt.done {D : List UInt8} {i : Nat} {lm : List Nat} {sd : ByteArray} (h : ParSt D i lm sd) (h0 : sd.size = 0) : val lm = digV D := by
  have h1 := h.size
  have h2 := h.le
  rw [h.v, List.take_of_length_le (by omega)]
theorem ParSt.chunk {D : List UInt8} {i : Nat} {lm : List Nat} {sd : ByteArray} (h : ParSt D i lm sd) (hall : D.all isDig = true) {n : Nat} (h1 : 1 ≤ n) (h9 : n ≤ 9) (hn : n ≤ sd.size) :
    Lib.atoiAll (sd.extract 0 n).data.toList = .ok ((digV ((D.drop i).take n) : Nat) : Int) ∧ digV ((D.drop i).take n) < 1000000000 ∧ (sd.extract 0 n).size ≤ 9 := by
  have hs := h.size
  have e : (sd.extract 0 n).data.toList = (D.drop i).take n := by
    rw [← h.str]; simp
  have hl : ((D.drop i).take n).length = n := by rw [List.length_take, List.length_drop]; omega
  have hd : ∀ c ∈ (D.drop i).take n, isDig c = true := fun c hc => List.all_eq_true.1 hall c (List.mem_of_mem_drop (List.mem_of_mem_take hc))
  refine ⟨?_, ?_, ?_⟩
  · rw [e]
    exact Txt.atoi_digits hd (by intro e2; rw [e2] at hl; simp at hl; omega) (by omega)
  · have h2 := DecM.digV_lt hd
    rw [hl] at h2
    have h3 : (10 : Nat) ^ n ≤ 10 ^ 9 := Nat.pow_le_pow_right (by decide) h9
    omega
  · rw [str_size e, hl]; exact h9
theorem ParSt.next {D : List UInt8} {i : Nat} {lm : List Nat} {sd : ByteArray} (h : ParSt D i lm sd) (_hall : D.all isDig = true) {n : Nat} (h1 : 1 ≤ n) (hn : n = (sd.size - 1) % 9 + 1) {ds : List Nat} (hv : val ds = val lm * 1000000000 + digV ((D.drop i).take n)) (hl : ds.length ≤ lm.length + 2) (h0 : 0 < sd.size) :
    ParSt D (i + n) ds (sd.extract n sd.size) := by
  have hs := h.size
  have hle := h.le
  have hln := h.len
  have hm := h.mul
  refine ⟨?_, by omega, ?_, .inr (by omega), by omega⟩
  · have e : (sd.extract n sd.size).data.toList = sd.data.toList.drop n := by
      simp
      apply List.take_of_length_le
      simp
    rw [e, h.str, List.drop_drop]
  · rw [Txt.digV_take_more D i n (by omega), hv, h.v]
    rcases hm with hm | hm
    · subst hm; simp [digV]
    · have : n = 9 := by omega
      subst this; rfl
set_option maxRecDepth 100000 in
set_option maxHeartbeats 3200000 in
theorem wParse_any (s : ByteArray) (hs : s.size ≤ 140737488355328) (w : World) : Calls Tryz.prog 32 #[.string s] w (IntE w (Txt.num top s.data.toList).1 (Txt.num top s.data.toList).2) := by
  obtain ⟨l, hl⟩ : ∃ l, l = s.data.toList := ⟨_, rfl⟩
  rw [← hl]
  have HL := Lib.hid hl.symm
  have hsz : s.size = l.length := str_size hl.symm
  have hlen : l.length ≤ 140737488355328 := by omega
  clear hl hs
  go_enter Tryz.func32, Tryz.ntmps32
  go_upto_region 1 with fail
  refine wp_new1 fun W hO hB => ?_
  have hbad : ∀ (w2 : World) (z e : Int), Txt.num top l = (z, e) → z = 0 → Below W.heap.size W w2 → IntE w (Txt.num top l).1 (Txt.num top l).2 (.returned (.tuple #[.agg #[.bool false, .slice none 0 0], .int .i64 e])) ((w2.setCell ⟨w.heap.size, 0, none⟩ (.bool false)).setCell ⟨w.heap.size, 1, none⟩ (.slice none 0 0)) := fun w2 z e hz h0 hb => by
    rw [hz]
    exact ⟨IV.zero, rfl, Below.put2 (Below.call hB hb) (Nat.le_refl _) _ _, by rw [h0]; exact IV.zero_is _⟩
  have HBD := Lib.hid hbad
  clear hbad
  rcases Nat.lt_or_ge 5000 l.length with hbig | hsmall
  · have hn := Txt.num_long (T := top) hbig
    have hc : (5000 : Int) < (s.size : Int) := by omega
    have HF := Lib.hid (HBD.out W 0 4 hn rfl (Below.refl _ _))
    obtain ⟨z0, z1, f0, f1⟩ := hO.all2
    obtain ⟨q0, q1, _⟩ := (hO.put2 (.bool false) (.slice none 0 0)).all2
    clear hn
    go_wp2
    exact bodyPost_ret (v := .tuple #[.agg #[.bool false, .slice none 0 0], .int .i64 4]) (by simp [results, Tryz.results32, go_sem, q0, q1]) rfl HF.out
  · have hc : ¬ (5000 : Int) < (s.size : Int) := by omega
    go_wp2_with fail
    refine (Tryz.strings_CutPrefix s ⟨#[45]⟩ _).mono ?_
    rintro e w1 ⟨rfl, rfl⟩
    rw [HL.out, show (⟨#[45]⟩ : ByteArray).data.toList = [45] from rfl, trimPrefix_digs, hasPrefix_neg]
    obtain ⟨sd, hsd⟩ : ∃ sd : ByteArray, sd = ⟨(Txt.digs l).toArray⟩ := ⟨_, rfl⟩
    rw [← hsd]
    have hdl : sd.data.toList = Txt.digs l := by rw [hsd]
    have hdsz : sd.size = (Txt.digs l).length := str_size hdl
    have hdle : (Txt.digs l).length ≤ l.length := by unfold Txt.digs; split <;> simp
    obtain ⟨ng, hng⟩ : ∃ ng, ng = Txt.neg l := ⟨_, rfl⟩
    obtain ⟨D, hD⟩ : ∃ D, D = Txt.digs l := ⟨_, rfl⟩
    have HNG := Lib.hid hng
    have HD := Lib.hid hD
    rw [← hng]
    rw [← hD] at hdl hdsz hdle
    clear hsd
    rcases D with _ | ⟨c, r⟩
    · have hb : Txt.bad l = true := by unfold Txt.bad; rw [← hD]; rfl
      have hn := Txt.num_bad (T := top) (by omega) hb
      have HF := Lib.hid (HBD.out w1 0 2 hn rfl (Below.refl _ _))
      obtain ⟨z0, z1, f0, f1⟩ := hO.all2
      obtain ⟨q0, q1, _⟩ := (hO.put2 (.bool false) (.slice none 0 0)).all2
      have hse : sd = ⟨#[]⟩ := str_eq hdl
      clear hdl hb hn hD hng
      subst hse
      go_wp2
      exact bodyPost_ret (v := .tuple #[.agg #[.bool false, .slice none 0 0], .int .i64 2]) (by simp [results, Tryz.results32, go_sem, q0, q1]) rfl HF.out
    · have hse : sd.toList.isEmpty = false := by rw [ByteArray.toList_eq, hdl]; rfl
      have HDL := Lib.hid hdl
      have hp0 : 0 < sd.size := by rw [hdsz]; simp
      have hix : sd[0]'hp0 = c := by
        have : sd[0]'hp0 = sd.data.toList[0]'(by rw [hdl]; simp) := by simp; rfl
        rw [this]
        simp only [hdl, List.getElem_cons_zero]
      clear hdl hD hng
      have hT := Tryz.strings_Trim_set sd ⟨#[48, 49, 50, 51, 52, 53, 54, 55, 56, 57]⟩ w1 (by omega) (by decide) (Go.Proofs.ascii_of_all (by decide))
      rw [HDL.out, show (⟨#[48, 49, 50, 51, 52, 53, 54, 55, 56, 57]⟩ : ByteArray).data.toList = tenDigits from rfl] at hT
      have HT := Lib.hid hT
      have HSZ := Lib.hid hdsz
      clear hT hdsz
      go_wp2_with fail
      refine HT.out.mono ?_
      rintro e w2 ⟨rfl, k2⟩
      clear HT
      have hOk := hO.on k2
      obtain ⟨z0, z1, f0, f1⟩ := hOk.all2
      obtain ⟨q0, q1, _⟩ := (hOk.put2 (.bool false) (.slice none 0 0)).all2
      by_cases hall : (c :: r).all isDig = true
      · rw [(trim_nil _).2 hall]
        by_cases hbd : Txt.bad l = true
        · have hn := Txt.num_bad (T := top) (by omega) hbd
          have HF := Lib.hid (HBD.out w2 0 2 hn rfl k2)
          unfold Txt.bad at hbd
          rw [← HD.out, ← HNG.out, hall] at hbd
          simp only [List.isEmpty_cons, List.head?_cons, Bool.not_true, Bool.or_false, Bool.false_or, Bool.and_eq_true, beq_iff_eq, Option.some.injEq] at hbd
          obtain ⟨hc48, hnl⟩ := hbd
          subst hc48
          cases ng with
          | true =>
            clear hnl hn hall
            go_wp2
            exact bodyPost_ret (v := .tuple #[.agg #[.bool false, .slice none 0 0], .int .i64 2]) (by simp [results, Tryz.results32, go_sem, q0, q1]) rfl HF.out
          | false =>
            have hl1 : (1 : Int) < (sd.size : Int) := by have h9 := HSZ.out; simp at hnl; rw [List.length_cons] at h9; omega
            clear hnl hn hall
            go_wp2
            exact bodyPost_ret (v := .tuple #[.agg #[.bool false, .slice none 0 0], .int .i64 2]) (by simp [results, Tryz.results32, go_sem, q0, q1]) rfl HF.out
        · have hbd0 : Txt.bad l = false := by simpa using hbd
          have hnum : Txt.num top l = (clip (sgn ng (digV (c :: r))), lim (sgn ng (digV (c :: r)))) := by
            have habs : (sgn ng (digV (c :: r))).natAbs = digV (c :: r) := by cases ng <;> simp [sgn]
            rcases Nat.lt_or_ge (digV (c :: r)) top with h | h
            · rw [Txt.num_ok (by omega) hbd0 (by rw [← HD.out]; omega), clip_in (by rw [habs]; exact h), lim_in (by rw [habs]; exact h), ← HD.out, ← HNG.out]; rfl
            · rw [Txt.num_big (by omega) hbd0 (by rw [← HD.out]; exact h), clip_out (by rw [habs]; omega), lim_out (by rw [habs]; omega)]
          have HN1 := Lib.hid (show lim (sgn ng (digV (c :: r))) = (Txt.num top l).2 by rw [hnum])
          have HN2 := Lib.hid (show (Txt.num top l).1 = clip (sgn ng (digV (c :: r))) by rw [hnum])
          have HST := Lib.hid (ParSt.start HDL.out)
          have hbw : Below w1.heap.size w1 w2 := k2
          unfold Txt.bad at hbd0
          rw [← HD.out, ← HNG.out, hall] at hbd0
          simp only [List.isEmpty_cons, List.head?_cons, Bool.not_true, Bool.or_false, Bool.false_or, Bool.and_eq_false_iff, beq_eq_false_iff_ne, ne_eq, Option.some.injEq, Bool.or_eq_false_iff, decide_eq_false_iff_not] at hbd0
          have hO0 := hO
          obtain ⟨D, hDD⟩ : ∃ D, D = c :: r := ⟨_, rfl⟩
          by_cases hc48 : c = 48
          · have hng : ng = false := by rcases hbd0 with h | h; exact absurd hc48 h; exact h.1
            have hl1 : ¬ (1 : Int) < (sd.size : Int) := by rcases hbd0 with h | h; exact absurd hc48 h; have := h.2; have h9 := HSZ.out; omega
            clear hbd0 hbd hnum z0 z1 f0 f1 q0 q1 hOk
            rw [hc48] at hix
            rw [← hDD] at HN1 HN2 HST hall HDL HD hdle
            clear hDD hc48
            subst hng
            go_wp2_with fail
            go_loopw [4, 6] (fun s4 s6 wr => ∃ (i : Nat) (sd : ByteArray) (A : Option Addr) (c : Nat) (lm : List Nat), s4 = .string sd ∧ s6 = .slice A (List.length lm) c ∧ MagIs wr A lm c ∧ Hid (ParSt D i lm sd) ∧ Below w1.heap.size w1 wr) (fun s4 _ _ => match s4 with | .string s => s.size | _ => 0)
            case atStart => exact ⟨0, sd, none, 0, [], rfl, rfl, ⟨Sl.nil_, Ws.nil, Nz.nil, by simp, by unfold maxLen; omega⟩, HST, hbw⟩
            case round =>
              clear hO HDL hbw
              obtain ⟨i, sd, A, c, lm, rfl, rfl, hm, hst, hbw⟩ := hrel
              have hds5 : sd.size ≤ 5000 := by have := hst.out.size; omega
              have hle := hst.out.le
              have hlm := hst.out.len
              rcases Nat.eq_zero_or_pos sd.size with h0 | h0
              · have hfin := Lib.hid (hst.out.done h0)
                have h0' : (sd.size : Int) = 0 := by omega
                have hOw := hO0.on hbw
                obtain ⟨z0, z1, f0, f1⟩ := hOw.all2
                have HB := Lib.hid (Below.call hB hbw)
                have hS := signed_lim false A c lm wr (sgn false (val lm)) hm.sl hm.cap hm.mx hm.ws rfl
                have HS := Lib.hid hS
                clear hS
                go_wp2_with fail
                refine HS.out.mono ?_
                rintro e w3 ⟨n3, A3, k3, c3, rfl, hb3, hw3⟩
                have hO3 := hOw.on hb3
                have hw4 := hw3.put2 hO3 (by simp) (by simp) (.bool n3) (.slice A3 k3 c3)
                have hO4 := hO3.put2 (.bool n3) (.slice A3 k3 c3)
                have hb4 := Below.put2 (Below.call HB.out hb3) (Nat.le_refl _) (.bool n3) (.slice A3 k3 c3)
                obtain ⟨z0, z1, f0, f1⟩ := hO3.all2
                obtain ⟨q0, q1, _⟩ := hO4.all2
                rw [hfin.out] at hw4
                have HW := Lib.hid (And.intro hb4 hw4)
                clear hw4 hw3 hO4 hO3 hOw hb4
                go_wp2
                refine bodyPost_ret (v := .tuple #[.agg #[.bool n3, .slice A3 k3 c3], .int .i64 (lim (sgn false (val lm)))]) (by simp [results, Tryz.results32, go_sem, q0, q1]) rfl ?_
                have hl := hfin.out
                refine ⟨⟨n3, A3, k3, c3⟩, ?_, HW.out.1, ?_⟩
                · rw [hl, HN1.out]
                · rw [HN2.out]; exact HW.out.2
              · obtain ⟨n, hn⟩ : ∃ n, n = (sd.size - 1) % 9 + 1 := ⟨_, rfl⟩
                have hn1 : 1 ≤ n ∧ n ≤ 9 ∧ n ≤ sd.size := by omega
                have hni : ((sd.size : Int) - 1) % 9 + 1 = (n : Int) := by omega
                have HNI := Lib.hid hni
                obtain ⟨hc1, hc2, hc3⟩ := hst.out.chunk hall hn1.1 hn1.2.1 hn1.2.2
                obtain ⟨v, hv⟩ : ∃ v, v = digV ((D.drop i).take n) := ⟨_, rfl⟩
                rw [← hv] at hc1 hc2
                have HV := Lib.hid (And.intro hv hn)
                have HA := Lib.hid (Atoi_b (sd.extract 0 n) v hc3 hc1)
                clear hni hn hv hc1 hc3
                go_upto_region 9 with fail
                rw [HNI.out]
                go_wp2_with fail
                refine (HA.out _).mono ?_
                rintro e w3 ⟨rfl, hb3⟩
                have hm3 := hm.on hb3
                have hbw3 := Below.call hbw hb3
                have hl1 : Below w3.heap.size w3 (w3.alloc (.cells #[.int .u32 1000000000] 153)) := (Below.refl _ _).alloc (Nat.le_refl _) _
                have ht := times_any (c := c) (d := 1) (a := lm) (b := [1000000000]) (hm3.on hl1).sl ((Own.new w3 153 [w32 1000000000]).sl (by simp)) hm3.ws (Ws.cons (by omega) Ws.nil) (by omega) (by simp)
                have HT := Lib.hid ht
                clear ht
                go_wp2_with fail
                refine HT.out.mono ?_
                rintro e w4 ⟨g4, ds, rfl, s1, s2, s3, s4, s5, s6⟩
                have hl2 : Below w4.heap.size w4 (w4.alloc (.cells #[.int .u32 (v : Int)] 153)) := (Below.refl _ _).alloc (Nat.le_refl _) _
                have hsm := sum_any (c := ds.length) (d := 1) (a := ds) (b := [v]) ((s1.on hl2).sl (s1.on hl2).lt) ((Own.new w4 153 [w32 v]).sl (by simp)) s2 (Ws.cons (by omega) Ws.nil) (by simp at s4; omega) (by simp)
                have HS := Lib.hid hsm
                clear hsm
                go_wp2_with fail
                refine HS.out.mono ?_
                rintro e w5 ⟨g5, es, rfl, u1, u2, u3, u4, u5, u6⟩
                have hel : es.length ≤ lm.length + 2 := by simp at s4 u4; omega
                go_wp2_with fail
                refine (normal_any _ _ es _ (u1.sl u1.lt) (Nat.le_refl _) (by unfold maxLen; omega)).mono ?_
                rintro e w6 ⟨k, hk, rfl, rfl, hnz, hval⟩
                have hbw5 := Below.call (Below.call (Below.call (Below.call hbw3 hl1) s5) hl2) u5
                have hve : val (es.take k) = val lm * 1000000000 + v := by rw [hval, u3.out, s3.out]; simp [val]
                have hN := hst.out.next hall hn1.1 HV.out.2 (ds := es.take k) (h0 := h0) (by rw [hve, HV.out.1]) (by rw [List.length_take]; omega)
                have HNX := Lib.hid hN
                have hkl : (es.take k).length = k := by rw [List.length_take]; omega
                have hm6 : MagIs w5 (some ⟨g5, 0, none⟩) (es.take k) es.length := ⟨by rw [List.map_take]; exact (u1.sl u1.lt).take k, u2.take k, hnz, by omega, by unfold maxLen; omega⟩
                have HM6 := Lib.hid hm6
                have hex : (sd.extract n sd.size).size = sd.size - n := by rw [ByteArray.size_extract]; omega
                have HEX := Lib.hid hex
                clear hN hm6 hve hex hval hnz
                go_wp2_with fail
                go_roundw
                case rel => exact ⟨i + n, _, _, _, es.take k, rfl, by rw [hkl], HM6.out, HNX, hbw5⟩
                case measure =>
                  show (sd.extract n sd.size).size < sd.size
                  rw [HEX.out]; omega
          · have hne : ((c.toNat : Nat) : Int) ≠ 48 := fun e => hc48 (UInt8.toNat_inj.1 (by show c.toNat = 48; omega))
            have hne2 : (((c.toNat : Nat) : Int) == 48) = false := beq_eq_false_iff_ne.2 hne
            clear hbd0 hbd hnum z0 z1 f0 f1 q0 q1 hOk
            rw [← hDD] at HN1 HN2 HST hall HDL HD hdle
            clear hDD hc48
            go_wp2_with fail
            go_loopw [4, 6] (fun s4 s6 wr => ∃ (i : Nat) (sd : ByteArray) (A : Option Addr) (c : Nat) (lm : List Nat), s4 = .string sd ∧ s6 = .slice A (List.length lm) c ∧ MagIs wr A lm c ∧ Hid (ParSt D i lm sd) ∧ Below w1.heap.size w1 wr) (fun s4 _ _ => match s4 with | .string s => s.size | _ => 0)
            case atStart => exact ⟨0, sd, none, 0, [], rfl, rfl, ⟨Sl.nil_, Ws.nil, Nz.nil, by simp, by unfold maxLen; omega⟩, HST, hbw⟩
            case round =>
              clear hO HDL hbw
              obtain ⟨i, sd, A, c, lm, rfl, rfl, hm, hst, hbw⟩ := hrel
              have hds5 : sd.size ≤ 5000 := by have := hst.out.size; omega
              have hle := hst.out.le
              have hlm := hst.out.len
              rcases Nat.eq_zero_or_pos sd.size with h0 | h0
              · have hfin := Lib.hid (hst.out.done h0)
                have h0' : (sd.size : Int) = 0 := by omega
                have hOw := hO0.on hbw
                obtain ⟨z0, z1, f0, f1⟩ := hOw.all2
                have HB := Lib.hid (Below.call hB hbw)
                have hS := signed_lim ng A c lm wr (sgn ng (val lm)) hm.sl hm.cap hm.mx hm.ws rfl
                have HS := Lib.hid hS
                clear hS
                go_wp2_with fail
                refine HS.out.mono ?_
                rintro e w3 ⟨n3, A3, k3, c3, rfl, hb3, hw3⟩
                have hO3 := hOw.on hb3
                have hw4 := hw3.put2 hO3 (by simp) (by simp) (.bool n3) (.slice A3 k3 c3)
                have hO4 := hO3.put2 (.bool n3) (.slice A3 k3 c3)
                have hb4 := Below.put2 (Below.call HB.out hb3) (Nat.le_refl _) (.bool n3) (.slice A3 k3 c3)
                obtain ⟨z0, z1, f0, f1⟩ := hO3.all2
                obtain ⟨q0, q1, _⟩ := hO4.all2
                rw [hfin.out] at hw4
                have HW := Lib.hid (And.intro hb4 hw4)
                clear hw4 hw3 hO4 hO3 hOw hb4
                go_wp2
                refine bodyPost_ret (v := .tuple #[.agg #[.bool n3, .slice A3 k3 c3], .int .i64 (lim (sgn ng (val lm)))]) (by simp [results, Tryz.results32, go_sem, q0, q1]) rfl ?_
                have hl := hfin.out
                refine ⟨⟨n3, A3, k3, c3⟩, ?_, HW.out.1, ?_⟩
                · rw [hl, HN1.out]
                · rw [HN2.out]; exact HW.out.2
              · obtain ⟨n, hn⟩ : ∃ n, n = (sd.size - 1) % 9 + 1 := ⟨_, rfl⟩
                have hn1 : 1 ≤ n ∧ n ≤ 9 ∧ n ≤ sd.size := by omega
                have hni : ((sd.size : Int) - 1) % 9 + 1 = (n : Int) := by omega
                have HNI := Lib.hid hni
                obtain ⟨hc1, hc2, hc3⟩ := hst.out.chunk hall hn1.1 hn1.2.1 hn1.2.2
                obtain ⟨v, hv⟩ : ∃ v, v = digV ((D.drop i).take n) := ⟨_, rfl⟩
                rw [← hv] at hc1 hc2
                have HV := Lib.hid (And.intro hv hn)
                have HA := Lib.hid (Atoi_b (sd.extract 0 n) v hc3 hc1)
                clear hni hn hv hc1 hc3
                go_upto_region 9 with fail
                rw [HNI.out]
                go_wp2_with fail
                refine (HA.out _).mono ?_
                rintro e w3 ⟨rfl, hb3⟩
                have hm3 := hm.on hb3
                have hbw3 := Below.call hbw hb3
                have hl1 : Below w3.heap.size w3 (w3.alloc (.cells #[.int .u32 1000000000] 153)) := (Below.refl _ _).alloc (Nat.le_refl _) _
                have ht := times_any (c := c) (d := 1) (a := lm) (b := [1000000000]) (hm3.on hl1).sl ((Own.new w3 153 [w32 1000000000]).sl (by simp)) hm3.ws (Ws.cons (by omega) Ws.nil) (by omega) (by simp)
                have HT := Lib.hid ht
                clear ht
                go_wp2_with fail
                refine HT.out.mono ?_
                rintro e w4 ⟨g4, ds, rfl, s1, s2, s3, s4, s5, s6⟩
                have hl2 : Below w4.heap.size w4 (w4.alloc (.cells #[.int .u32 (v : Int)] 153)) := (Below.refl _ _).alloc (Nat.le_refl _) _
                have hsm := sum_any (c := ds.length) (d := 1) (a := ds) (b := [v]) ((s1.on hl2).sl (s1.on hl2).lt) ((Own.new w4 153 [w32 v]).sl (by simp)) s2 (Ws.cons (by omega) Ws.nil) (by simp at s4; omega) (by simp)
                have HS := Lib.hid hsm
                clear hsm
                go_wp2_with fail
                refine HS.out.mono ?_
                rintro e w5 ⟨g5, es, rfl, u1, u2, u3, u4, u5, u6⟩
                have hel : es.length ≤ lm.length + 2 := by simp at s4 u4; omega
                go_wp2_with fail
                refine (normal_any _ _ es _ (u1.sl u1.lt) (Nat.le_refl _) (by unfold maxLen; omega)).mono ?_
                rintro e w6 ⟨k, hk, rfl, rfl, hnz, hval⟩
                have hbw5 := Below.call (Below.call (Below.call (Below.call hbw3 hl1) s5) hl2) u5
                have hve : val (es.take k) = val lm * 1000000000 + v := by rw [hval, u3.out, s3.out]; simp [val]
                have hN := hst.out.next hall hn1.1 HV.out.2 (ds := es.take k) (h0 := h0) (by rw [hve, HV.out.1]) (by rw [List.length_take]; omega)
                have HNX := Lib.hid hN
                have hkl : (es.take k).length = k := by rw [List.length_take]; omega
                have hm6 : MagIs w5 (some ⟨g5, 0, none⟩) (es.take k) es.length := ⟨by rw [List.map_take]; exact (u1.sl u1.lt).take k, u2.take k, hnz, by omega, by unfold maxLen; omega⟩
                have HM6 := Lib.hid hm6
                have hex : (sd.extract n sd.size).size = sd.size - n := by rw [ByteArray.size_extract]; omega
                have HEX := Lib.hid hex
                clear hN hm6 hve hex hval hnz
                go_wp2_with fail
                go_roundw
                case rel => exact ⟨i + n, _, _, _, es.take k, rfl, by rw [hkl], HM6.out, HNX, hbw5⟩
                case measure =>
                  show (sd.extract n sd.size).size < sd.size
                  rw [HEX.out]; omega
      · have hb : Txt.bad l = true := by
          unfold Txt.bad
          rw [← HD.out]
          simp only [Bool.or_eq_true, Bool.not_eq_true']
          exact .inr (by simpa using hall)
        have hn := Txt.num_bad (T := top) (by omega) hb
        have HF := Lib.hid (HBD.out w2 0 2 hn rfl k2)
        have htn : Lib.trimS (c :: r) tenDigits ≠ [] := fun e => hall ((trim_nil _).1 e)
        obtain ⟨ts, hts⟩ : ∃ ts, ts = Lib.trimS (c :: r) tenDigits := ⟨_, rfl⟩
        rw [← hts] at htn ⊢
        have hte : ts.isEmpty = false := by
          cases ts with
          | nil => exact absurd rfl htn
          | cons a b => rfl
        clear htn hts hb hn hall
        go_wp2
        exact bodyPost_ret (v := .tuple #[.agg #[.bool false, .slice none 0 0], .int .i64 2]) (by simp [results, Tryz.results32, go_sem, q0, q1]) rfl HF.out
end Go.Proofs.YthafhbogpfggjaaGreatDoor
