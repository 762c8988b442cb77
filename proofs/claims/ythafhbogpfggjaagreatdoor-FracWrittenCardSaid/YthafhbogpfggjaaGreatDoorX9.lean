/-
  Contract of package wide: Parse.
-/
import Derived.Test.YthafhbogpfggjaaGreatDoorW16
import Derived.Lib.AtoiErrMem
import Derived.Test.YthafhbogpfggjaaGreatDoorT1
import Derived.Test.YthafhbogpfggjaaGreatDoorShelf2
import Derived.Test.YthafhbogpfggjaaGreatDoorReg
import Derived.Test.YthafhbogpfggjaaGreatDoorA4
import Derived.Test.YthafhbogpfggjaaGreatDoorE11
namespace Go.Proofs.YthafhbogpfggjaaGreatDoor
open Go.RowKit Mag
open DecM (digV isDig)

theorem hasPrefix_neg (l : List UInt8) : Lib.hasPrefix l [45] = Txt.neg l := by
  unfold Lib.hasPrefix Txt.neg
  cases l with
  | nil => rfl
  | cons c t => simp [List.isPrefixOf]; exact BEq.comm
theorem trimPrefix_digs (l : List UInt8) : Lib.trimPrefix l [45] = Txt.digs l := by
  unfold Lib.trimPrefix Txt.digs
  rw [hasPrefix_neg]
  simp
def tenDigits : List UInt8 := [48, 49, 50, 51, 52, 53, 54, 55, 56, 57]
theorem ten_dig (c : UInt8) : tenDigits.contains c = isDig c := by
  have h : ∀ n : Fin 256, tenDigits.contains (UInt8.ofNat n.val) = isDig (UInt8.ofNat n.val) := by decide +kernel
  have := h ⟨c.toNat, c.toNat_lt⟩
  simpa using this
theorem dropWhile_nil {p : UInt8 → Bool} {l : List UInt8} : l.dropWhile p = [] ↔ ∀ c ∈ l, p c = true := by
  induction l with
  | nil => simp
  | cons c t ih =>
    rw [List.dropWhile_cons]
    cases hp : p c with
    | true => simp [hp, ih]
    | false => simp [hp]
theorem trim_nil (l : List UInt8) : Lib.trimS l tenDigits = [] ↔ l.all isDig = true := by
  unfold Lib.trimS Lib.trimLeftS Lib.trimRightS
  simp only [ten_dig]
  constructor
  · intro h
    rw [List.all_eq_true]
    rw [dropWhile_nil] at h
    intro c hc
    by_cases hd : isDig c = true
    · exact hd
    · exfalso
      have h2 : l.reverse.dropWhile isDig ≠ [] := by
        intro e
        rw [dropWhile_nil] at e
        exact hd (e c (by simpa using hc))
      obtain ⟨x, hx⟩ : ∃ x, (l.reverse.dropWhile isDig).head? = some x := by
        cases h3 : l.reverse.dropWhile isDig with
        | nil => exact absurd h3 h2
        | cons a b => exact ⟨a, rfl⟩
      have h4 := List.head?_dropWhile_not isDig l.reverse
      rw [hx] at h4
      have h5 := h x (by rw [List.mem_reverse]; exact Txt.head_mem hx)
      simp [h5] at h4
  · intro h
    rw [List.all_eq_true] at h
    have : l.reverse.dropWhile isDig = [] := by
      rw [dropWhile_nil]
      intro c hc; exact h c (by simpa using hc)
    rw [this]; rfl
/-- strconv.Atoi at digits, of a world that only grows. -/
theorem Atoi_b (s : ByteArray) (v : Nat) (hs : s.size ≤ 9) (h : Lib.atoiAll s.data.toList = .ok (v : Int)) (w : World) : Calls Tryz.prog 115 #[.string s] w fun e w' => e = .returned (.tuple #[.int .i64 (v : Int), .nilIface]) ∧ Below w.heap.size w w' :=
  (Tryz.strconv_Atoi_ok s (by omega) v h w).mono fun _ _ ⟨he, hw⟩ => ⟨he, by
    rcases hw with rfl | ⟨t, rfl⟩
    · exact Below.refl _ _
    · exact Lib.bytesWorld_below w _ t⟩
/-- What Parse has read of the digits D: the first i of them; sd is what is left. -/
structure ParSt (D : List UInt8) (i : Nat) (lm : List Nat) (sd : ByteArray) : Prop where
  str : sd.data.toList = D.drop i
  le : i ≤ D.length
  v : val lm = digV (D.take i)
  mul : i = 0 ∨ (D.length - i) % 9 = 0
  len : lm.length ≤ 2 * i
theorem ParSt.start {D : List UInt8} {sd : ByteArray} (h : sd.data.toList = D) : ParSt D 0 [] sd := ⟨by rw [h]; rfl, by omega, by simp [val, digV], .inl rfl, by simp⟩
theorem ParSt.size {D : List UInt8} {i : Nat} {lm : List Nat} {sd : ByteArray} (h : ParSt D i lm sd) : sd.size = D.length - i := by rw [str_size h.str, List.length_drop]
theorem ParSt.done {D : List UInt8} {i : Nat} {lm : List Nat} {sd : ByteArray} (h : ParSt D i lm sd) (h0 : sd.size = 0) : val lm = digV D := by
  have h1 := h.size
  have h2 := h.le
  rw [h.v, List.take_of_length_le (by omega)]
theorem ParSt.chunk {D : List UInt8} {i : Nat} {lm : List Nat} {sd : ByteArray} (h : ParSt D i lm sd) (hall : D.all isDig = true) {n : Nat} (h1 : 1 ≤ n) (h9 : n ≤ 9) (hn : n ≤ sd.size) :
    Lib.atoiAll (sd.extract 0 n).data.toList = .ok ((digV ((D.drop i).take n) : Nat) : Int) ∧ digV ((D.drop i).take n) < 1000000000 ∧ (sd.extract 0 n).size ≤ 9 := by
  have hs := h.size
  have e : (sd.extract 0 n).data.toList = (D.drop i).take n := by
    rw [← h.str]; simp
  have hl : ((D.drop i).take n).length = n := by rw [List.length_take, List.length_drop]; omega
  have hd : ∀ c ∈ (D.drop i).take n, isDig c = true := fun c hc => List.all_eq_true.1 hall c (List.mem_of_mem_drop (List.mem_of_mem_take hc))
  refine ⟨?_, ?_, ?_⟩
  · rw [e]
    exact Txt.atoi_digits hd (by intro e2; rw [e2] at hl; simp at hl; omega) (by omega)
  · have h2 := DecM.digV_lt hd
    rw [hl] at h2
    have h3 : (10 : Nat) ^ n ≤ 10 ^ 9 := Nat.pow_le_pow_right (by decide) h9
    omega
  · rw [str_size e, hl]; exact h9
theorem ParSt.next {D : List UInt8} {i : Nat} {lm : List Nat} {sd : ByteArray} (h : ParSt D i lm sd) (_hall : D.all isDig = true) {n : Nat} (h1 : 1 ≤ n) (hn : n = (sd.size - 1) % 9 + 1) {ds : List Nat} (hv : val ds = val lm * 1000000000 + digV ((D.drop i).take n)) (hl : ds.length ≤ lm.length + 2) (h0 : 0 < sd.size) :
    ParSt D (i + n) ds (sd.extract n sd.size) := by
  have hs := h.size
  have hle := h.le
  have hln := h.len
  have hm := h.mul
  refine ⟨?_, by omega, ?_, .inr (by omega), by omega⟩
  · have e : (sd.extract n sd.size).data.toList = sd.data.toList.drop n := by
      simp
      apply List.take_of_length_le
      simp
    rw [e, h.str, List.drop_drop]
  · rw [Txt.digV_take_more D i n (by omega), hv, h.v]
    rcases hm with hm | hm
    · subst hm; simp [digV]
    · have : n = 9 := by omega
      subst this; rfl
set_option maxRecDepth 100000 in
set_option maxHeartbeats 3200000 in
theorem wParse_any (s : ByteArray) (hs : s.size ≤ 140737488355328) (w : World) : Calls Tryz.prog 32 #[.string s] w (IntE w (Txt.num top s.data.toList).1 (Txt.num top s.data.toList).2) := by
  obtain ⟨l, hl⟩ : ∃ l, l = s.data.toList := ⟨_, rfl⟩
  rw [← hl]
  have HL := Lib.hid hl.symm
  have hsz : s.size = l.length := str_size hl.symm
  have hlen : l.length ≤ 140737488355328 := by omega
  clear hl hs
  go_enter Tryz.func32, Tryz.ntmps32
  go_upto_region 1 with fail
  refine wp_new1 fun W hO hB => ?_
  have hbad : ∀ (w2 : World) (z e : Int), Txt.num top l = (z, e) → z = 0 → Below W.heap.size W w2 → IntE w (Txt.num top l).1 (Txt.num top l).2 (.returned (.tuple #[.agg #[.bool false, .slice none 0 0], .int .i64 e])) ((w2.setCell ⟨w.heap.size, 0, none⟩ (.bool false)).setCell ⟨w.heap.size, 1, none⟩ (.slice none 0 0)) := fun w2 z e hz h0 hb => by
    rw [hz]
    exact ⟨IV.zero, rfl, Below.put2 (Below.call hB hb) (Nat.le_refl _) _ _, by rw [h0]; exact IV.zero_is _⟩
  have HBD := Lib.hid hbad
  clear hbad
  rcases Nat.lt_or_ge 5000 l.length with hbig | hsmall
  · have hn := Txt.num_long (T := top) hbig
    have hc : (5000 : Int) < (s.size : Int) := by omega
    have HF := Lib.hid (HBD.out W 0 4 hn rfl (Below.refl _ _))
    obtain ⟨z0, z1, f0, f1⟩ := hO.all2
    obtain ⟨q0, q1, _⟩ := (hO.put2 (.bool false) (.slice none 0 0)).all2
    clear hn
    go_wp2
    exact bodyPost_ret (v := .tuple #[.agg #[.bool false, .slice none 0 0], .int .i64 4]) (by simp [results, Tryz.results32, go_sem, q0, q1]) rfl HF.out
  · have hc : ¬ (5000 : Int) < (s.size : Int) := by omega
    go_wp2_with fail
    refine (Tryz.strings_CutPrefix s ⟨#[45]⟩ _).mono ?_
    rintro e w1 ⟨rfl, rfl⟩
    rw [HL.out, show (⟨#[45]⟩ : ByteArray).data.toList = [45] from rfl, trimPrefix_digs, hasPrefix_neg]
    obtain ⟨sd, hsd⟩ : ∃ sd : ByteArray, sd = ⟨(Txt.digs l).toArray⟩ := ⟨_, rfl⟩
    rw [← hsd]
    have hdl : sd.data.toList = Txt.digs l := by rw [hsd]
    have hdsz : sd.size = (Txt.digs l).length := str_size hdl
    have hdle : (Txt.digs l).length ≤ l.length := by unfold Txt.digs; split <;> simp
    obtain ⟨ng, hng⟩ : ∃ ng, ng = Txt.neg l := ⟨_, rfl⟩
    obtain ⟨D, hD⟩ : ∃ D, D = Txt.digs l := ⟨_, rfl⟩
    have HNG := Lib.hid hng
    have HD := Lib.hid hD
    rw [← hng]
    rw [← hD] at hdl hdsz hdle
    clear hsd
    rcases D with _ | ⟨c, r⟩
    · have hb : Txt.bad l = true := by unfold Txt.bad; rw [← hD]; rfl
      have hn := Txt.num_bad (T := top) (by omega) hb
      have HF := Lib.hid (HBD.out w1 0 2 hn rfl (Below.refl _ _))
      obtain ⟨z0, z1, f0, f1⟩ := hO.all2
      obtain ⟨q0, q1, _⟩ := (hO.put2 (.bool false) (.slice none 0 0)).all2
      have hse : sd = ⟨#[]⟩ := str_eq hdl
      clear hdl hb hn hD hng
      subst hse
      go_wp2
      exact bodyPost_ret (v := .tuple #[.agg #[.bool false, .slice none 0 0], .int .i64 2]) (by simp [results, Tryz.results32, go_sem, q0, q1]) rfl HF.out
    · have hse : sd.toList.isEmpty = false := by rw [ByteArray.toList_eq, hdl]; rfl
      have HDL := Lib.hid hdl
      have hp0 : 0 < sd.size := by rw [hdsz]; simp
      have hix : sd[0]'hp0 = c := by
        have : sd[0]'hp0 = sd.data.toList[0]'(by rw [hdl]; simp) := by simp; rfl
        rw [this]
        simp only [hdl, List.getElem_cons_zero]
      clear hdl hD hng
      have hT := Tryz.strings_Trim_set sd ⟨#[48, 49, 50, 51, 52, 53, 54, 55, 56, 57]⟩ w1 (by omega) (by decide) (Go.Proofs.ascii_of_all (by decide))
      rw [HDL.out, show (⟨#[48, 49, 50, 51, 52, 53, 54, 55, 56, 57]⟩ : ByteArray).data.toList = tenDigits from rfl] at hT
      have HT := Lib.hid hT
      have HSZ := Lib.hid hdsz
      clear hT hdsz
      go_wp2_with fail
      refine HT.out.mono ?_
      rintro e w2 ⟨rfl, k2⟩
      clear HT
      have hOk := hO.on k2
      obtain ⟨z0, z1, f0, f1⟩ := hOk.all2
      obtain ⟨q0, q1, _⟩ := (hOk.put2 (.bool false) (.slice none 0 0)).all2
      by_cases hall : (c :: r).all isDig = true
      · rw [(trim_nil _).2 hall]
        by_cases hbd : Txt.bad l = true
        · have hn := Txt.num_bad (T := top) (by omega) hbd
          have HF := Lib.hid (HBD.out w2 0 2 hn rfl k2)
          unfold Txt.bad at hbd
          rw [← HD.out, ← HNG.out, hall] at hbd
          simp only [List.isEmpty_cons, List.head?_cons, Bool.not_true, Bool.or_false, Bool.false_or, Bool.and_eq_true, beq_iff_eq, Option.some.injEq] at hbd
          obtain ⟨hc48, hnl⟩ := hbd
          subst hc48
          cases ng with
          | true =>
            clear hnl hn hall
            go_wp2
            exact bodyPost_ret (v := .tuple #[.agg #[.bool false, .slice none 0 0], .int .i64 2]) (by simp [results, Tryz.results32, go_sem, q0, q1]) rfl HF.out
          | false =>
            have hl1 : (1 : Int) < (sd.size : Int) := by have h9 := HSZ.out; simp at hnl; rw [List.length_cons] at h9; omega
            clear hnl hn hall
            go_wp2
            exact bodyPost_ret (v := .tuple #[.agg #[.bool false, .slice none 0 0], .int .i64 2]) (by simp [results, Tryz.results32, go_sem, q0, q1]) rfl HF.out
        · have hbd0 : Txt.bad l = false := by simpa using hbd
          have hnum : Txt.num top l = (clip (sgn ng (digV (c :: r))), lim (sgn ng (digV (c :: r)))) := by
            have habs : (sgn ng (digV (c :: r))).natAbs = digV (c :: r) := by cases ng <;> simp [sgn]
            rcases Nat.lt_or_ge (digV (c :: r)) top with h | h
            · rw [Txt.num_ok (by omega) hbd0 (by rw [← HD.out]; omega), clip_in (by rw [habs]; exact h), lim_in (by rw [habs]; exact h), ← HD.out, ← HNG.out]; rfl
            · rw [Txt.num_big (by omega) hbd0 (by rw [← HD.out]; exact h), clip_out (by rw [habs]; omega), lim_out (by rw [habs]; omega)]
          have HN1 := Lib.hid (show lim (sgn ng (digV (c :: r))) = (Txt.num top l).2 by rw [hnum])
          have HN2 := Lib.hid (show (Txt.num top l).1 = clip (sgn ng (digV (c :: r))) by rw [hnum])
          have HST := Lib.hid (ParSt.start HDL.out)
          have hbw : Below w1.heap.size w1 w2 := k2
          unfold Txt.bad at hbd0
          rw [← HD.out, ← HNG.out, hall] at hbd0
          simp only [List.isEmpty_cons, List.head?_cons, Bool.not_true, Bool.or_false, Bool.false_or, Bool.and_eq_false_iff, beq_eq_false_iff_ne, ne_eq, Option.some.injEq, Bool.or_eq_false_iff, decide_eq_false_iff_not] at hbd0
          have hO0 := hO
          obtain ⟨D, hDD⟩ : ∃ D, D = c :: r := ⟨_, rfl⟩
          by_cases hc48 : c = 48
          · have hng : ng = false := by rcases hbd0 with h | h; exact absurd hc48 h; exact h.1
            have hl1 : ¬ (1 : Int) < (sd.size : Int) := by rcases hbd0 with h | h; exact absurd hc48 h; have := h.2; have h9 := HSZ.out; omega
            clear hbd0 hbd hnum z0 z1 f0 f1 q0 q1 hOk
            rw [hc48] at hix
            rw [← hDD] at HN1 HN2 HST hall HDL HD hdle
            clear hDD hc48
            subst hng
            go_wp2_with fail
            go_loopw [4, 6] (fun s4 s6 wr => ∃ (i : Nat) (sd : ByteArray) (A : Option Addr) (c : Nat) (lm : List Nat), s4 = .string sd ∧ s6 = .slice A (List.length lm) c ∧ MagIs wr A lm c ∧ Hid (ParSt D i lm sd) ∧ Below w1.heap.size w1 wr) (fun s4 _ _ => match s4 with | .string s => s.size | _ => 0)
            case atStart => exact ⟨0, sd, none, 0, [], rfl, rfl, ⟨Sl.nil_, Ws.nil, Nz.nil, by simp, by unfold maxLen; omega⟩, HST, hbw⟩
            case round =>
              clear hO HDL hbw
              obtain ⟨i, sd, A, c, lm, rfl, rfl, hm, hst, hbw⟩ := hrel
              have hds5 : sd.size ≤ 5000 := by have := hst.out.size; omega
              have hle := hst.out.le
              have hlm := hst.out.len
              rcases Nat.eq_zero_or_pos sd.size with h0 | h0
              · have hfin := Lib.hid (hst.out.done h0)
                have h0' : (sd.size : Int) = 0 := by omega
                have hOw := hO0.on hbw
                obtain ⟨z0, z1, f0, f1⟩ := hOw.all2
                have HB := Lib.hid (Below.call hB hbw)
                have hS := signed_lim false A c lm wr (sgn false (val lm)) hm.sl hm.cap hm.mx hm.ws rfl
                have HS := Lib.hid hS
                clear hS
                go_wp2_with fail
                refine HS.out.mono ?_
                rintro e w3 ⟨n3, A3, k3, c3, rfl, hb3, hw3⟩
                have hO3 := hOw.on hb3
                have hw4 := hw3.put2 hO3 (by simp) (by simp) (.bool n3) (.slice A3 k3 c3)
                have hO4 := hO3.put2 (.bool n3) (.slice A3 k3 c3)
                have hb4 := Below.put2 (Below.call HB.out hb3) (Nat.le_refl _) (.bool n3) (.slice A3 k3 c3)
                obtain ⟨z0, z1, f0, f1⟩ := hO3.all2
                obtain ⟨q0, q1, _⟩ := hO4.all2
                rw [hfin.out] at hw4
                have HW := Lib.hid (And.intro hb4 hw4)
                clear hw4 hw3 hO4 hO3 hOw hb4
                go_wp2
                refine bodyPost_ret (v := .tuple #[.agg #[.bool n3, .slice A3 k3 c3], .int .i64 (lim (sgn false (val lm)))]) (by simp [results, Tryz.results32, go_sem, q0, q1]) rfl ?_
                have hl := hfin.out
                refine ⟨⟨n3, A3, k3, c3⟩, ?_, HW.out.1, ?_⟩
                · rw [hl, HN1.out]
                · rw [HN2.out]; exact HW.out.2
              · obtain ⟨n, hn⟩ : ∃ n, n = (sd.size - 1) % 9 + 1 := ⟨_, rfl⟩
                have hn1 : 1 ≤ n ∧ n ≤ 9 ∧ n ≤ sd.size := by omega
                have hni : ((sd.size : Int) - 1) % 9 + 1 = (n : Int) := by omega
                have HNI := Lib.hid hni
                obtain ⟨hc1, hc2, hc3⟩ := hst.out.chunk hall hn1.1 hn1.2.1 hn1.2.2
                obtain ⟨v, hv⟩ : ∃ v, v = digV ((D.drop i).take n) := ⟨_, rfl⟩
                rw [← hv] at hc1 hc2
                have HV := Lib.hid (And.intro hv hn)
                have HA := Lib.hid (Atoi_b (sd.extract 0 n) v hc3 hc1)
                clear hni hn hv hc1 hc3
                go_upto_region 9 with fail
                rw [HNI.out]
                go_wp2_with fail
                refine (HA.out _).mono ?_
                rintro e w3 ⟨rfl, hb3⟩
                have hm3 := hm.on hb3
                have hbw3 := Below.call hbw hb3
                have hl1 : Below w3.heap.size w3 (w3.alloc (.cells #[.int .u32 1000000000] 153)) := (Below.refl _ _).alloc (Nat.le_refl _) _
                have ht := times_any (c := c) (d := 1) (a := lm) (b := [1000000000]) (hm3.on hl1).sl ((Own.new w3 153 [w32 1000000000]).sl (by simp)) hm3.ws (Ws.cons (by omega) Ws.nil) (by omega) (by simp)
                have HT := Lib.hid ht
                clear ht
                go_wp2_with fail
                refine HT.out.mono ?_
                rintro e w4 ⟨g4, ds, rfl, s1, s2, s3, s4, s5, s6⟩
                have hl2 : Below w4.heap.size w4 (w4.alloc (.cells #[.int .u32 (v : Int)] 153)) := (Below.refl _ _).alloc (Nat.le_refl _) _
                have hsm := sum_any (c := ds.length) (d := 1) (a := ds) (b := [v]) ((s1.on hl2).sl (s1.on hl2).lt) ((Own.new w4 153 [w32 v]).sl (by simp)) s2 (Ws.cons (by omega) Ws.nil) (by simp at s4; omega) (by simp)
                have HS := Lib.hid hsm
                clear hsm
                go_wp2_with fail
                refine HS.out.mono ?_
                rintro e w5 ⟨g5, es, rfl, u1, u2, u3, u4, u5, u6⟩
                have hel : es.length ≤ lm.length + 2 := by simp at s4 u4; omega
                go_wp2_with fail
                refine (normal_any _ _ es _ (u1.sl u1.lt) (Nat.le_refl _) (by unfold maxLen; omega)).mono ?_
                rintro e w6 ⟨k, hk, rfl, rfl, hnz, hval⟩
                have hbw5 := Below.call (Below.call (Below.call (Below.call hbw3 hl1) s5) hl2) u5
                have hve : val (es.take k) = val lm * 1000000000 + v := by rw [hval, u3.out, s3.out]; simp [val]
                have hN := hst.out.next hall hn1.1 HV.out.2 (ds := es.take k) (h0 := h0) (by rw [hve, HV.out.1]) (by rw [List.length_take]; omega)
                have HNX := Lib.hid hN
                have hkl : (es.take k).length = k := by rw [List.length_take]; omega
                have hm6 : MagIs w5 (some ⟨g5, 0, none⟩) (es.take k) es.length := ⟨by rw [List.map_take]; exact (u1.sl u1.lt).take k, u2.take k, hnz, by omega, by unfold maxLen; omega⟩
                have HM6 := Lib.hid hm6
                have hex : (sd.extract n sd.size).size = sd.size - n := by rw [ByteArray.size_extract]; omega
                have HEX := Lib.hid hex
                clear hN hm6 hve hex hval hnz
                go_wp2_with fail
                go_roundw
                case rel => exact ⟨i + n, _, _, _, es.take k, rfl, by rw [hkl], HM6.out, HNX, hbw5⟩
                case measure =>
                  show (sd.extract n sd.size).size < sd.size
                  rw [HEX.out]; omega
          · have hne : ((c.toNat : Nat) : Int) ≠ 48 := fun e => hc48 (UInt8.toNat_inj.1 (by show c.toNat = 48; omega))
            have hne2 : (((c.toNat : Nat) : Int) == 48) = false := beq_eq_false_iff_ne.2 hne
            clear hbd0 hbd hnum z0 z1 f0 f1 q0 q1 hOk
            rw [← hDD] at HN1 HN2 HST hall HDL HD hdle
            clear hDD hc48
            go_wp2_with fail
            go_loopw [4, 6] (fun s4 s6 wr => ∃ (i : Nat) (sd : ByteArray) (A : Option Addr) (c : Nat) (lm : List Nat), s4 = .string sd ∧ s6 = .slice A (List.length lm) c ∧ MagIs wr A lm c ∧ Hid (ParSt D i lm sd) ∧ Below w1.heap.size w1 wr) (fun s4 _ _ => match s4 with | .string s => s.size | _ => 0)
            case atStart => exact ⟨0, sd, none, 0, [], rfl, rfl, ⟨Sl.nil_, Ws.nil, Nz.nil, by simp, by unfold maxLen; omega⟩, HST, hbw⟩
            case round =>
              clear hO HDL hbw
              obtain ⟨i, sd, A, c, lm, rfl, rfl, hm, hst, hbw⟩ := hrel
              have hds5 : sd.size ≤ 5000 := by have := hst.out.size; omega
              have hle := hst.out.le
              have hlm := hst.out.len
              rcases Nat.eq_zero_or_pos sd.size with h0 | h0
              · have hfin := Lib.hid (hst.out.done h0)
                have h0' : (sd.size : Int) = 0 := by omega
                have hOw := hO0.on hbw
                obtain ⟨z0, z1, f0, f1⟩ := hOw.all2
                have HB := Lib.hid (Below.call hB hbw)
                have hS := signed_lim ng A c lm wr (sgn ng (val lm)) hm.sl hm.cap hm.mx hm.ws rfl
                have HS := Lib.hid hS
                clear hS
                go_wp2_with fail
                refine HS.out.mono ?_
                rintro e w3 ⟨n3, A3, k3, c3, rfl, hb3, hw3⟩
                have hO3 := hOw.on hb3
                have hw4 := hw3.put2 hO3 (by simp) (by simp) (.bool n3) (.slice A3 k3 c3)
                have hO4 := hO3.put2 (.bool n3) (.slice A3 k3 c3)
                have hb4 := Below.put2 (Below.call HB.out hb3) (Nat.le_refl _) (.bool n3) (.slice A3 k3 c3)
                obtain ⟨z0, z1, f0, f1⟩ := hO3.all2
                obtain ⟨q0, q1, _⟩ := hO4.all2
                rw [hfin.out] at hw4
                have HW := Lib.hid (And.intro hb4 hw4)
                clear hw4 hw3 hO4 hO3 hOw hb4
                go_wp2
                refine bodyPost_ret (v := .tuple #[.agg #[.bool n3, .slice A3 k3 c3], .int .i64 (lim (sgn ng (val lm)))]) (by simp [results, Tryz.results32, go_sem, q0, q1]) rfl ?_
                have hl := hfin.out
                refine ⟨⟨n3, A3, k3, c3⟩, ?_, HW.out.1, ?_⟩
                · rw [hl, HN1.out]
                · rw [HN2.out]; exact HW.out.2
              · obtain ⟨n, hn⟩ : ∃ n, n = (sd.size - 1) % 9 + 1 := ⟨_, rfl⟩
                have hn1 : 1 ≤ n ∧ n ≤ 9 ∧ n ≤ sd.size := by omega
                have hni : ((sd.size : Int) - 1) % 9 + 1 = (n : Int) := by omega
                have HNI := Lib.hid hni
                obtain ⟨hc1, hc2, hc3⟩ := hst.out.chunk hall hn1.1 hn1.2.1 hn1.2.2
                obtain ⟨v, hv⟩ : ∃ v, v = digV ((D.drop i).take n) := ⟨_, rfl⟩
                rw [← hv] at hc1 hc2
                have HV := Lib.hid (And.intro hv hn)
                have HA := Lib.hid (Atoi_b (sd.extract 0 n) v hc3 hc1)
                clear hni hn hv hc1 hc3
                go_upto_region 9 with fail
                rw [HNI.out]
                go_wp2_with fail
                refine (HA.out _).mono ?_
                rintro e w3 ⟨rfl, hb3⟩
                have hm3 := hm.on hb3
                have hbw3 := Below.call hbw hb3
                have hl1 : Below w3.heap.size w3 (w3.alloc (.cells #[.int .u32 1000000000] 153)) := (Below.refl _ _).alloc (Nat.le_refl _) _
                have ht := times_any (c := c) (d := 1) (a := lm) (b := [1000000000]) (hm3.on hl1).sl ((Own.new w3 153 [w32 1000000000]).sl (by simp)) hm3.ws (Ws.cons (by omega) Ws.nil) (by omega) (by simp)
                have HT := Lib.hid ht
                clear ht
                go_wp2_with fail
                refine HT.out.mono ?_
                rintro e w4 ⟨g4, ds, rfl, s1, s2, s3, s4, s5, s6⟩
                have hl2 : Below w4.heap.size w4 (w4.alloc (.cells #[.int .u32 (v : Int)] 153)) := (Below.refl _ _).alloc (Nat.le_refl _) _
                have hsm := sum_any (c := ds.length) (d := 1) (a := ds) (b := [v]) ((s1.on hl2).sl (s1.on hl2).lt) ((Own.new w4 153 [w32 v]).sl (by simp)) s2 (Ws.cons (by omega) Ws.nil) (by simp at s4; omega) (by simp)
                have HS := Lib.hid hsm
                clear hsm
                go_wp2_with fail
                refine HS.out.mono ?_
                rintro e w5 ⟨g5, es, rfl, u1, u2, u3, u4, u5, u6⟩
                have hel : es.length ≤ lm.length + 2 := by simp at s4 u4; omega
                go_wp2_with fail
                refine (normal_any _ _ es _ (u1.sl u1.lt) (Nat.le_refl _) (by unfold maxLen; omega)).mono ?_
                rintro e w6 ⟨k, hk, rfl, rfl, hnz, hval⟩
                have hbw5 := Below.call (Below.call (Below.call (Below.call hbw3 hl1) s5) hl2) u5
                have hve : val (es.take k) = val lm * 1000000000 + v := by rw [hval, u3.out, s3.out]; simp [val]
                have hN := hst.out.next hall hn1.1 HV.out.2 (ds := es.take k) (h0 := h0) (by rw [hve, HV.out.1]) (by rw [List.length_take]; omega)
                have HNX := Lib.hid hN
                have hkl : (es.take k).length = k := by rw [List.length_take]; omega
                have hm6 : MagIs w5 (some ⟨g5, 0, none⟩) (es.take k) es.length := ⟨by rw [List.map_take]; exact (u1.sl u1.lt).take k, u2.take k, hnz, by omega, by unfold maxLen; omega⟩
                have HM6 := Lib.hid hm6
                have hex : (sd.extract n sd.size).size = sd.size - n := by rw [ByteArray.size_extract]; omega
                have HEX := Lib.hid hex
                clear hN hm6 hve hex hval hnz
                go_wp2_with fail
                go_roundw
                case rel => exact ⟨i + n, _, _, _, es.take k, rfl, by rw [hkl], HM6.out, HNX, hbw5⟩
                case measure =>
                  show (sd.extract n sd.size).size < sd.size
                  rw [HEX.out]; omega
      · have hb : Txt.bad l = true := by
          unfold Txt.bad
          rw [← HD.out]
          simp only [Bool.or_eq_true, Bool.not_eq_true']
          exact .inr (by simpa using hall)
        have hn := Txt.num_bad (T := top) (by omega) hb
        have HF := Lib.hid (HBD.out w2 0 2 hn rfl k2)
        have htn : Lib.trimS (c :: r) tenDigits ≠ [] := fun e => hall ((trim_nil _).1 e)
        obtain ⟨ts, hts⟩ : ∃ ts, ts = Lib.trimS (c :: r) tenDigits := ⟨_, rfl⟩
        rw [← hts] at htn ⊢
        have hte : ts.isEmpty = false := by
          cases ts with
          | nil => exact absurd rfl htn
          | cons a b => rfl
        clear htn hts hb hn hall
        go_wp2
        exact bodyPost_ret (v := .tuple #[.agg #[.bool false, .slice none 0 0], .int .i64 2]) (by simp [results, Tryz.results32, go_sem, q0, q1]) rfl HF.out
end Go.Proofs.YthafhbogpfggjaaGreatDoor

/-
  (second part)
-/
namespace Go.Proofs.YthafhbogpfggjaaGreatDoor
open Go.RowKit Mag
open DecM

theorem top_ten : top ≤ 10 ^ 4933 := by rw [top_eq, topW_eq]; decide +kernel
theorem two_64 : (18446744073709551616 : Int).natAbs < top := by rw [top_eq, topW_eq]; decide +kernel
theorem itoa_5000 {z : Int} (h : z.natAbs < top) : (Lib.itoa z).length ≤ 5000 := by
  obtain ⟨k, hk⟩ : ∃ k, k = 4933 := ⟨_, rfl⟩
  have h1 := top_ten
  rw [← hk] at h1
  have := Txt.itoa_len (k := k) (by omega) (Nat.lt_of_lt_of_le h h1)
  omega
def RetBool (w : World) (b : Bool) (e : Ending) (w' : World) : Prop := e = .returned (.bool b) ∧ Below w.heap.size w w'
/-- An Int and whether there is one are returned. -/
def IntB (w : World) (z : Int) (b : Bool) (e : Ending) (w' : World) : Prop := ∃ r : IV, e = .returned (.tuple #[.agg #[.bool r.neg, .slice r.A r.n r.c], .bool b]) ∧ Below w.heap.size w w' ∧ r.is w' z
set_option maxRecDepth 100000 in
set_option maxHeartbeats 1600000 in
theorem wider_any {x : IV} {w : World} {z : Int} (hx : NI x w z) (hz : z.natAbs < top) : Calls Tryz.prog 41 #[.agg #[.bool x.neg, .slice x.A x.n x.c]] w (IntB w z true) := by
  have hl := itoa_5000 hz
  obtain ⟨s, hs⟩ : ∃ s : ByteArray, s = ⟨(Lib.itoa z).toArray⟩ := ⟨_, rfl⟩
  have hd : s.data.toList = Lib.itoa z := by rw [hs]
  have hss : s.size ≤ 5000 := by rw [str_size hd]; exact hl
  have hP : ∀ w, Calls Tryz.prog 32 #[.string s] w (IntE w z 0) := fun w => by
    have := wParse_any s (by omega) w
    rwa [hd, Txt.num_itoa hz hl] at this
  have hT : ∀ w, NI x w z → Calls Tryz.prog 28 #[.agg #[.bool x.neg, .slice x.A x.n x.c]] w (fun e w' => e = .returned (.string s) ∧ Below w.heap.size w w') := fun w h => by rw [hs]; exact rText_any h
  have HP := Lib.hid hP
  have HT := Lib.hid hT
  clear hP hT hs hd hl hss
  go_enter Tryz.func41, Tryz.ntmps41
  go_upto_region 1 with fail
  refine wp_new2 fun W hA hO hB => ?_
  obtain ⟨r0, r1⟩ := hA.rules2
  have hW := Below.refl W.heap.size W
  go_wp2_with fail
  refine (HT.out _ (hx.on hB)).mono ?_
  rintro e w1 ⟨rfl, k1⟩
  go_wp2_with fail
  refine (HP.out _).mono ?_
  rintro e w2 ⟨y, rfl, k2, hy⟩
  go_upto_region 2 with fail
  refine wp_new1 fun w3 hY k3 => ?_
  have k4 := Below.call (Below.call k1 k2) k3
  have hO3 := hO.on k4
  obtain ⟨y0, y1, _, _⟩ := hY.all2
  obtain ⟨z0, z1, f0, f1⟩ := hO3.all2
  have hy3 := hy.on k3
  have hF : IntB w z true (.returned (.tuple #[.agg #[.bool y.neg, .slice y.A y.n y.c], .bool true])) ((w3.setCell ⟨w.heap.size + 1, 0, none⟩ (.bool y.neg)).setCell ⟨w.heap.size + 1, 1, none⟩ (.slice y.A y.n y.c)) :=
    ⟨y, rfl, Below.put2 (Below.call hB k4) (by omega) _ _, hy3.put2 hO3 (by simp) (by simp) _ _⟩
  have HF := Lib.hid hF
  obtain ⟨q0, q1, _⟩ := (hO3.put2 (.bool y.neg) (.slice y.A y.n y.c)).all2
  clear hF hO3 hY hO hA hy hy3 hx r0 r1
  go_wp2
  exact bodyPost_ret (v := .tuple #[.agg #[.bool y.neg, .slice y.A y.n y.c], .bool true]) (by simp [results, Tryz.results41, go_sem, q0, q1]) rfl HF.out
set_option maxRecDepth 100000 in
set_option maxHeartbeats 1600000 in
theorem equal_any {x y : IV} {w : World} {a b : Int} (hx : x.is w a) (hy : NI y w b) (ht : Tab w) : Calls Tryz.prog 34 #[.agg #[.bool x.neg, .slice x.A x.n x.c], .agg #[.bool y.neg, .slice y.A y.n y.c]] w (RetBool w (decide (a = b))) := by
  obtain ⟨sa, hsa⟩ : ∃ s : ByteArray, s = ⟨(Lib.itoa a).toArray⟩ := ⟨_, rfl⟩
  obtain ⟨sb, hsb⟩ : ∃ s : ByteArray, s = ⟨(Lib.itoa b).toArray⟩ := ⟨_, rfl⟩
  have HEQ := Lib.hid (show (sa.toList == sb.toList) = decide (a = b) by
    rw [hsa, hsb, ByteArray.toList_mk, ByteArray.toList_mk]
    by_cases h : a = b
    · subst h; simp
    · rw [decide_eq_false h, beq_eq_false_iff_ne]
      exact fun e => h (Txt.itoa_inj e))
  have HSA := Lib.hid (show ∀ w : World, x.is w a → Tab w → Calls Tryz.prog 35 #[.agg #[.bool x.neg, .slice x.A x.n x.c]] w (fun e w' => e = .returned (.string sa) ∧ Below w.heap.size w w') from fun _ h t => by rw [hsa]; exact string_iv h t)
  have HSB := Lib.hid (show ∀ w : World, NI y w b → Calls Tryz.prog 28 #[.agg #[.bool y.neg, .slice y.A y.n y.c]] w (fun e w' => e = .returned (.string sb) ∧ Below w.heap.size w w') from fun _ h => by rw [hsb]; exact rText_any h)
  clear hsa hsb
  go_enter Tryz.func34, Tryz.ntmps34
  go_upto_region 1 with fail
  refine wp_new2 fun W hA hY hB => ?_
  replace hx := hx.on hB
  replace hy := hy.on hB
  replace ht := ht.on hB
  refine wp_region_specs W [Spec.eq (.agg #[.bool x.neg, .slice x.A x.n x.c]), Spec.eq (.string sa), Spec.eq (.agg #[.bool y.neg, .slice y.A y.n y.c]), Spec.eq (.string sb), Spec.eq (.bool (decide (a = b))), Spec.eq (.bool (decide (a = b)))]
      (by kernel_rfl) (by kernel_rfl) rfl (by kernel_rfl) (Below.drew (Below.refl _ _)) ?_ ?_
  ·
    refine RegSteps.cons ?_ ?_
    · intro _ az wz hC hF hD _ K hK
      have q2 : az.tmps[2]? = some (.pointer (some ⟨w.heap.size, 0, none⟩)) := hF 2 rfl
      obtain ⟨l0, l1, _⟩ := (hA.on hC).all2
      clear hF hD
      refine want_none rfl ?_
      go_simp
      exact hK _ _ hC (Below.refl _ _) rfl
    refine RegSteps.cons ?_ ?_
    · intro _ az wz hC hF hD _ K hK
      obtain ⟨_, q5, rfl⟩ := dep hD 0 rfl rfl rfl rfl
      clear hF hD
      refine want_none rfl ?_
      go_simp
      refine (HSA.out _ (hx.on hC) (ht.on hC)).mono ?_
      rintro e wy ⟨rfl, k⟩
      exact hK _ _ (Below.call hC k) k rfl
    refine RegSteps.cons ?_ ?_
    · intro _ az wz hC hF hD _ K hK
      have q3 : az.tmps[3]? = some (.pointer (some ⟨w.heap.size + 1, 0, none⟩)) := hF 3 rfl
      obtain ⟨l0, l1, _⟩ := (hY.on hC).all2
      clear hF hD
      refine want_none rfl ?_
      go_simp
      exact hK _ _ hC (Below.refl _ _) rfl
    refine RegSteps.cons ?_ ?_
    · intro _ az wz hC hF hD _ K hK
      obtain ⟨_, q7, rfl⟩ := dep hD 2 rfl rfl rfl rfl
      clear hF hD
      refine want_none rfl ?_
      go_simp
      refine (HSB.out _ (hy.on hC)).mono ?_
      rintro e wy ⟨rfl, k⟩
      exact hK _ _ (Below.call hC k) k rfl
    refine RegSteps.cons ?_ ?_
    · intro _ az wz hC hF hD _ K hK
      obtain ⟨_, q6, rfl⟩ := dep hD 1 rfl rfl rfl rfl
      obtain ⟨_, q8, rfl⟩ := dep hD 3 rfl rfl rfl rfl
      have heq : (sa.toList == sb.toList) = decide (a = b) := HEQ.out
      clear hF hD
      refine want_none rfl ?_
      go_simp
      exact hK _ _ hC (Below.refl _ _) rfl
    refine RegSteps.cons ?_ ?_
    · intro _ az wz hC hF hD _ K hK
      obtain ⟨_, q9, rfl⟩ := dep hD 4 rfl rfl rfl rfl
      clear hF hD
      refine want_none rfl ?_
      go_simp
      exact hK _ _ hC (Below.refl _ _) rfl
    exact RegSteps.nil
  intro w3 hC3
  rintro _ rfl _ rfl _ rfl _ rfl _ rfl _ rfl
  simp only [FinOK, Act.put, List.setIfInBounds_toArray, List.set_cons_zero, List.set_cons_succ]
  have HB := Lib.hid (Below.call hB hC3)
  go_wp2
  go_returns
  exact ⟨rfl, HB.out⟩
theorem dec_lit {l : List UInt8} {n : Nat} (hd : l.all isDig = true) (hn : l ≠ []) (h0 : l.head? ≠ some 48) (hv : digV l = n) : Lib.decDigits n = l := by
  rw [← hv]
  exact dec_digV l (List.all_eq_true.1 hd) hn fun e => absurd e h0
theorem itoa_m4 : Lib.itoa (-4) = [45, 52] := by
  have := itoa_neg (m := 4) (by omega)
  rw [dec_small (by omega)] at this
  exact this
theorem itoa_m3 : Lib.itoa (-3) = [45, 51] := by
  have := itoa_neg (m := 3) (by omega)
  rw [dec_small (by omega)] at this
  exact this
theorem itoa_1 : Lib.itoa 1 = [49] := by
  have := itoa_nat 1
  rw [dec_small (by omega)] at this
  exact this
theorem itoa_64 : Lib.itoa 18446744073709551616 = [49, 56, 52, 52, 54, 55, 52, 52, 48, 55, 51, 55, 48, 57, 53, 53, 49, 54, 49, 54] := by
  have := itoa_nat 18446744073709551616
  rw [dec_lit (l := [49, 56, 52, 52, 54, 55, 52, 52, 48, 55, 51, 55, 48, 57, 53, 53, 49, 54, 49, 54]) (by decide) (by decide) (by decide) (by decide)] at this
  exact this
theorem string_lit {x : IV} {a : Int} {l : List UInt8} {s : ByteArray} (h : Lib.itoa a = l) (hs : s = ⟨l.toArray⟩) : Hid (∀ w, x.is w a → Tab w → Calls Tryz.prog 35 #[.agg #[.bool x.neg, .slice x.A x.n x.c]] w (fun e w' => e = .returned (.string s) ∧ Below w.heap.size w w')) :=
  Lib.hid fun w hx ht => by rw [hs, ← h]; exact string_iv hx ht
set_option maxRecDepth 100000 in
set_option maxHeartbeats 3200000 in
theorem lives3_any (w : World) (ht : Tab w) : Calls Tryz.prog 36 #[] w (RetBool w true) := by
  have HP0 : Hid (∀ w, Calls Tryz.prog 32 #[.string ⟨#[45, 48]⟩] w (IntE w 0 2)) := Lib.hid fun w => by
    have := wParse_any ⟨#[45, 48]⟩ (by decide) w
    rwa [show (⟨#[45, 48]⟩ : ByteArray).data.toList = [45, 48] from rfl, Txt.num_bad (by decide) (by decide)] at this
  have HP1 : Hid (∀ w, Calls Tryz.prog 32 #[.string ⟨#[48, 49]⟩] w (IntE w 0 2)) := Lib.hid fun w => by
    have := wParse_any ⟨#[48, 49]⟩ (by decide) w
    rwa [show (⟨#[48, 49]⟩ : ByteArray).data.toList = [48, 49] from rfl, Txt.num_bad (by decide) (by decide)] at this
  have HM : Hid (∀ {x y : IV} {w : World}, x.is w 4294967296 → y.is w 4294967296 → Calls Tryz.prog 43 #[.agg #[.bool x.neg, .slice x.A x.n x.c], .agg #[.bool y.neg, .slice y.A y.n y.c]] w (IntE w 18446744073709551616 0)) := Lib.hid fun hx hy => by
    have := mul_iv hx hy
    rwa [show (4294967296 : Int) * 4294967296 = 18446744073709551616 from rfl, clip_in two_64, lim_in two_64] at this
  go_enter Tryz.func36, Tryz.ntmps36
  go_wp2_with fail
  refine (from_iv (-7) _ (by omega) (by omega)).mono ?_
  rintro e w1 ⟨a, rfl, k1, ha⟩
  go_wp2_with fail
  refine (from_iv 2 _ (by omega) (by omega)).mono ?_
  rintro e w2 ⟨b, rfl, k2, hb⟩
  go_wp2_with fail
  refine (div_iv (ha.on k2) hb (by omega)).mono ?_
  rintro e w3 ⟨q, r, rfl, k3, hq, hr⟩
  rw [show (-7 : Int) / 2 = -4 from rfl] at hq
  rw [show (-7 : Int) % 2 = 1 from rfl] at hr
  go_upto_region 2 with fail
  refine wp_new2 fun w4 hQ hR k4 => ?_
  have b1 := Below.call (Below.call k1 k2) (Below.call k3 k4)
  replace hq := hq.on k4
  replace hr := hr.on k4
  clear ha hb k1 k2 k3 k4
  go_wp2_with fail
  refine (from_iv 7 _ (by omega) (by omega)).mono ?_
  rintro e w5 ⟨a, rfl, k1, ha⟩
  go_wp2_with fail
  refine (from_iv (-2) _ (by omega) (by omega)).mono ?_
  rintro e w6 ⟨b, rfl, k2, hb⟩
  go_wp2_with fail
  refine (div_iv (ha.on k2) hb (by omega)).mono ?_
  rintro e w7 ⟨s, t, rfl, k3, hs, hu⟩
  rw [show (7 : Int) / -2 = -3 from rfl] at hs
  rw [show (7 : Int) % -2 = 1 from rfl] at hu
  go_upto_region 3 with fail
  refine wp_new2 fun w8 hS hU k4 => ?_
  have b2 := Below.call (Below.call k1 k2) (Below.call k3 k4)
  replace hq := hq.on b2
  replace hr := hr.on b2
  replace hQ := hQ.on b2
  replace hR := hR.on b2
  replace b1 := Below.call b1 b2
  replace hs := hs.on k4
  replace hu := hu.on k4
  clear ha hb k1 k2 k3 k4 b2
  go_wp2_with fail
  refine (from_iv 4294967296 _ (by omega) (by omega)).mono ?_
  rintro e w9 ⟨a, rfl, k1, ha⟩
  go_wp2_with fail
  refine (from_iv 4294967296 _ (by omega) (by omega)).mono ?_
  rintro e w10 ⟨b, rfl, k2, hb⟩
  go_wp2_with fail
  refine (HM.out (ha.on k2) hb).mono ?_
  rintro e w11 ⟨x, rfl, k3, hx⟩
  go_upto_region 4 with fail
  refine wp_new1 fun w12 hX k4 => ?_
  have b2 := Below.call (Below.call k1 k2) (Below.call k3 k4)
  replace hq := hq.on b2
  replace hr := hr.on b2
  replace hs := hs.on b2
  replace hu := hu.on b2
  replace hQ := hQ.on b2
  replace hR := hR.on b2
  replace hS := hS.on b2
  replace hU := hU.on b2
  replace b1 := Below.call b1 b2
  replace hx := hx.on k4
  clear ha hb k1 k2 k3 k4 b2
  obtain ⟨x0, x1, _, _⟩ := hX.all2
  go_wp2_with fail
  refine (small_iv hx).mono ?_
  rintro e w13 ⟨k5, hsm⟩
  rcases hsm with ⟨_, hbig, _⟩ | ⟨_, rfl⟩
  · exact absurd hbig (by omega)
  go_wp2_with fail
  refine (HP0.out _).mono ?_
  rintro e w14 ⟨p0, rfl, k6, hp0⟩
  go_upto_region 6 with fail
  refine wp_new1 fun w15 hP0 k7 => ?_
  go_wp2_with fail
  refine (HP1.out _).mono ?_
  rintro e w16 ⟨p1, rfl, k8, hp1⟩
  go_upto_region 7 with fail
  refine wp_new1 fun w17 hP1 k9 => ?_
  have b2 := Below.call (Below.call k5 (Below.call k6 k7)) (Below.call k8 k9)
  replace hq := hq.on b2
  replace hr := hr.on b2
  replace hs := hs.on b2
  replace hu := hu.on b2
  replace hx := hx.on b2
  replace hQ := hQ.on b2
  replace hR := hR.on b2
  replace hS := hS.on b2
  replace hU := hU.on b2
  replace hX := hX.on b2
  replace b1 := Below.call b1 b2
  have ht1 := ht.on b1
  clear hp0 hp1 hP0 hP1 k5 k6 k7 k8 k9 b2 x0 x1 ht HM
  obtain ⟨q0, q1⟩ := hQ.rules2
  obtain ⟨r0, r1⟩ := hR.rules2
  obtain ⟨s0, s1⟩ := hS.rules2
  obtain ⟨u0, u1⟩ := hU.rules2
  obtain ⟨x0, x1⟩ := hX.rules2
  have hW := Below.refl w17.heap.size w17
  have L1 := string_lit (x := q) (s := ⟨#[45, 52]⟩) itoa_m4 rfl
  have L2 := string_lit (x := r) (s := ⟨#[49]⟩) itoa_1 rfl
  have L3 := string_lit (x := s) (s := ⟨#[45, 51]⟩) itoa_m3 rfl
  have L4 := string_lit (x := t) (s := ⟨#[49]⟩) itoa_1 rfl
  have L5 := string_lit (x := x) (s := ⟨#[49, 56, 52, 52, 54, 55, 52, 52, 48, 55, 51, 55, 48, 57, 53, 53, 49, 54, 49, 54]⟩) itoa_64 rfl
  go_wp2_with fail
  refine (L1.out _ hq ht1).mono ?_
  rintro e v1 ⟨rfl, k1⟩
  go_wp2_with fail
  refine (L2.out _ (hr.on k1) (ht1.on k1)).mono ?_
  rintro e v2 ⟨rfl, k2⟩
  replace k2 := Below.call k1 k2
  go_wp2_with fail
  refine (L3.out _ (hs.on k2) (ht1.on k2)).mono ?_
  rintro e v3 ⟨rfl, k3⟩
  replace k3 := Below.call k2 k3
  go_wp2_with fail
  refine (L4.out _ (hu.on k3) (ht1.on k3)).mono ?_
  rintro e v4 ⟨rfl, k4⟩
  replace k4 := Below.call k3 k4
  go_wp2_with fail
  refine (L5.out _ (hx.on k4) (ht1.on k4)).mono ?_
  rintro e v5 ⟨rfl, k5⟩
  have HB := Lib.hid (Below.call (Below.call b1 k4) k5)
  go_wp2
  go_returns
  exact ⟨rfl, HB.out⟩
end Go.Proofs.YthafhbogpfggjaaGreatDoor

/-
  (second part)
-/
namespace Go.Proofs.YthafhbogpfggjaaGreatDoor
open Go.RowKit Mag

/-- Below k digits in base 10000. -/
def Sm (k : Nat) (z : Int) : Prop := z.natAbs < 10000 ^ k
theorem Sm.mono {j k : Nat} {z : Int} (h : Sm j z) (hk : j ≤ k) : Sm k z := Nat.lt_of_lt_of_le h (Nat.pow_le_pow_right (by omega) hk)
theorem Sm.mul {j k : Nat} {a b : Int} (ha : Sm j a) (hb : Sm k b) : Sm (j + k) (a * b) := by
  unfold Sm at *
  rw [Int.natAbs_mul, Nat.pow_add]
  exact Nat.mul_lt_mul'' ha hb
theorem Sm.add {k : Nat} {a b : Int} (ha : Sm k a) (hb : Sm k b) : Sm (k + 1) (a + b) := by
  unfold Sm at *
  rw [Nat.pow_succ]
  have h := Int.natAbs_add_le a b
  generalize 10000 ^ k = P at *
  omega
theorem Sm.neg {k : Nat} {a : Int} (ha : Sm k a) : Sm k (-a) := by
  unfold Sm at *
  rwa [Int.natAbs_neg]
theorem Sm.sub {k : Nat} {a b : Int} (ha : Sm k a) (hb : Sm k b) : Sm (k + 1) (a - b) := by
  rw [Int.sub_eq_add_neg]
  exact ha.add hb.neg
theorem top_1200 : 10000 ^ 1200 ≤ top := by rw [top_eq, topW_eq]; decide +kernel
theorem Sm.top {k : Nat} {z : Int} (h : Sm k z) (hk : k ≤ 1200) : z.natAbs < top := by
  obtain ⟨m, hm⟩ : ∃ m, m = 1200 := ⟨_, rfl⟩
  have h1 := top_1200
  rw [← hm] at h1
  exact Nat.lt_of_lt_of_le (h.mono (by omega : k ≤ m)) h1
theorem Sm.len {k : Nat} {z : Int} (h : Sm k z) {x : IV} {w : World} (hx : NI x w z) : x.n ≤ k := NI.len hx h
theorem Sm.small {z : Int} (h : in64 z) : Sm 5 z := by unfold Sm in64 at *; omega
theorem equal_same {x y : IV} {w : World} {a : Int} (hx : x.is w a) (hy : NI y w a) (ht : Tab w) : Calls Tryz.prog 34 #[.agg #[.bool x.neg, .slice x.A x.n x.c], .agg #[.bool y.neg, .slice y.A y.n y.c]] w (RetBool w true) :=
  (equal_any hx hy ht).mono fun _ _ h => by rwa [decide_eq_true rfl] at h
/-- Number, with a bound of what it makes. -/
theorem Number_sm {w : World} {A : Option Addr} {l : List Int} {c : Nat} (h : IntsIs w A l c) (at_ : Nat) (hat : at_ ≤ 100) (i : Int) (hi : i = (at_ : Int)) :
    Calls Tryz.prog 29 #[.slice A l.length c, .int .i64 i] w (fun e w' => ∃ z : Int, Sm 18 z ∧ RetN w z e w') := by
  subst hi
  exact rNumber_any h at_ hat
theorem add_sm {x y : IV} {w : World} {a b : Int} (hx : x.is w a) (hy : y.is w b) {k : Nat} (h : Sm k (a + b)) (hk : k ≤ 1200) : Calls Tryz.prog 48 #[.agg #[.bool x.neg, .slice x.A x.n x.c], .agg #[.bool y.neg, .slice y.A y.n y.c]] w (IntE w (a + b) 0) := by
  have := add_iv hx hy
  rwa [clip_in (h.top hk), lim_in (h.top hk)] at this
theorem sub_sm {x y : IV} {w : World} {a b : Int} (hx : x.is w a) (hy : y.is w b) {k : Nat} (h : Sm k (a - b)) (hk : k ≤ 1200) : Calls Tryz.prog 49 #[.agg #[.bool x.neg, .slice x.A x.n x.c], .agg #[.bool y.neg, .slice y.A y.n y.c]] w (IntE w (a - b) 0) := by
  have := sub_iv hx hy
  rwa [clip_in (h.top hk), lim_in (h.top hk)] at this
theorem mul_sm {x y : IV} {w : World} {a b : Int} (hx : x.is w a) (hy : y.is w b) {k : Nat} (h : Sm k (a * b)) (hk : k ≤ 1200) : Calls Tryz.prog 43 #[.agg #[.bool x.neg, .slice x.A x.n x.c], .agg #[.bool y.neg, .slice y.A y.n y.c]] w (IntE w (a * b) 0) := by
  have := mul_iv hx hy
  rwa [clip_in (h.top hk), lim_in (h.top hk)] at this
end Go.Proofs.YthafhbogpfggjaaGreatDoor

/-
  (second part)
-/
namespace Go.Proofs.YthafhbogpfggjaaGreatDoor
open Go.RowKit Mag

/-- A slot that holds an N of at most k digits. -/
def sNS (k : Nat) : Spec Bel := ⟨fun v w => ∃ x : IV, v = .agg #[.bool x.neg, .slice x.A x.n x.c] ∧ ∃ z, Sm k z ∧ NI x w z, fun ⟨x, e, z, b, h⟩ u => ⟨x, e, z, b, h.on u⟩⟩
/-- A slot that holds an Int. -/
def sW (z : Int) : Spec Bel := ⟨fun v w => ∃ x : IV, v = .agg #[.bool x.neg, .slice x.A x.n x.c] ∧ x.is w z, fun ⟨x, e, h⟩ k => ⟨x, e, h.on k⟩⟩
/-- The N number i of the block g. -/
structure NAt (w : World) (g i k : Nat) (x : IV) (z : Int) : Prop where
  sm : Sm k z
  ni : NI x w z
  c0 : w.cell? ⟨g, i * 2, none⟩ = some (.bool x.neg)
  c1 : w.cell? ⟨g, i * 2 + 1, none⟩ = some (.slice x.A x.n x.c)
  lt : g < w.heap.size
theorem NAt.on {w w' : World} {g i k : Nat} {x : IV} {z : Int} (h : NAt w g i k x z) (hb : Below w.heap.size w w') : NAt w' g i k x z :=
  ⟨h.sm, h.ni.on hb, (hb.cell (p := ⟨g, i * 2, none⟩) h.lt).trans h.c0, (hb.cell (p := ⟨g, i * 2 + 1, none⟩) h.lt).trans h.c1, Nat.lt_of_lt_of_le h.lt hb.size⟩
theorem NAt.rules {w : World} {g i k : Nat} {x : IV} {z : Int} (h : NAt w g i k x z) : (∀ u, Below w.heap.size w u → u.cell? ⟨g, i * 2, none⟩ = some (.bool x.neg)) ∧ (∀ u, Below w.heap.size w u → u.cell? ⟨g, i * 2 + 1, none⟩ = some (.slice x.A x.n x.c)) :=
  ⟨fun _ hu => (h.on hu).c0, fun _ hu => (h.on hu).c1⟩
/-- A block of n N's. -/
def NList (w : World) (g n k : Nat) : Prop := ∀ i, i < n → ∃ x z, NAt w g i k x z
theorem NList.on {w w' : World} {g n k : Nat} (h : NList w g n k) (hb : Below w.heap.size w w') : NList w' g n k := fun i hi => by
  obtain ⟨x, z, hx⟩ := h i hi
  exact ⟨x, z, hx.on hb⟩
/-- A slot that holds a slice of n N's. -/
def sNL (n k : Nat) : Spec Bel := ⟨fun v w => ∃ g, v = .slice (some ⟨g, 0, none⟩) n n ∧ NList w g n k, fun ⟨x, e, h⟩ u => ⟨x, e, h.on u⟩⟩
theorem NList.mk3 {w : World} {t : TypeId} {x y z : IV} {k : Nat} (hx : ∃ a, Sm k a ∧ NI x w a) (hy : ∃ a, Sm k a ∧ NI y w a) (hz : ∃ a, Sm k a ∧ NI z w a) :
    NList (w.alloc (.cells #[.bool x.neg, .slice x.A x.n x.c, .bool y.neg, .slice y.A y.n y.c, .bool z.neg, .slice z.A z.n z.c] t)) w.heap.size 3 k := fun i hi => by
  have hb := below_new w (.cells #[.bool x.neg, .slice x.A x.n x.c, .bool y.neg, .slice y.A y.n y.c, .bool z.neg, .slice z.A z.n z.c] t)
  have hO : Own (w.alloc (.cells #[.bool x.neg, .slice x.A x.n x.c, .bool y.neg, .slice y.A y.n y.c, .bool z.neg, .slice z.A z.n z.c] t)) w.heap.size t [.bool x.neg, .slice x.A x.n x.c, .bool y.neg, .slice y.A y.n y.c, .bool z.neg, .slice z.A z.n z.c] := Own.new w t [.bool x.neg, .slice x.A x.n x.c, .bool y.neg, .slice y.A y.n y.c, .bool z.neg, .slice z.A z.n z.c]
  match i, hi with
  | 0, _ => obtain ⟨a, s, h⟩ := hx; exact ⟨x, a, s, h.on hb, hO.cell 0, hO.cell 1, hO.lt⟩
  | 1, _ => obtain ⟨a, s, h⟩ := hy; exact ⟨y, a, s, h.on hb, hO.cell 2, hO.cell 3, hO.lt⟩
  | 2, _ => obtain ⟨a, s, h⟩ := hz; exact ⟨z, a, s, h.on hb, hO.cell 4, hO.cell 5, hO.lt⟩
theorem NList.mk2 {w : World} {t : TypeId} {x y : IV} {k : Nat} (hx : ∃ a, Sm k a ∧ NI x w a) (hy : ∃ a, Sm k a ∧ NI y w a) :
    NList (w.alloc (.cells #[.bool x.neg, .slice x.A x.n x.c, .bool y.neg, .slice y.A y.n y.c] t)) w.heap.size 2 k := fun i hi => by
  have hb := below_new w (.cells #[.bool x.neg, .slice x.A x.n x.c, .bool y.neg, .slice y.A y.n y.c] t)
  have hO : Own (w.alloc (.cells #[.bool x.neg, .slice x.A x.n x.c, .bool y.neg, .slice y.A y.n y.c] t)) w.heap.size t [.bool x.neg, .slice x.A x.n x.c, .bool y.neg, .slice y.A y.n y.c] := Own.new w t [.bool x.neg, .slice x.A x.n x.c, .bool y.neg, .slice y.A y.n y.c]
  match i, hi with
  | 0, _ => obtain ⟨a, s, h⟩ := hx; exact ⟨x, a, s, h.on hb, hO.cell 0, hO.cell 1, hO.lt⟩
  | 1, _ => obtain ⟨a, s, h⟩ := hy; exact ⟨y, a, s, h.on hb, hO.cell 2, hO.cell 3, hO.lt⟩
/-- An N of at most k digits is returned. -/
def RetNS (w : World) (k : Nat) (e : Ending) (w' : World) : Prop := ∃ x : IV, e = .returned (.agg #[.bool x.neg, .slice x.A x.n x.c]) ∧ Below w.heap.size w w' ∧ ∃ z, Sm k z ∧ NI x w' z
theorem RetN.ns {w w' : World} {k : Nat} {z : Int} {e : Ending} (h : RetN w z e w') (b : Sm k z) : RetNS w k e w' := by
  obtain ⟨x, h1, h2, h3⟩ := h
  exact ⟨x, h1, h2, z, b, h3⟩
theorem Number_ns {w : World} {A : Option Addr} {l : List Int} {c : Nat} (h : IntsIs w A l c) (at_ : Nat) (hat : at_ ≤ 100) (i : Int) (hi : i = (at_ : Int)) {k : Nat} (hk : 18 ≤ k) :
    Calls Tryz.prog 29 #[.slice A l.length c, .int .i64 i] w (RetNS w k) :=
  (Number_sm h at_ hat i hi).mono fun _ _ ⟨_, b, h⟩ => h.ns (b.mono hk)
theorem neg_w {x : IV} {w : World} {a : Int} (hx : x.is w a) : Calls Tryz.prog 56 #[.agg #[.bool x.neg, .slice x.A x.n x.c]] w (IntP w (-a)) := neg_iv hx
theorem NI.len0 {x : IV} {w : World} {z : Int} (h : NI x w z) : (x.n = 0 ↔ z = 0) := by
  have h1 := (h.nd rfl).len_pos
  simp only at h1
  omega
theorem Sl.keeps64 {w w' : World} {A : Option Addr} {l : List Nat} (h : Sl w w.heap.size A (l.map d64)) (hk : Keeps w w') : Sl w' w'.heap.size A (l.map d64) := fun hn => by
  obtain ⟨g, off, e, hg, hc⟩ := h hn
  refine ⟨g, off, e, Nat.lt_of_lt_of_le hg hk.size, fun i x hx => hk.cell _ _ (hc i x hx) ?_⟩
  obtain ⟨y, _, rfl⟩ := List.mem_map.1 (List.mem_of_getElem? hx)
  exact ⟨(y : Int), .inr (.inr rfl)⟩
theorem NI.keeps {x : IV} {w w' : World} {z : Int} (h : NI x w z) (hk : Keeps w w') : NI x w' z := by
  obtain ⟨l, h1, h2, h3, h4⟩ := h
  exact ⟨l, h1, h2, ⟨h3.sl.keeps64 hk, h3.ws, h3.cap, h3.mx⟩, h4⟩
end Go.Proofs.YthafhbogpfggjaaGreatDoor
