/-
  Chapter 03's reference: Parse.
-/
import Derived.Test.YthafhbogpfggjaaGreatDoorE11
import Derived.Test.YthafhbogpfggjaaGreatDoorT1
namespace Go.Proofs.YthafhbogpfggjaaGreatDoor
open Go.RowKit
open Dig (val Ws Nz)
open DecM (digV isDig)

/-- An N and an error are returned. -/
def RetNE (w : World) (z err : Int) (e : Ending) (w' : World) : Prop := ∃ x : IV, e = .returned (.tuple #[.agg #[.bool x.neg, .slice x.A x.n x.c], .int .i64 err]) ∧ Below w.heap.size w w' ∧ NI x w' z
/-- What Parse has made of the digits D: those from e on are in ds. -/
structure RPar (D : List UInt8) (e : Nat) (ds : List Nat) : Prop where
  le : e ≤ D.length
  v : val ds + 10000 ^ ds.length * digV (D.take e) = digV D
  len : ds.length + e ≤ D.length
  ws : Ws ds
theorem RPar.start (D : List UInt8) : RPar D D.length [] := ⟨Nat.le_refl _, by simp [val], by simp, Ws.nil⟩
theorem RPar.done {D : List UInt8} {ds : List Nat} (h : RPar D 0 ds) : val ds = digV D := by
  have := h.v
  rw [List.take_zero] at this
  simpa [digV] using this
theorem chunk_lt {D : List UInt8} (hall : D.all isDig = true) (st n : Nat) : digV ((D.drop st).take n) < 10 ^ n := by
  have h := DecM.digV_lt (l := (D.drop st).take n) fun c hc => List.all_eq_true.1 hall c (List.mem_of_mem_drop (List.mem_of_mem_take hc))
  exact Nat.lt_of_lt_of_le h (Nat.pow_le_pow_right (by omega) (by rw [List.length_take]; omega))
theorem RPar.next {D : List UInt8} {e : Nat} {ds : List Nat} (h : RPar D e ds) (hall : D.all isDig = true) (he : 0 < e) : RPar D (e - 4) (ds ++ [digV ((D.drop (e - 4)).take (e - (e - 4)))]) := by
  have hle := h.le
  have hln := h.len
  have h1 := Txt.digV_take_more D (e - 4) (e - (e - 4)) (by omega)
  rw [show e - 4 + (e - (e - 4)) = e by omega] at h1
  have h2 := chunk_lt hall (e - 4) (e - (e - 4))
  have h3 : (10 : Nat) ^ (e - (e - 4)) ≤ 10 ^ 4 := Nat.pow_le_pow_right (by omega) (by omega)
  refine ⟨by omega, ?_, by rw [List.length_append, List.length_singleton]; omega, h.ws.append (Ws.cons (by omega) Ws.nil)⟩
  rw [Dig.val_snoc, List.length_append, List.length_singleton, Nat.pow_succ, ← h.v, h1]
  rcases Nat.lt_or_ge e 4 with h4 | h4
  · rw [show e - 4 = 0 by omega]
    simp [digV]
  · rw [show e - (e - 4) = 4 by omega]
    generalize digV ((D.drop (e - 4)).take 4) = v
    generalize digV (D.take (e - 4)) = t
    generalize 10000 ^ ds.length = P
    grind
theorem chunk_next {D : List UInt8} {st i : Nat} (hi : st ≤ i) (hl : i < D.length) : digV ((D.drop st).take (i + 1 - st)) = 10 * digV ((D.drop st).take (i - st)) + (D[i].toNat - 48) := by
  have h1 : i + 1 - st = (i - st) + 1 := by omega
  have h2 : (D.drop st).take ((i - st) + 1) = (D.drop st).take (i - st) ++ [D[i]] := by
    rw [List.take_succ_eq_append_getElem (by rw [List.length_drop]; omega)]
    congr 2
    rw [List.getElem_drop]
    congr 1; omega
  rw [h1, h2, DecM.digV_snoc, Nat.mul_comm]
set_option maxRecDepth 100000 in
set_option maxHeartbeats 6400000 in
theorem rParse_any (s : ByteArray) (hs : s.size ≤ 140737488355328) (w : World) : Calls Tryz.prog 33 #[.string s] w (RetNE w (Txt.num (2 ^ 16384) s.data.toList).1 (Txt.num (2 ^ 16384) s.data.toList).2) := by
  obtain ⟨T, hT⟩ : ∃ T : Nat, T = 2 ^ 16384 := ⟨_, rfl⟩
  have HFit : Hid (∀ {x : IV} {w : World} {a : Int}, NI x w a → Calls Tryz.prog 59 #[.agg #[.bool x.neg, .slice x.A x.n x.c]] w (fun e w' => e = .returned (.bool (decide (a.natAbs < T))) ∧ Below w.heap.size w w')) := Lib.hid fun h => by rw [hT]; exact rFits_any h
  rw [← hT]
  clear hT
  obtain ⟨l, hl⟩ : ∃ l, l = s.data.toList := ⟨_, rfl⟩
  rw [← hl]
  have HL := Lib.hid hl.symm
  have hsz : s.size = l.length := str_size hl.symm
  have hlen : l.length ≤ 140737488355328 := by omega
  clear hl hs
  go_enter Tryz.func33, Tryz.ntmps33
  go_upto_region 1 with fail
  refine wp_new1 fun W hO hB => ?_
  have hbad : ∀ (w2 : World) (z e : Int), Txt.num T l = (z, e) → z = 0 → Below W.heap.size W w2 → RetNE w (Txt.num T l).1 (Txt.num T l).2 (.returned (.tuple #[.agg #[.bool false, .slice none 0 0], .int .i64 e])) ((w2.setCell ⟨w.heap.size, 0, none⟩ (.bool false)).setCell ⟨w.heap.size, 1, none⟩ (.slice none 0 0)) := fun w2 z e hz h0 hb => by
    rw [hz]
    exact ⟨nZero, rfl, Below.put2 (Below.call hB hb) (Nat.le_refl _) _ _, by rw [h0]; exact NI.zero _⟩
  have HBD := Lib.hid hbad
  clear hbad
  rcases Nat.lt_or_ge 5000 l.length with hbig | hsmall
  · have hn := Txt.num_long (T := T) hbig
    have hc : (5000 : Int) < (s.size : Int) := by omega
    have HF := Lib.hid (HBD.out W 0 4 hn rfl (Below.refl _ _))
    obtain ⟨z0, z1, f0, f1⟩ := hO.all2
    obtain ⟨q0, q1, _⟩ := (hO.put2 (.bool false) (.slice none 0 0)).all2
    clear hn
    go_wp2
    exact bodyPost_ret (v := .tuple #[.agg #[.bool false, .slice none 0 0], .int .i64 4]) (by simp [results, Tryz.results33, go_sem, q0, q1]) rfl HF.out
  · have hc : ¬ (5000 : Int) < (s.size : Int) := by omega
    rcases l with _ | ⟨c, r⟩
    · have hn : Txt.num T [] = (0, 2) := Txt.num_bad (by simp) rfl
      have hs0 : s.size = 0 := hsz
      have HN := Lib.hid hn
      clear hn
      have HF := Lib.hid (HBD.out W 0 2 HN.out rfl (Below.refl _ _))
      obtain ⟨z0, z1, f0, f1⟩ := hO.all2
      obtain ⟨q0, q1, _⟩ := (hO.put2 (.bool false) (.slice none 0 0)).all2
      go_wp2
      exact bodyPost_ret (v := .tuple #[.agg #[.bool false, .slice none 0 0], .int .i64 2]) (by simp [results, Tryz.results33, go_sem, q0, q1]) rfl HF.out
    · have hp0 : 0 < s.size := by rw [hsz]; simp
      have hix : s[0]'hp0 = c := by
        have h1 := HL.out
        have : s[0]'hp0 = s.data.toList[0]'(by rw [h1]; simp) := by simp; rfl
        rw [this]
        simp only [h1, List.getElem_cons_zero]
      have HSZ := Lib.hid hsz
      clear hsz
      by_cases hc45 : c = 45
      · subst hc45
        obtain ⟨sd, hsd⟩ : ∃ sd, sd = s.extract 1 s.size := ⟨_, rfl⟩
        have hdl : sd.data.toList = r := by
          have h9 := HSZ.out
          rw [List.length_cons] at h9
          rw [hsd]; simp [HL.out]
          exact List.take_of_length_le (by omega)
        have hss : sd.size = r.length := str_size hdl
        go_upto_region 7 with fail
        rw [← hsd]
        clear hsd
        rcases r with _ | ⟨c2, r2⟩
        · have HN := Lib.hid (show Txt.num T [45] = (0, 2) from Txt.num_bad (by simp) rfl)
          have hse : sd = ⟨#[]⟩ := str_eq hdl
          clear hdl hss
          subst hse
          have HF := Lib.hid (HBD.out W 0 2 HN.out rfl (Below.refl _ _))
          obtain ⟨z0, z1, f0, f1⟩ := hO.all2
          obtain ⟨q0, q1, _⟩ := (hO.put2 (.bool false) (.slice none 0 0)).all2
          go_wp2
          exact bodyPost_ret (v := .tuple #[.agg #[.bool false, .slice none 0 0], .int .i64 2]) (by simp [results, Tryz.results33, go_sem, q0, q1]) rfl HF.out
        · have hp1 : 0 < sd.size := by rw [hss]; simp
          have hp1z : ((sd.size : Int) == 0) = false := beq_eq_false_iff_ne.2 (by omega)
          have hix2 : sd[0]'hp1 = c2 := by
            have : sd[0]'hp1 = sd.data.toList[0]'(by rw [hdl]; simp) := by simp; rfl
            rw [this]
            simp only [hdl, List.getElem_cons_zero]
          have HDS := Lib.hid hss
          have HDL := Lib.hid hdl
          clear hss hdl
          by_cases hc48 : c2 = 48
          · subst hc48
            have HN := Lib.hid (show Txt.num T (45 :: 48 :: r2) = (0, 2) from Txt.num_bad (by simpa using hsmall) (by simp [Txt.bad, Txt.digs, Txt.neg]))
            have HF := Lib.hid (HBD.out W 0 2 HN.out rfl (Below.refl _ _))
            obtain ⟨z0, z1, f0, f1⟩ := hO.all2
            obtain ⟨q0, q1, _⟩ := (hO.put2 (.bool false) (.slice none 0 0)).all2
            go_wp2
            exact bodyPost_ret (v := .tuple #[.agg #[.bool false, .slice none 0 0], .int .i64 2]) (by simp [results, Tryz.results33, go_sem, q0, q1]) rfl HF.out
          · have hne : ((c2.toNat : Nat) : Int) ≠ 48 := fun e => hc48 (UInt8.toNat_inj.1 (by show c2.toNat = 48; omega))
            have hne2 : (((c2.toNat : Nat) : Int) == 48) = false := beq_eq_false_iff_ne.2 hne
            have HB0 := Lib.hid (show (c2 :: r2).all isDig = true → Txt.bad (45 :: c2 :: r2) = false from fun h => by
              show (false || ((some c2 == some 48) && (true || _)) || !((c2 :: r2).all isDig)) = false
              rw [h]; simp [hc48])
            have HB1 := Lib.hid (show ¬ (c2 :: r2).all isDig = true → Txt.bad (45 :: c2 :: r2) = true from fun h => by
              show (false || ((some c2 == some 48) && (true || _)) || !((c2 :: r2).all isDig)) = true
              rw [Bool.not_eq_true] at h
              rw [h]; simp)
            have HD := Lib.hid (show Txt.digs (45 :: c2 :: r2) = c2 :: r2 from rfl)
            have HNG := Lib.hid (show Txt.neg (45 :: c2 :: r2) = true from rfl)
            have HSM := Lib.hid (show ¬ 5000 < (45 :: c2 :: r2).length by omega)
            have hD5 : (c2 :: r2).length ≤ 5000 := by simp at hsmall ⊢; omega
            clear HL HSZ hlen hsmall hc48
            obtain ⟨L, hL⟩ : ∃ L, 45 :: c2 :: r2 = L := ⟨_, rfl⟩
            have HLE := Lib.hid hL
            rw [hL] at HB0 HB1 HD HNG HSM
            clear hL
            generalize c2 :: r2 = D at HDS HDL HB0 HB1 HD hD5
            go_wp2_with fail
            go_loop [6] (fun s6 => ∃ i : Nat, i ≤ sd.size ∧ s6 = .int .i64 (i : Int) ∧ Hid (∀ j (hj : j < D.length), j < i → isDig D[j] = true)) (fun s6 => sd.size - (intOf s6).toNat)
            case atStart => exact ⟨0, by omega, rfl, Lib.hid (fun j hj h => absurd h (by omega))⟩
            case round =>
              obtain ⟨i, hi, rfl, hdg⟩ := hrel
              rcases Nat.lt_or_eq_of_le hi with h3 | h3
              · have hiD : i < D.length := by rw [← HDS.out]; exact h3
                have hel : sd[i]'h3 = D[i] := by
                  have h1 := HDL.out
                  have : sd[i]'h3 = sd.data.toList[i]'(by rw [h1]; exact hiD) := by simp; rfl
                  rw [this]
                  simp only [h1]
                have i0 : (0 : Int) ≤ (i : Int) := by omega
                have i3 : (i : Int) < (sd.size : Int) := by omega
                obtain ⟨x, hx⟩ : ∃ x, x = D[i] := ⟨_, rfl⟩
                rw [← hx] at hel
                have HX := Lib.hid hx
                have hxl := x.toNat_lt
                clear hx
                by_cases hdx : isDig x = true
                · have hdx' := hdx
                  simp only [isDig, Bool.and_eq_true, decide_eq_true_eq] at hdx'
                  have hx1 : ¬ ((x.toNat : Nat) : Int) < 48 := by omega
                  have hx2 : ¬ 57 < ((x.toNat : Nat) : Int) := by omega
                  have HN : Hid (∀ j (hj : j < D.length), j < i + 1 → isDig D[j] = true) := Lib.hid fun j hj h => by
                    rcases Nat.lt_or_eq_of_le (Nat.le_of_lt_succ h) with h4 | h4
                    · exact hdg.out j hj h4
                    · subst h4; rw [← HX.out]; exact hdx
                  clear hdx hdx'
                  go_wp2
                  exact ⟨⟨i + 1, by omega, by go_num, HN⟩, by simp [intOf]; omega⟩
                · have hnd : ((x.toNat : Nat) : Int) < 48 ∨ (¬ ((x.toNat : Nat) : Int) < 48 ∧ 57 < ((x.toNat : Nat) : Int)) := by
                    simp only [isDig, Bool.and_eq_true, decide_eq_true_eq] at hdx
                    omega
                  have hall : ¬ D.all isDig = true := fun h => hdx (by rw [HX.out]; exact List.all_eq_true.1 h _ (List.getElem_mem hiD))
                  have HN := Lib.hid (Txt.num_bad (T := T) (HSM.out) (HB1.out hall))
                  clear hall hdx
                  rcases hnd with hx1 | ⟨hx1, hx2⟩
                  · have HF := Lib.hid (HBD.out W 0 2 (by rw [HLE.out]; exact HN.out) rfl (Below.refl _ _))
                    obtain ⟨z0, z1, f0, f1⟩ := hO.all2
                    obtain ⟨q0, q1, _⟩ := (hO.put2 (.bool false) (.slice none 0 0)).all2
                    go_wp2
                    exact bodyPost_ret (v := .tuple #[.agg #[.bool false, .slice none 0 0], .int .i64 2]) (by simp [results, Tryz.results33, go_sem, q0, q1]) rfl HF.out
                  · have HF := Lib.hid (HBD.out W 0 2 (by rw [HLE.out]; exact HN.out) rfl (Below.refl _ _))
                    obtain ⟨z0, z1, f0, f1⟩ := hO.all2
                    obtain ⟨q0, q1, _⟩ := (hO.put2 (.bool false) (.slice none 0 0)).all2
                    go_wp2
                    exact bodyPost_ret (v := .tuple #[.agg #[.bool false, .slice none 0 0], .int .i64 2]) (by simp [results, Tryz.results33, go_sem, q0, q1]) rfl HF.out
              · have hall : D.all isDig = true := by
                  rw [List.all_eq_true]
                  intro x hx
                  obtain ⟨j, hj, rfl⟩ := List.getElem_of_mem hx
                  exact hdg.out j hj (by rw [h3, HDS.out]; exact hj)
                subst h3
                have HB := Lib.hid (HB0.out hall)
                clear hdg hi
                have hds5 : sd.size ≤ 5000 := by rw [HDS.out]; exact hD5
                have hst0 := Lib.hid (RPar.start D)
                go_upto_region 16 with fail
                go_loopw [7, 8] (fun s7 s8 wr => ∃ (z : Int) (ds : List Nat) (v : Value), s8 = .int .i64 z ∧ z ≤ sd.size ∧ -4 ≤ z ∧ s7 = v ∧ wr.ownsRow W.heap.size 3 1 v ds.length (ds.map d64) ∧ Hid (RPar D z.toNat ds) ∧ Below W.heap.size W wr) (fun _ s8 _ => (intOf s8).toNat)
                case atStart => exact ⟨(sd.size : Int), [], _, rfl, by omega, by omega, rfl, World.ownsRow_nil _ _ _ _, Lib.hid (by rw [Int.toNat_natCast, HDS.out]; exact hst0.out), Below.refl _ _⟩
                case round =>
                  obtain ⟨z, ds, v, rfl, hz1, hz0, hv, hown, hst, hb⟩ := hrel
                  have hv' := hv.symm
                  subst hv'
                  have hln := hst.out.len
                  have hDL : D.length ≤ 5000 := hD5
                  rcases Int.lt_or_le 0 z with hz | hz
                  · obtain ⟨e, rfl⟩ : ∃ e : Nat, z = (e : Int) := ⟨z.toNat, by omega⟩
                    rw [Int.toNat_natCast] at hst hln
                    have he : 0 < e := by omega
                    obtain ⟨st, hse⟩ : ∃ st, st = e - 4 := ⟨_, rfl⟩
                    have hmax : max (0 : Int) ((e : Int) - 4) = (st : Int) := by omega
                    go_upto_region 20 with fail
                    rw [← hse]
                    have heD : e ≤ sd.size := by omega
                    have hNX := Lib.hid (hst.out.next hall he)
                    have hwx := hNX.out.ws
                    rw [← hse] at hNX hwx
                    clear hmax
                    have hse2 : e ≤ st + 4 ∧ st ≤ e := by omega
                    have hse3 : st = e - 4 := hse
                    clear hse
                    have HSE := Lib.hid hse3
                    clear hse3
                    go_loop [9, 10] (fun s9 s10 => ∃ i : Nat, st ≤ i ∧ i ≤ e ∧ s10 = .int .i64 (i : Int) ∧ s9 = .int .i64 (digV ((D.drop st).take (i - st)) : Int)) (fun _ s10 => e - (intOf s10).toNat)
                    case atStart => exact ⟨st, Nat.le_refl _, hse2.2, rfl, by rw [Nat.sub_self, List.take_zero]; rfl⟩
                    case round =>
                      obtain ⟨i, hi0, hi1, rfl, rfl⟩ := hrel
                      rcases Nat.lt_or_eq_of_le hi1 with h3 | h3
                      · have h4 : i < sd.size := by omega
                        have hiD : i < D.length := by rw [← HDS.out]; exact h4
                        have hel : sd[i]'h4 = D[i] := by
                          have h1 := HDL.out
                          have : sd[i]'h4 = sd.data.toList[i]'(by rw [h1]; exact hiD) := by simp; rfl
                          rw [this]
                          simp only [h1]
                        have i0 : (0 : Int) ≤ (i : Int) := by omega
                        have i3 : (i : Int) < (sd.size : Int) := by omega
                        have i4 : (i : Int) < (e : Int) := by omega
                        have hcn := chunk_next (D := D) (st := st) hi0 hiD
                        have hcl := chunk_lt hall st (i - st)
                        have hp3 : (10 : Nat) ^ (i - st) ≤ 10 ^ 3 := Nat.pow_le_pow_right (by omega) (by omega)
                        have hdx := List.all_eq_true.1 hall D[i] (List.getElem_mem hiD)
                        simp only [isDig, Bool.and_eq_true, decide_eq_true_eq] at hdx
                        obtain ⟨x, hx⟩ : ∃ x, x = D[i] := ⟨_, rfl⟩
                        rw [← hx] at hel hdx hcn
                        obtain ⟨pv, hpv⟩ : ∃ pv, pv = digV ((D.drop st).take (i - st)) := ⟨_, rfl⟩
                        rw [← hpv] at hcl hcn ⊢
                        have hcl2 : pv < 1000 := by omega
                        have HCN := Lib.hid hcn
                        clear hcn hx hpv hcl hp3
                        go_wp2
                        exact ⟨⟨i + 1, by omega, by omega, by go_num, by rw [HCN.out]; go_num⟩, by simp [intOf]; omega⟩
                      · subst h3
                        have i4 : ¬ (i : Int) < (i : Int) := by omega
                        obtain ⟨pv, hpv⟩ : ∃ pv, pv = digV ((D.drop st).take (i - st)) := ⟨_, rfl⟩
                        rw [← hpv] at hNX hwx ⊢
                        clear hpv
                        go_wp2_with (at_builtin; refine push_int rfl _ _ rfl W.heap.size v ds.length (ds.map d64) (pv : Int) rfl hown rfl ?c1 ?c2 ?_)
                        case c1 => omega
                        case c2 => exact hb.size
                        intro v' w5 hown5 hb5
                        rw [map_snoc] at hown5
                        have hbb := Below.trans hb hb5
                        have hown6 : w5.ownsRow W.heap.size 3 1 v' (ds ++ [pv]).length ((ds ++ [pv]).map d64) := by rw [List.length_append, List.length_singleton]; exact hown5
                        have HO := Lib.hid hown6
                        clear hown5 hown6
                        go_wp2_with fail
                        go_roundw
                        case rel => exact ⟨(i : Int) - 4, ds ++ [pv], v', rfl, by omega, by omega, rfl, HO.out, Lib.hid (by rw [show ((i : Int) - 4).toNat = st by have := HSE.out; omega]; exact hNX.out), hbb⟩
                        case measure => simp only [intOf]; omega
                  · have hz' : ¬ 0 < z := by omega
                    have hf : val ds = digV D := RPar.done (by have := hst.out; rwa [show z.toNat = 0 by omega] at this)
                    have HV := Lib.hid hf
                    have hws := hst.out.ws
                    obtain ⟨A, cp, hv, hd, _⟩ := owns_dig hown hws
                    rw [hv]
                    have hlm : ds.length ≤ many := by unfold many; omega
                    clear hv hf hown hln
                    go_wp2_with fail
                    refine ((rnormal_any true A cp ds _ hd hlm).mono fun _ _ h => RetNA.ret h).mono ?_
                    rintro e w2 ⟨x, rfl, k2, hx⟩
                    rw [HV.out] at hx
                    go_upto_region 25 with fail
                    refine wp_new1 fun w3 hX k3 => ?_
                    have kk := Below.call hb (Below.call k2 k3)
                    replace hx := hx.on k3
                    obtain ⟨x0, x1⟩ := hX.rules2
                    have hW := Below.refl w3.heap.size w3
                    have habs : (sgn true (digV D)).natAbs = digV D := rsgn_abs _ _
                    go_wp2_with fail
                    refine (HFit.out hx).mono ?_
                    rintro e w4 ⟨rfl, k4⟩
                    have hO4 := hO.on (Below.call kk k4)
                    obtain ⟨z0, z1, f0, f1⟩ := hO4.all2
                    rw [habs]
                    by_cases hfit : digV D < T
                    · have hn : Txt.num T L = (sgn true (digV D), 0) := by
                        rw [Txt.num_ok (HSM.out) HB.out (by rw [HD.out]; omega), HNG.out, HD.out]; rfl
                      have hN := hx.on k4
                      rw [← HLE.out] at hn
                      have HR : Hid (RetNE w (Txt.num T (45::c2::r2)).1 (Txt.num T (45::c2::r2)).2 (.returned (.tuple #[.agg #[.bool x.neg, .slice x.A x.n x.c], .int .i64 0])) ((w4.setCell ⟨w.heap.size, 0, none⟩ (.bool x.neg)).setCell ⟨w.heap.size, 1, none⟩ (.slice x.A x.n x.c))) := Lib.hid (by
                        rw [hn]
                        exact ⟨x, rfl, Below.put2 (Below.call hB (Below.call kk k4)) (Nat.le_refl _) _ _, hN.put2 hO4 (by simp) (by simp) _ _⟩)
                      obtain ⟨q0, q1, _⟩ := (hO4.put2 (.bool x.neg) (.slice x.A x.n x.c)).all2
                      clear hn hN hd
                      go_wp2
                      exact bodyPost_ret (v := .tuple #[.agg #[.bool x.neg, .slice x.A x.n x.c], .int .i64 0]) (by simp [results, Tryz.results33, go_sem, q0, q1]) rfl HR.out
                    · have hn : Txt.num T L = (0, 4) := Txt.num_big (HSM.out) HB.out (by rw [HD.out]; omega)
                      have HF := Lib.hid (HBD.out w4 0 4 (by rw [HLE.out]; exact hn) rfl (Below.call kk k4))
                      obtain ⟨q0, q1, _⟩ := (hO4.put2 (.bool false) (.slice none 0 0)).all2
                      clear hn hd
                      go_wp2
                      exact bodyPost_ret (v := .tuple #[.agg #[.bool false, .slice none 0 0], .int .i64 4]) (by simp [results, Tryz.results33, go_sem, q0, q1]) rfl HF.out
      · have hne45 : ((c.toNat : Nat) : Int) ≠ 45 := fun e => hc45 (UInt8.toNat_inj.1 (by show c.toNat = 45; omega))
        have hne245 : (((c.toNat : Nat) : Int) == 45) = false := beq_eq_false_iff_ne.2 hne45
        obtain ⟨sd, rfl⟩ : ∃ sd, sd = s := ⟨_, rfl⟩
        have hp1z : ((sd.size : Int) == 0) = false := beq_eq_false_iff_ne.2 (by omega)
        have hng : Txt.neg (c :: r) = false := by simp [Txt.neg]; exact hc45
        have hdg : Txt.digs (c :: r) = c :: r := by unfold Txt.digs; rw [hng]; rfl
        have HDS := HSZ
        have HDL := HL
        have HD := Lib.hid hdg
        have HNG := Lib.hid hng
        have HSM := Lib.hid (show ¬ 5000 < (c :: r).length by omega)
        have hD5 : (c :: r).length ≤ 5000 := hsmall
        have HB1 := Lib.hid (show ¬ (c :: r).all isDig = true → Txt.bad (c :: r) = true from fun h => by
          unfold Txt.bad
          rw [hdg]
          rw [Bool.not_eq_true] at h
          rw [h]; simp)
        by_cases hc48 : c = 48
        · subst hc48
          rcases r with _ | ⟨c2, r2⟩
          · have hl1 : ¬ (1 : Int) < (sd.size : Int) := by have := HSZ.out; simp at this; omega
            have HB0 := Lib.hid (show [(48 : UInt8)].all isDig = true → Txt.bad [48] = false from fun _ => by decide)
            clear HL HSZ hlen hsmall hc45 hng hdg
            go_upto_region 9 with fail
            obtain ⟨L, hL⟩ : ∃ L, [(48 : UInt8)] = L := ⟨_, rfl⟩
            have HLE := Lib.hid hL
            obtain ⟨D, hDD⟩ : ∃ D, [(48 : UInt8)] = D := ⟨_, rfl⟩
            have HB0' : Hid (D.all isDig = true → Txt.bad L = false) := by rw [← hDD, ← hL]; exact HB0
            have HB1' : Hid (¬ D.all isDig = true → Txt.bad L = true) := by rw [← hDD, ← hL]; exact HB1
            have HD' : Hid (Txt.digs L = D) := by rw [← hDD, ← hL]; exact HD
            have HNG' : Hid (Txt.neg L = false) := by rw [← hL]; exact HNG
            have HSM' : Hid (¬ 5000 < L.length) := by rw [← hL]; exact HSM
            have HDS' : Hid (sd.size = D.length) := by rw [← hDD]; exact HDS
            have HDL' : Hid (sd.data.toList = D) := by rw [← hDD]; exact HDL
            have hD5' : D.length ≤ 5000 := by rw [← hDD]; exact hD5
            clear hDD hL HB0 HB1 HD HNG HSM HDS HDL hD5
            have HB0 := HB0'
            have HB1 := HB1'
            have HD := HD'
            have HNG := HNG'
            have HSM := HSM'
            have HDS := HDS'
            have HDL := HDL'
            have hD5 := hD5'
            clear HB0' HB1' HD' HNG' HSM' HDS' HDL' hD5'
            go_wp2_with fail
            go_loop [6] (fun s6 => ∃ i : Nat, i ≤ sd.size ∧ s6 = .int .i64 (i : Int) ∧ Hid (∀ j (hj : j < D.length), j < i → isDig D[j] = true)) (fun s6 => sd.size - (intOf s6).toNat)
            case atStart => exact ⟨0, by omega, rfl, Lib.hid (fun j hj h => absurd h (by omega))⟩
            case round =>
              obtain ⟨i, hi, rfl, hdg⟩ := hrel
              rcases Nat.lt_or_eq_of_le hi with h3 | h3
              · have hiD : i < D.length := by rw [← HDS.out]; exact h3
                have hel : sd[i]'h3 = D[i] := by
                  have h1 := HDL.out
                  have : sd[i]'h3 = sd.data.toList[i]'(by rw [h1]; exact hiD) := by simp; rfl
                  rw [this]
                  simp only [h1]
                have i0 : (0 : Int) ≤ (i : Int) := by omega
                have i3 : (i : Int) < (sd.size : Int) := by omega
                obtain ⟨x, hx⟩ : ∃ x, x = D[i] := ⟨_, rfl⟩
                rw [← hx] at hel
                have HX := Lib.hid hx
                have hxl := x.toNat_lt
                clear hx
                by_cases hdx : isDig x = true
                · have hdx' := hdx
                  simp only [isDig, Bool.and_eq_true, decide_eq_true_eq] at hdx'
                  have hx1 : ¬ ((x.toNat : Nat) : Int) < 48 := by omega
                  have hx2 : ¬ 57 < ((x.toNat : Nat) : Int) := by omega
                  have HN : Hid (∀ j (hj : j < D.length), j < i + 1 → isDig D[j] = true) := Lib.hid fun j hj h => by
                    rcases Nat.lt_or_eq_of_le (Nat.le_of_lt_succ h) with h4 | h4
                    · exact hdg.out j hj h4
                    · subst h4; rw [← HX.out]; exact hdx
                  clear hdx hdx'
                  go_wp2
                  exact ⟨⟨i + 1, by omega, by go_num, HN⟩, by simp [intOf]; omega⟩
                · have hnd : ((x.toNat : Nat) : Int) < 48 ∨ (¬ ((x.toNat : Nat) : Int) < 48 ∧ 57 < ((x.toNat : Nat) : Int)) := by
                    simp only [isDig, Bool.and_eq_true, decide_eq_true_eq] at hdx
                    omega
                  have hall : ¬ D.all isDig = true := fun h => hdx (by rw [HX.out]; exact List.all_eq_true.1 h _ (List.getElem_mem hiD))
                  have HN := Lib.hid (Txt.num_bad (T := T) (HSM.out) (HB1.out hall))
                  clear hall hdx
                  rcases hnd with hx1 | ⟨hx1, hx2⟩
                  · have HF := Lib.hid (HBD.out W 0 2 (by rw [HLE.out]; exact HN.out) rfl (Below.refl _ _))
                    obtain ⟨z0, z1, f0, f1⟩ := hO.all2
                    obtain ⟨q0, q1, _⟩ := (hO.put2 (.bool false) (.slice none 0 0)).all2
                    go_wp2
                    exact bodyPost_ret (v := .tuple #[.agg #[.bool false, .slice none 0 0], .int .i64 2]) (by simp [results, Tryz.results33, go_sem, q0, q1]) rfl HF.out
                  · have HF := Lib.hid (HBD.out W 0 2 (by rw [HLE.out]; exact HN.out) rfl (Below.refl _ _))
                    obtain ⟨z0, z1, f0, f1⟩ := hO.all2
                    obtain ⟨q0, q1, _⟩ := (hO.put2 (.bool false) (.slice none 0 0)).all2
                    go_wp2
                    exact bodyPost_ret (v := .tuple #[.agg #[.bool false, .slice none 0 0], .int .i64 2]) (by simp [results, Tryz.results33, go_sem, q0, q1]) rfl HF.out
              · have hall : D.all isDig = true := by
                  rw [List.all_eq_true]
                  intro x hx
                  obtain ⟨j, hj, rfl⟩ := List.getElem_of_mem hx
                  exact hdg.out j hj (by rw [h3, HDS.out]; exact hj)
                subst h3
                have HB := Lib.hid (HB0.out hall)
                clear hdg hi
                have hds5 : sd.size ≤ 5000 := by rw [HDS.out]; exact hD5
                have hst0 := Lib.hid (RPar.start D)
                go_upto_region 16 with fail
                go_loopw [7, 8] (fun s7 s8 wr => ∃ (z : Int) (ds : List Nat) (v : Value), s8 = .int .i64 z ∧ z ≤ sd.size ∧ -4 ≤ z ∧ s7 = v ∧ wr.ownsRow W.heap.size 3 1 v ds.length (ds.map d64) ∧ Hid (RPar D z.toNat ds) ∧ Below W.heap.size W wr) (fun _ s8 _ => (intOf s8).toNat)
                case atStart => exact ⟨(sd.size : Int), [], _, rfl, by omega, by omega, rfl, World.ownsRow_nil _ _ _ _, Lib.hid (by rw [Int.toNat_natCast, HDS.out]; exact hst0.out), Below.refl _ _⟩
                case round =>
                  obtain ⟨z, ds, v, rfl, hz1, hz0, hv, hown, hst, hb⟩ := hrel
                  have hv' := hv.symm
                  subst hv'
                  have hln := hst.out.len
                  have hDL : D.length ≤ 5000 := hD5
                  rcases Int.lt_or_le 0 z with hz | hz
                  · obtain ⟨e, rfl⟩ : ∃ e : Nat, z = (e : Int) := ⟨z.toNat, by omega⟩
                    rw [Int.toNat_natCast] at hst hln
                    have he : 0 < e := by omega
                    obtain ⟨st, hse⟩ : ∃ st, st = e - 4 := ⟨_, rfl⟩
                    have hmax : max (0 : Int) ((e : Int) - 4) = (st : Int) := by omega
                    go_upto_region 20 with fail
                    rw [← hse]
                    have heD : e ≤ sd.size := by omega
                    have hNX := Lib.hid (hst.out.next hall he)
                    have hwx := hNX.out.ws
                    rw [← hse] at hNX hwx
                    clear hmax
                    have hse2 : e ≤ st + 4 ∧ st ≤ e := by omega
                    have hse3 : st = e - 4 := hse
                    clear hse
                    have HSE := Lib.hid hse3
                    clear hse3
                    go_loop [9, 10] (fun s9 s10 => ∃ i : Nat, st ≤ i ∧ i ≤ e ∧ s10 = .int .i64 (i : Int) ∧ s9 = .int .i64 (digV ((D.drop st).take (i - st)) : Int)) (fun _ s10 => e - (intOf s10).toNat)
                    case atStart => exact ⟨st, Nat.le_refl _, hse2.2, rfl, by rw [Nat.sub_self, List.take_zero]; rfl⟩
                    case round =>
                      obtain ⟨i, hi0, hi1, rfl, rfl⟩ := hrel
                      rcases Nat.lt_or_eq_of_le hi1 with h3 | h3
                      · have h4 : i < sd.size := by omega
                        have hiD : i < D.length := by rw [← HDS.out]; exact h4
                        have hel : sd[i]'h4 = D[i] := by
                          have h1 := HDL.out
                          have : sd[i]'h4 = sd.data.toList[i]'(by rw [h1]; exact hiD) := by simp; rfl
                          rw [this]
                          simp only [h1]
                        have i0 : (0 : Int) ≤ (i : Int) := by omega
                        have i3 : (i : Int) < (sd.size : Int) := by omega
                        have i4 : (i : Int) < (e : Int) := by omega
                        have hcn := chunk_next (D := D) (st := st) hi0 hiD
                        have hcl := chunk_lt hall st (i - st)
                        have hp3 : (10 : Nat) ^ (i - st) ≤ 10 ^ 3 := Nat.pow_le_pow_right (by omega) (by omega)
                        have hdx := List.all_eq_true.1 hall D[i] (List.getElem_mem hiD)
                        simp only [isDig, Bool.and_eq_true, decide_eq_true_eq] at hdx
                        obtain ⟨x, hx⟩ : ∃ x, x = D[i] := ⟨_, rfl⟩
                        rw [← hx] at hel hdx hcn
                        obtain ⟨pv, hpv⟩ : ∃ pv, pv = digV ((D.drop st).take (i - st)) := ⟨_, rfl⟩
                        rw [← hpv] at hcl hcn ⊢
                        have hcl2 : pv < 1000 := by omega
                        have HCN := Lib.hid hcn
                        clear hcn hx hpv hcl hp3
                        go_wp2
                        exact ⟨⟨i + 1, by omega, by omega, by go_num, by rw [HCN.out]; go_num⟩, by simp [intOf]; omega⟩
                      · subst h3
                        have i4 : ¬ (i : Int) < (i : Int) := by omega
                        obtain ⟨pv, hpv⟩ : ∃ pv, pv = digV ((D.drop st).take (i - st)) := ⟨_, rfl⟩
                        rw [← hpv] at hNX hwx ⊢
                        clear hpv
                        go_wp2_with (at_builtin; refine push_int rfl _ _ rfl W.heap.size v ds.length (ds.map d64) (pv : Int) rfl hown rfl ?c1 ?c2 ?_)
                        case c1 => omega
                        case c2 => exact hb.size
                        intro v' w5 hown5 hb5
                        rw [map_snoc] at hown5
                        have hbb := Below.trans hb hb5
                        have hown6 : w5.ownsRow W.heap.size 3 1 v' (ds ++ [pv]).length ((ds ++ [pv]).map d64) := by rw [List.length_append, List.length_singleton]; exact hown5
                        have HO := Lib.hid hown6
                        clear hown5 hown6
                        go_wp2_with fail
                        go_roundw
                        case rel => exact ⟨(i : Int) - 4, ds ++ [pv], v', rfl, by omega, by omega, rfl, HO.out, Lib.hid (by rw [show ((i : Int) - 4).toNat = st by have := HSE.out; omega]; exact hNX.out), hbb⟩
                        case measure => simp only [intOf]; omega
                  · have hz' : ¬ 0 < z := by omega
                    have hf : val ds = digV D := RPar.done (by have := hst.out; rwa [show z.toNat = 0 by omega] at this)
                    have HV := Lib.hid hf
                    have hws := hst.out.ws
                    obtain ⟨A, cp, hv, hd, _⟩ := owns_dig hown hws
                    rw [hv]
                    have hlm : ds.length ≤ many := by unfold many; omega
                    clear hv hf hown hln
                    go_wp2_with fail
                    refine ((rnormal_any false A cp ds _ hd hlm).mono fun _ _ h => RetNA.ret h).mono ?_
                    rintro e w2 ⟨x, rfl, k2, hx⟩
                    rw [HV.out] at hx
                    go_upto_region 25 with fail
                    refine wp_new1 fun w3 hX k3 => ?_
                    have kk := Below.call hb (Below.call k2 k3)
                    replace hx := hx.on k3
                    obtain ⟨x0, x1⟩ := hX.rules2
                    have hW := Below.refl w3.heap.size w3
                    have habs : (sgn false (digV D)).natAbs = digV D := rsgn_abs _ _
                    go_wp2_with fail
                    refine (HFit.out hx).mono ?_
                    rintro e w4 ⟨rfl, k4⟩
                    have hO4 := hO.on (Below.call kk k4)
                    obtain ⟨z0, z1, f0, f1⟩ := hO4.all2
                    rw [habs]
                    by_cases hfit : digV D < T
                    · have hn : Txt.num T L = (sgn false (digV D), 0) := by
                        rw [Txt.num_ok (HSM.out) HB.out (by rw [HD.out]; omega), HNG.out, HD.out]; rfl
                      have hN := hx.on k4
                      rw [← HLE.out] at hn
                      have HR : Hid (RetNE w (Txt.num T [48]).1 (Txt.num T [48]).2 (.returned (.tuple #[.agg #[.bool x.neg, .slice x.A x.n x.c], .int .i64 0])) ((w4.setCell ⟨w.heap.size, 0, none⟩ (.bool x.neg)).setCell ⟨w.heap.size, 1, none⟩ (.slice x.A x.n x.c))) := Lib.hid (by
                        rw [hn]
                        exact ⟨x, rfl, Below.put2 (Below.call hB (Below.call kk k4)) (Nat.le_refl _) _ _, hN.put2 hO4 (by simp) (by simp) _ _⟩)
                      obtain ⟨q0, q1, _⟩ := (hO4.put2 (.bool x.neg) (.slice x.A x.n x.c)).all2
                      clear hn hN hd
                      go_wp2
                      exact bodyPost_ret (v := .tuple #[.agg #[.bool x.neg, .slice x.A x.n x.c], .int .i64 0]) (by simp [results, Tryz.results33, go_sem, q0, q1]) rfl HR.out
                    · have hn : Txt.num T L = (0, 4) := Txt.num_big (HSM.out) HB.out (by rw [HD.out]; omega)
                      have HF := Lib.hid (HBD.out w4 0 4 (by rw [HLE.out]; exact hn) rfl (Below.call kk k4))
                      obtain ⟨q0, q1, _⟩ := (hO4.put2 (.bool false) (.slice none 0 0)).all2
                      clear hn hd
                      go_wp2
                      exact bodyPost_ret (v := .tuple #[.agg #[.bool false, .slice none 0 0], .int .i64 4]) (by simp [results, Tryz.results33, go_sem, q0, q1]) rfl HF.out
          · have hl1 : (1 : Int) < (sd.size : Int) := by have := HSZ.out; simp at this; omega
            have HN := Lib.hid (show Txt.num T (48 :: c2 :: r2) = (0, 2) from Txt.num_bad HSM.out (by simp [Txt.bad, Txt.digs, Txt.neg]))
            have HF := Lib.hid (HBD.out W 0 2 HN.out rfl (Below.refl _ _))
            obtain ⟨z0, z1, f0, f1⟩ := hO.all2
            obtain ⟨q0, q1, _⟩ := (hO.put2 (.bool false) (.slice none 0 0)).all2
            go_wp2
            exact bodyPost_ret (v := .tuple #[.agg #[.bool false, .slice none 0 0], .int .i64 2]) (by simp [results, Tryz.results33, go_sem, q0, q1]) rfl HF.out
        · have hne : ((c.toNat : Nat) : Int) ≠ 48 := fun e => hc48 (UInt8.toNat_inj.1 (by show c.toNat = 48; omega))
          have hne2 : (((c.toNat : Nat) : Int) == 48) = false := beq_eq_false_iff_ne.2 hne
          have HB0 := Lib.hid (show (c :: r).all isDig = true → Txt.bad (c :: r) = false from fun h => by
            unfold Txt.bad
            rw [hdg, h]
            simp [hc48])
          clear HL HSZ hlen hsmall hc45 hng hdg hc48
          go_upto_region 9 with fail
          obtain ⟨L, hL⟩ : ∃ L, c :: r = L := ⟨_, rfl⟩
          have HLE := Lib.hid hL
          obtain ⟨D, hDD⟩ : ∃ D, c :: r = D := ⟨_, rfl⟩
          have HB0' : Hid (D.all isDig = true → Txt.bad L = false) := by rw [← hDD, ← hL]; exact HB0
          have HB1' : Hid (¬ D.all isDig = true → Txt.bad L = true) := by rw [← hDD, ← hL]; exact HB1
          have HD' : Hid (Txt.digs L = D) := by rw [← hDD, ← hL]; exact HD
          have HNG' : Hid (Txt.neg L = false) := by rw [← hL]; exact HNG
          have HSM' : Hid (¬ 5000 < L.length) := by rw [← hL]; exact HSM
          have HDS' : Hid (sd.size = D.length) := by rw [← hDD]; exact HDS
          have HDL' : Hid (sd.data.toList = D) := by rw [← hDD]; exact HDL
          have hD5' : D.length ≤ 5000 := by rw [← hDD]; exact hD5
          clear hDD hL HB0 HB1 HD HNG HSM HDS HDL hD5
          have HB0 := HB0'
          have HB1 := HB1'
          have HD := HD'
          have HNG := HNG'
          have HSM := HSM'
          have HDS := HDS'
          have HDL := HDL'
          have hD5 := hD5'
          clear HB0' HB1' HD' HNG' HSM' HDS' HDL' hD5'
          go_wp2_with fail
          go_loop [6] (fun s6 => ∃ i : Nat, i ≤ sd.size ∧ s6 = .int .i64 (i : Int) ∧ Hid (∀ j (hj : j < D.length), j < i → isDig D[j] = true)) (fun s6 => sd.size - (intOf s6).toNat)
          case atStart => exact ⟨0, by omega, rfl, Lib.hid (fun j hj h => absurd h (by omega))⟩
          case round =>
            obtain ⟨i, hi, rfl, hdg⟩ := hrel
            rcases Nat.lt_or_eq_of_le hi with h3 | h3
            · have hiD : i < D.length := by rw [← HDS.out]; exact h3
              have hel : sd[i]'h3 = D[i] := by
                have h1 := HDL.out
                have : sd[i]'h3 = sd.data.toList[i]'(by rw [h1]; exact hiD) := by simp; rfl
                rw [this]
                simp only [h1]
              have i0 : (0 : Int) ≤ (i : Int) := by omega
              have i3 : (i : Int) < (sd.size : Int) := by omega
              obtain ⟨x, hx⟩ : ∃ x, x = D[i] := ⟨_, rfl⟩
              rw [← hx] at hel
              have HX := Lib.hid hx
              have hxl := x.toNat_lt
              clear hx
              by_cases hdx : isDig x = true
              · have hdx' := hdx
                simp only [isDig, Bool.and_eq_true, decide_eq_true_eq] at hdx'
                have hx1 : ¬ ((x.toNat : Nat) : Int) < 48 := by omega
                have hx2 : ¬ 57 < ((x.toNat : Nat) : Int) := by omega
                have HN : Hid (∀ j (hj : j < D.length), j < i + 1 → isDig D[j] = true) := Lib.hid fun j hj h => by
                  rcases Nat.lt_or_eq_of_le (Nat.le_of_lt_succ h) with h4 | h4
                  · exact hdg.out j hj h4
                  · subst h4; rw [← HX.out]; exact hdx
                clear hdx hdx'
                go_wp2
                exact ⟨⟨i + 1, by omega, by go_num, HN⟩, by simp [intOf]; omega⟩
              · have hnd : ((x.toNat : Nat) : Int) < 48 ∨ (¬ ((x.toNat : Nat) : Int) < 48 ∧ 57 < ((x.toNat : Nat) : Int)) := by
                  simp only [isDig, Bool.and_eq_true, decide_eq_true_eq] at hdx
                  omega
                have hall : ¬ D.all isDig = true := fun h => hdx (by rw [HX.out]; exact List.all_eq_true.1 h _ (List.getElem_mem hiD))
                have HN := Lib.hid (Txt.num_bad (T := T) (HSM.out) (HB1.out hall))
                clear hall hdx
                rcases hnd with hx1 | ⟨hx1, hx2⟩
                · have HF := Lib.hid (HBD.out W 0 2 (by rw [HLE.out]; exact HN.out) rfl (Below.refl _ _))
                  obtain ⟨z0, z1, f0, f1⟩ := hO.all2
                  obtain ⟨q0, q1, _⟩ := (hO.put2 (.bool false) (.slice none 0 0)).all2
                  go_wp2
                  exact bodyPost_ret (v := .tuple #[.agg #[.bool false, .slice none 0 0], .int .i64 2]) (by simp [results, Tryz.results33, go_sem, q0, q1]) rfl HF.out
                · have HF := Lib.hid (HBD.out W 0 2 (by rw [HLE.out]; exact HN.out) rfl (Below.refl _ _))
                  obtain ⟨z0, z1, f0, f1⟩ := hO.all2
                  obtain ⟨q0, q1, _⟩ := (hO.put2 (.bool false) (.slice none 0 0)).all2
                  go_wp2
                  exact bodyPost_ret (v := .tuple #[.agg #[.bool false, .slice none 0 0], .int .i64 2]) (by simp [results, Tryz.results33, go_sem, q0, q1]) rfl HF.out
            · have hall : D.all isDig = true := by
                rw [List.all_eq_true]
                intro x hx
                obtain ⟨j, hj, rfl⟩ := List.getElem_of_mem hx
                exact hdg.out j hj (by rw [h3, HDS.out]; exact hj)
              subst h3
              have HB := Lib.hid (HB0.out hall)
              clear hdg hi
              have hds5 : sd.size ≤ 5000 := by rw [HDS.out]; exact hD5
              have hst0 := Lib.hid (RPar.start D)
              go_upto_region 16 with fail
              go_loopw [7, 8] (fun s7 s8 wr => ∃ (z : Int) (ds : List Nat) (v : Value), s8 = .int .i64 z ∧ z ≤ sd.size ∧ -4 ≤ z ∧ s7 = v ∧ wr.ownsRow W.heap.size 3 1 v ds.length (ds.map d64) ∧ Hid (RPar D z.toNat ds) ∧ Below W.heap.size W wr) (fun _ s8 _ => (intOf s8).toNat)
              case atStart => exact ⟨(sd.size : Int), [], _, rfl, by omega, by omega, rfl, World.ownsRow_nil _ _ _ _, Lib.hid (by rw [Int.toNat_natCast, HDS.out]; exact hst0.out), Below.refl _ _⟩
              case round =>
                obtain ⟨z, ds, v, rfl, hz1, hz0, hv, hown, hst, hb⟩ := hrel
                have hv' := hv.symm
                subst hv'
                have hln := hst.out.len
                have hDL : D.length ≤ 5000 := hD5
                rcases Int.lt_or_le 0 z with hz | hz
                · obtain ⟨e, rfl⟩ : ∃ e : Nat, z = (e : Int) := ⟨z.toNat, by omega⟩
                  rw [Int.toNat_natCast] at hst hln
                  have he : 0 < e := by omega
                  obtain ⟨st, hse⟩ : ∃ st, st = e - 4 := ⟨_, rfl⟩
                  have hmax : max (0 : Int) ((e : Int) - 4) = (st : Int) := by omega
                  go_upto_region 20 with fail
                  rw [← hse]
                  have heD : e ≤ sd.size := by omega
                  have hNX := Lib.hid (hst.out.next hall he)
                  have hwx := hNX.out.ws
                  rw [← hse] at hNX hwx
                  clear hmax
                  have hse2 : e ≤ st + 4 ∧ st ≤ e := by omega
                  have hse3 : st = e - 4 := hse
                  clear hse
                  have HSE := Lib.hid hse3
                  clear hse3
                  go_loop [9, 10] (fun s9 s10 => ∃ i : Nat, st ≤ i ∧ i ≤ e ∧ s10 = .int .i64 (i : Int) ∧ s9 = .int .i64 (digV ((D.drop st).take (i - st)) : Int)) (fun _ s10 => e - (intOf s10).toNat)
                  case atStart => exact ⟨st, Nat.le_refl _, hse2.2, rfl, by rw [Nat.sub_self, List.take_zero]; rfl⟩
                  case round =>
                    obtain ⟨i, hi0, hi1, rfl, rfl⟩ := hrel
                    rcases Nat.lt_or_eq_of_le hi1 with h3 | h3
                    · have h4 : i < sd.size := by omega
                      have hiD : i < D.length := by rw [← HDS.out]; exact h4
                      have hel : sd[i]'h4 = D[i] := by
                        have h1 := HDL.out
                        have : sd[i]'h4 = sd.data.toList[i]'(by rw [h1]; exact hiD) := by simp; rfl
                        rw [this]
                        simp only [h1]
                      have i0 : (0 : Int) ≤ (i : Int) := by omega
                      have i3 : (i : Int) < (sd.size : Int) := by omega
                      have i4 : (i : Int) < (e : Int) := by omega
                      have hcn := chunk_next (D := D) (st := st) hi0 hiD
                      have hcl := chunk_lt hall st (i - st)
                      have hp3 : (10 : Nat) ^ (i - st) ≤ 10 ^ 3 := Nat.pow_le_pow_right (by omega) (by omega)
                      have hdx := List.all_eq_true.1 hall D[i] (List.getElem_mem hiD)
                      simp only [isDig, Bool.and_eq_true, decide_eq_true_eq] at hdx
                      obtain ⟨x, hx⟩ : ∃ x, x = D[i] := ⟨_, rfl⟩
                      rw [← hx] at hel hdx hcn
                      obtain ⟨pv, hpv⟩ : ∃ pv, pv = digV ((D.drop st).take (i - st)) := ⟨_, rfl⟩
                      rw [← hpv] at hcl hcn ⊢
                      have hcl2 : pv < 1000 := by omega
                      have HCN := Lib.hid hcn
                      clear hcn hx hpv hcl hp3
                      go_wp2
                      exact ⟨⟨i + 1, by omega, by omega, by go_num, by rw [HCN.out]; go_num⟩, by simp [intOf]; omega⟩
                    · subst h3
                      have i4 : ¬ (i : Int) < (i : Int) := by omega
                      obtain ⟨pv, hpv⟩ : ∃ pv, pv = digV ((D.drop st).take (i - st)) := ⟨_, rfl⟩
                      rw [← hpv] at hNX hwx ⊢
                      clear hpv
                      go_wp2_with (at_builtin; refine push_int rfl _ _ rfl W.heap.size v ds.length (ds.map d64) (pv : Int) rfl hown rfl ?c1 ?c2 ?_)
                      case c1 => omega
                      case c2 => exact hb.size
                      intro v' w5 hown5 hb5
                      rw [map_snoc] at hown5
                      have hbb := Below.trans hb hb5
                      have hown6 : w5.ownsRow W.heap.size 3 1 v' (ds ++ [pv]).length ((ds ++ [pv]).map d64) := by rw [List.length_append, List.length_singleton]; exact hown5
                      have HO := Lib.hid hown6
                      clear hown5 hown6
                      go_wp2_with fail
                      go_roundw
                      case rel => exact ⟨(i : Int) - 4, ds ++ [pv], v', rfl, by omega, by omega, rfl, HO.out, Lib.hid (by rw [show ((i : Int) - 4).toNat = st by have := HSE.out; omega]; exact hNX.out), hbb⟩
                      case measure => simp only [intOf]; omega
                · have hz' : ¬ 0 < z := by omega
                  have hf : val ds = digV D := RPar.done (by have := hst.out; rwa [show z.toNat = 0 by omega] at this)
                  have HV := Lib.hid hf
                  have hws := hst.out.ws
                  obtain ⟨A, cp, hv, hd, _⟩ := owns_dig hown hws
                  rw [hv]
                  have hlm : ds.length ≤ many := by unfold many; omega
                  clear hv hf hown hln
                  go_wp2_with fail
                  refine ((rnormal_any false A cp ds _ hd hlm).mono fun _ _ h => RetNA.ret h).mono ?_
                  rintro e w2 ⟨x, rfl, k2, hx⟩
                  rw [HV.out] at hx
                  go_upto_region 25 with fail
                  refine wp_new1 fun w3 hX k3 => ?_
                  have kk := Below.call hb (Below.call k2 k3)
                  replace hx := hx.on k3
                  obtain ⟨x0, x1⟩ := hX.rules2
                  have hW := Below.refl w3.heap.size w3
                  have habs : (sgn false (digV D)).natAbs = digV D := rsgn_abs _ _
                  go_wp2_with fail
                  refine (HFit.out hx).mono ?_
                  rintro e w4 ⟨rfl, k4⟩
                  have hO4 := hO.on (Below.call kk k4)
                  obtain ⟨z0, z1, f0, f1⟩ := hO4.all2
                  rw [habs]
                  by_cases hfit : digV D < T
                  · have hn : Txt.num T L = (sgn false (digV D), 0) := by
                      rw [Txt.num_ok (HSM.out) HB.out (by rw [HD.out]; omega), HNG.out, HD.out]; rfl
                    have hN := hx.on k4
                    rw [← HLE.out] at hn
                    have HR : Hid (RetNE w (Txt.num T (c::r)).1 (Txt.num T (c::r)).2 (.returned (.tuple #[.agg #[.bool x.neg, .slice x.A x.n x.c], .int .i64 0])) ((w4.setCell ⟨w.heap.size, 0, none⟩ (.bool x.neg)).setCell ⟨w.heap.size, 1, none⟩ (.slice x.A x.n x.c))) := Lib.hid (by
                      rw [hn]
                      exact ⟨x, rfl, Below.put2 (Below.call hB (Below.call kk k4)) (Nat.le_refl _) _ _, hN.put2 hO4 (by simp) (by simp) _ _⟩)
                    obtain ⟨q0, q1, _⟩ := (hO4.put2 (.bool x.neg) (.slice x.A x.n x.c)).all2
                    clear hn hN hd
                    go_wp2
                    exact bodyPost_ret (v := .tuple #[.agg #[.bool x.neg, .slice x.A x.n x.c], .int .i64 0]) (by simp [results, Tryz.results33, go_sem, q0, q1]) rfl HR.out
                  · have hn : Txt.num T L = (0, 4) := Txt.num_big (HSM.out) HB.out (by rw [HD.out]; omega)
                    have HF := Lib.hid (HBD.out w4 0 4 (by rw [HLE.out]; exact hn) rfl (Below.call kk k4))
                    obtain ⟨q0, q1, _⟩ := (hO4.put2 (.bool false) (.slice none 0 0)).all2
                    clear hn hd
                    go_wp2
                    exact bodyPost_ret (v := .tuple #[.agg #[.bool false, .slice none 0 0], .int .i64 4]) (by simp [results, Tryz.results33, go_sem, q0, q1]) rfl HF.out
end Go.Proofs.YthafhbogpfggjaaGreatDoor
