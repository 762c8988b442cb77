/-
  Contract of package wide: String.
-/
import Derived.Test.YthafhbogpfggjaaGreatDoorW13
import Derived.Test.YthafhbogpfggjaaGreatDoorW14
import Derived.Test.YthafhbogpfggjaaGreatDoorT1
import Derived.Lib.AppendIntMem
namespace Go.Proofs.YthafhbogpfggjaaGreatDoor
open Go.RowKit Mag

theorem owns_on {w w' : World} {base : Nat} {e : TypeId} {size : Nat} {v : Value} {n : Nat} {xs : List Value} (h : w.ownsRow base e size v n xs) (hb : Below w.heap.size w w') : w'.ownsRow base e size v n xs :=
  h.kept (row := none) ⟨hb.os, hb.tape, hb.output, hb.size, fun k hk _ => hb.block k hk⟩ (by cases h' : v.ownBlock <;> simp)
/-- The table that strconv reads. -/
def Tab (w : World) : Prop := Lib.TabIs Tryz.prog w "internal/strconv.uint64pow10" .u64 Lib.pow10Tab
theorem Tab.on {w w' : World} (h : Tab w) (hb : Below w.heap.size w w') : Tab w' := Lib.tabBelow_of_tabIs h w' hb
theorem itoa_any (n : Int) (h0 : -9223372036854775808 ≤ n) (h1 : n ≤ 9223372036854775807) (w : World) (ht : Tab w) :
    Calls Tryz.prog 122 #[.int .i64 n] w fun e w' => e = .returned (.string ⟨(Lib.itoa n).toArray⟩) ∧ Below w.heap.size w w' :=
  (Tryz.strconv_Itoa n h0 h1 w ht).mono fun _ _ ⟨he, k, os, hw⟩ => ⟨he, hw ▸ Lib.below_grow w.heap.size w (Nat.le_refl _) k os⟩

/-- The chunks of a text: what is still to be written is the number m, what was written are the texts ps, the last ones first. -/
structure Chunks (V m : Nat) (ps : List (List UInt8)) : Prop where
  txt : (if m = 0 then [] else Lib.decDigits m) ++ ps.reverse.flatten = Lib.decDigits V
  lim : m * 1000000000 ^ ps.length ≤ V
  len : ps.length ≤ 1024
theorem Chunks.start {V : Nat} (h : 0 < V) : Chunks V V [] := ⟨by rw [if_neg (by omega)]; simp, by simp, by simp⟩
theorem top_lim : top ≤ 1000000000 ^ (2 * topW) := by
  rw [top_eq, Nat.pow_mul]
  exact Nat.pow_le_pow_left (by decide) topW
theorem Chunks.few {V m : Nat} {ps : List (List UInt8)} (h : Chunks V m ps) (hm : 0 < m) (hV : V < top) : ps.length < 1024 := by
  rcases Nat.lt_or_ge ps.length (2 * topW) with h1 | h1
  · rw [topW_eq] at h1; exact h1
  · have h2 : 1000000000 ^ (2 * topW) ≤ 1000000000 ^ ps.length := Nat.pow_le_pow_right (by decide) h1
    have h3 := Nat.mul_le_mul hm h2
    have h4 := h.lim
    have h5 := top_lim
    generalize 1000000000 ^ (2 * topW) = P at *
    omega
theorem Chunks.more {V m q r : Nat} {ps : List (List UInt8)} (h : Chunks V m ps) (hV : V < top) (hm : m = q * 1000000000 + r) (hr : r < 1000000000) (hq : 0 < q) : Chunks V q (ps ++ [List.replicate (9 - (Lib.decDigits r).length) 48 ++ Lib.decDigits r]) := by
  have h1 := h.txt
  have h2 := h.lim
  have h3 := DecM.dec_glue 9 q r hq (by omega)
  have h4 := DecM.padD_dec 9 r (by omega) (by omega)
  have h6 := h.few (by omega) hV
  refine ⟨?_, ?_, by simp; omega⟩
  · rw [if_neg (by omega)] at h1 ⊢
    rw [← h1, hm, show (1000000000 : Nat) = 10 ^ 9 from rfl, h3, h4]
    simp
  · have : q * 1000000000 ≤ m := by omega
    have h5 := Nat.mul_le_mul_right (1000000000 ^ ps.length) this
    rw [List.length_append, List.length_singleton, Nat.pow_succ, Nat.mul_comm (1000000000 ^ ps.length), ← Nat.mul_assoc]
    omega
theorem Chunks.last {V m : Nat} {ps : List (List UInt8)} (h : Chunks V m ps) (hV : V < top) (hm : 0 < m) : Chunks V 0 (ps ++ [Lib.decDigits m]) := by
  have h1 := h.txt
  have h6 := h.few hm hV
  rw [if_neg (by omega)] at h1
  exact ⟨by rw [if_pos rfl, ← h1]; simp, by simp, by simp; omega⟩
theorem str_info : (Tryz.prog.info? 9).map (fun i => (i.zero, i.size, i.bytes)) = some (some (.string ⟨#[]⟩), 1, 16) := by kernel_rfl
theorem rep_one (n : Nat) : Lib.repeatL [48] n = List.replicate n 48 := by
  induction n with
  | zero => rfl
  | succ n ih => rw [Lib.repeatL, ih, List.replicate_succ]; rfl
theorem str_app {a b : List UInt8} {c : List UInt8} {sd : ByteArray} (ha : c = a) (hb : sd.data.toList = b) : Value.string (⟨c.toArray⟩ ++ sd) = strV (a ++ b) := by
  subst ha hb
  unfold strV
  congr 1
theorem flat_take {ps : List (List UInt8)} {m : Nat} (h : m < ps.length) : (ps.take (m + 1)).reverse.flatten = ps[m] ++ (ps.take m).reverse.flatten := by
  rw [List.take_succ_eq_append_getElem h, List.reverse_append]; rfl
theorem BuilderNew (w : World) : Lib.BuilderAt 160 5 w.heap.size w.heap.size (.pointer none) [] (w.alloc (.cells #[.pointer none, .slice none 0 0] 160)) :=
  ⟨Nat.le_refl _, .slice none 0 0, heap_alloc_new w _, World.ownsRow_nil _ _ _ _, by simp [Value.ownBlock]⟩
theorem itoa_sgn {neg : Bool} {V : Nat} (hV : 0 < V) : Lib.itoa (sgn neg V) = (if neg then [45] else []) ++ Lib.decDigits V := by
  unfold Lib.itoa sgn
  cases neg
  · rw [if_neg (by simp)]; simp
  · rw [if_pos (by simp; omega)]; simp
theorem itoa_len {z : Int} (h : z.natAbs < top) : (Lib.itoa z).length ≤ 10000 := by
  have h1 : z.natAbs < 10 ^ (9 * (2 * topW)) := by
    rw [Nat.pow_mul, show (10 : Nat) ^ 9 = 1000000000 from rfl]
    exact Nat.lt_of_lt_of_le h top_lim
  have h2 := DecM.dec_length_le (k := 9 * (2 * topW)) (by rw [topW_eq]; omega) h1
  rw [topW_eq] at h2
  unfold Lib.itoa
  split
  · simp; omega
  · rw [show z.toNat = z.natAbs by omega]; omega

set_option maxRecDepth 100000 in
set_option maxHeartbeats 3200000 in
theorem String_any {neg : Bool} {A : Option Addr} {n c : Nat} {z : Int} {w : World} (h : WI w neg A n c z) (ht : Tab w) : Calls Tryz.prog 35 #[.agg #[.bool neg, .slice A n c]] w (TxtPost w (Lib.itoa z)) := by
  obtain ⟨l, rfl, h5, hm, hneg, hz⟩ := h.open_
  have hlt := lt_top hm.ws h5
  clear h
  rcases Nat.eq_zero_or_pos l.length with h0 | h0
  · obtain rfl : l = [] := List.eq_nil_of_length_eq_zero h0
    have hz0 : z = 0 := by rw [hz]; cases neg <;> rfl
    subst hz0
    simp only [List.length_nil]
    clear hz hneg h0
    go_enter Tryz.func35, Tryz.ntmps35
    go_wp2
    go_ret
    exact ⟨by simp [Lib.itoa, DecM.dec_zero], by go_grown⟩
  · obtain ⟨i0, hi, hi0, hi1, hi2⟩ := info_parts str_info
    have hV : 0 < val l := hm.nz.pos (by intro e; subst e; simp at h0)
    have HZ := Lib.hid hz
    clear hz
    have hc0 : ((l.length : Int) == 0) = false := by rw [beq_eq_false_iff_ne]; omega
    go_enter Tryz.func35, Tryz.ntmps35
    go_wp2_with fail
    have hO := Own.new2 w 29 (.bool neg) (.slice A l.length c)
    have hB : Below w.heap.size w (w.alloc (.cells #[.bool neg, .slice A l.length c] 29)) := by go_grown
    generalize w.alloc (.cells #[.bool neg, .slice A l.length c] 29) = W at hO hB ⊢
    have hm' := hm.on hB
    have ht' := ht.on hB
    go_loopg [3, 4] (val l) (fun k s3 s4 wr => ∃ P cp lp v ps, s4 = .slice P (List.length lp) cp ∧ s3 = v ∧ MagIs wr P lp cp ∧ lp.length ≤ 512 ∧ Hid (val lp = k) ∧ Hid (Chunks (val l) (val lp) ps) ∧ wr.ownsRow W.heap.size 9 1 v ps.length (ps.map strV) ∧ Below W.heap.size W wr)
    case atStart => exact ⟨A, c, l, _, [], rfl, rfl, hm', h5, Lib.hid rfl, Lib.hid (Chunks.start hV), World.ownsRow_nil _ _ _ _, Below.refl _ _⟩
    case round =>
      obtain ⟨P, cp, lp, v, ps, rfl, rfl, hp, hp5, hk, hch, hown, hb⟩ := hrel
      rcases Nat.eq_zero_or_pos lp.length with h1 | h1
      · obtain rfl : lp = [] := List.eq_nil_of_length_eq_zero h1
        simp only [List.length_nil]
        have htx : ps.reverse.flatten = Lib.decDigits (val l) := by
          have := hch.out.txt
          rw [val_nil, if_pos rfl] at this
          exact this
        obtain ⟨g, cap, hv, hg⟩ : ∃ g cap, u3 = .slice (some ⟨g, 0, none⟩) ps.length cap ∧ g < wr.heap.size := by
          rcases hown.2 with ⟨_, h0'⟩ | ⟨g, cap, cur, hv, _⟩
          · have : ps = [] := List.eq_nil_of_length_eq_zero h0'
            rw [this] at htx
            exact absurd htx.symm (DecM.dec_ne _)
          · exact ⟨g, cap, hv, (hown.lt g (by rw [hv]; rfl)).2⟩
        rw [hv] at hown ⊢
        have HU3 := Lib.hid hv
        clear hv
        have hlim : (Lib.itoa z).length ≤ 10000 := itoa_len (by rw [HZ.out, sgn_abs]; exact hlt)
        have hitz : Lib.itoa z = (if neg then [45] else []) ++ ps.reverse.flatten := by
          rw [HZ.out, htx, itoa_sgn hV]
        have hpl : ps.length < 1048576 := by
          have h1 := hch.out.len
          omega
        have HIT := Lib.hid hitz
        have hbt := BuilderNew wr
        have hOb := (hO.on hb).alloc (.cells #[.pointer none, .slice none 0 0] 160)
        have hbb := hb.alloc hb.size (.cells #[.pointer none, .slice none 0 0] 160)
        have hcell : ∀ j x, (ps.map strV)[j]? = some x → (wr.alloc (.cells #[.pointer none, .slice none 0 0] 160)).cell? ⟨g, j, none⟩ = some x := fun j x hj => by
          have hjl : j < ps.length := by
            rcases Nat.lt_or_ge j ps.length with h | h
            · exact h
            · rw [List.getElem?_eq_none (by simpa using h)] at hj; cases hj
          rw [World.cell?_alloc_lt wr _ ⟨g, j, none⟩ hg, hown.cellAt j (by simpa using hjl), hj]
        have HC := Lib.hid hcell
        have hsz : wr.heap.size < (wr.alloc (.cells #[.pointer none, .slice none 0 0] 160)).heap.size := by simp
        have HTX := Lib.hid htx
        have hwB : w.heap.size ≤ wr.heap.size := Nat.le_trans hB.size hb.size
        clear htx hitz hcell hch hown hk hp hp5
        obtain ⟨wo, rfl⟩ : ∃ wo : World, wo = wr := ⟨_, rfl⟩
        cases neg
        · go_upto_region 13 with fail
          generalize wo.alloc (.cells #[.pointer none, .slice none 0 0] 160) = w2 at hbt hOb hbb HC hsz ⊢
          have x0 := hOb.c0
          have hI : Lib.IsBuilder 160 5 wo.heap.size wo.heap.size (Lib.byteCells []) w2 := .inl hbt
          have hI2 : Below wo.heap.size w2 w2 := Below.refl _ _
          go_wp2_with fail
          go_loopw [9] (fun s9 wx => ∃ (k : Nat) (acc : List UInt8), k ≤ ps.length ∧ s9 = .int .i64 ((k : Int) - 1) ∧ Lib.IsBuilder 160 5 wo.heap.size wo.heap.size (Lib.byteCells acc) wx ∧ Hid (acc ++ (ps.take k).reverse.flatten = Lib.itoa z) ∧ Below wo.heap.size w2 wx) (fun s9 _ => (intOf s9 + 1).toNat)
          case atStart => exact ⟨ps.length, [], Nat.le_refl _, rfl, hI, Lib.hid (by rw [HIT.out, List.take_of_length_le (Nat.le_refl _)]; rfl), hI2⟩
          case round =>
            obtain ⟨k, acc, hk, rfl, hib, hacc, hbx⟩ := hrel
            have hws := hbx.size
            rcases Nat.eq_zero_or_pos k with hk0 | hk0
            · subst hk0
              have hfull : acc = Lib.itoa z := by rw [← hacc.out]; simp
              have HF := Lib.hid hfull
              have HE : ∀ w', Below wo.heap.size wr w' → Below w.heap.size w w' := fun w' h => (hB.trans (hbb.mono hB.size)).trans ((hbx.mono hwB).trans (h.mono hwB))
              clear hfull
              go_wp2_with fail
              refine (Tryz.Builder_String_any wo.heap.size wo.heap.size acc _ hib (by omega)).mono ?_
              rintro e w6 ⟨rfl, hb6⟩
              go_wp2_with fail
              go_ret
              exact ⟨by show Ending.returned (.string ⟨acc.toArray⟩) = _; rw [HF.out], HE _ hb6⟩
            · obtain ⟨m, rfl⟩ : ∃ m, k = m + 1 := ⟨k - 1, by omega⟩
              rw [show (((m + 1 : Nat) : Int) - 1) = (m : Int) by omega]
              have hmp : m < ps.length := hk
              have hce : wr.cell? ⟨g, m, none⟩ = some (strV ps[m]) := by
                rw [hbx.cell (p := ⟨g, m, none⟩) hg]
                exact HC.out m _ (by rw [List.getElem?_map, List.getElem?_eq_getElem hmp]; rfl)
              obtain ⟨sx, hsx⟩ : ∃ sx : ByteArray, sx = ⟨(ps[m]).toArray⟩ := ⟨_, rfl⟩
              have hce2 : wr.cell? ⟨g, m, none⟩ = some (.string sx) := by rw [hce, hsx]; rfl
              have hacc2 : (acc ++ ps[m]) ++ (ps.take m).reverse.flatten = Lib.itoa z := by
                rw [← hacc.out, flat_take hmp, List.append_assoc]
              have hsz2 : (Lib.byteCells acc).length + sx.size ≤ 10000 := by
                have h7 := congrArg List.length hacc2
                rw [List.length_append, List.length_append] at h7
                have h8 : sx.size = (ps[m]).length := by rw [hsx]; rfl
                rw [Lib.byteCells_length]
                omega
              have hsc : Lib.byteCells acc ++ Lib.strCells sx = Lib.byteCells (acc ++ ps[m]) := by
                rw [hsx]; simp [Lib.byteCells, Lib.strCells, List.map_append]
              have HA2 := Lib.hid hacc2
              have HSC := Lib.hid hsc
              clear hce hsx hacc2 hsc
              go_wp2_with fail
              refine (B_WriteString wo.heap.size wo.heap.size (Lib.byteCells acc) sx _ hib (by omega) (by omega)).mono ?_
              rintro e w6 ⟨rfl, hb6, hbl6⟩
              rw [HSC.out] at hb6
              have hbx6 := hbx.trans hbl6
              go_wp2
              go_roundw
              case rel => exact ⟨m, acc ++ ps[m], by omega, by go_num, .inr hb6, HA2, hbx6⟩
              case measure => simp [intOf] <;> omega
        · go_upto_region 13 with fail
          generalize wo.alloc (.cells #[.pointer none, .slice none 0 0] 160) = w2 at hbt hOb hbb HC hsz ⊢
          have x0 := hOb.c0
          go_wp2_with fail
          refine (B_WriteByte wo.heap.size wo.heap.size [] 45 _ (.inl hbt) (by simp) (by omega)).mono ?_
          rintro e w3 ⟨rfl, hb3, hbl3⟩
          have hI : Lib.IsBuilder 160 5 wo.heap.size wo.heap.size (Lib.byteCells [45]) w3 := .inr hb3
          have hI2 : Below wo.heap.size w2 w3 := hbl3
          go_wp2_with fail
          go_loopw [9] (fun s9 wx => ∃ (k : Nat) (acc : List UInt8), k ≤ ps.length ∧ s9 = .int .i64 ((k : Int) - 1) ∧ Lib.IsBuilder 160 5 wo.heap.size wo.heap.size (Lib.byteCells acc) wx ∧ Hid (acc ++ (ps.take k).reverse.flatten = Lib.itoa z) ∧ Below wo.heap.size w2 wx) (fun s9 _ => (intOf s9 + 1).toNat)
          case atStart => exact ⟨ps.length, [45], Nat.le_refl _, rfl, hI, Lib.hid (by rw [HIT.out, List.take_of_length_le (Nat.le_refl _)]; rfl), hI2⟩
          case round =>
            obtain ⟨k, acc, hk, rfl, hib, hacc, hbx⟩ := hrel
            have hws := hbx.size
            rcases Nat.eq_zero_or_pos k with hk0 | hk0
            · subst hk0
              have hfull : acc = Lib.itoa z := by rw [← hacc.out]; simp
              have HF := Lib.hid hfull
              have HE : ∀ w', Below wo.heap.size wr w' → Below w.heap.size w w' := fun w' h => (hB.trans (hbb.mono hB.size)).trans ((hbx.mono hwB).trans (h.mono hwB))
              clear hfull
              go_wp2_with fail
              refine (Tryz.Builder_String_any wo.heap.size wo.heap.size acc _ hib (by omega)).mono ?_
              rintro e w6 ⟨rfl, hb6⟩
              go_wp2_with fail
              go_ret
              exact ⟨by show Ending.returned (.string ⟨acc.toArray⟩) = _; rw [HF.out], HE _ hb6⟩
            · obtain ⟨m, rfl⟩ : ∃ m, k = m + 1 := ⟨k - 1, by omega⟩
              rw [show (((m + 1 : Nat) : Int) - 1) = (m : Int) by omega]
              have hmp : m < ps.length := hk
              have hce : wr.cell? ⟨g, m, none⟩ = some (strV ps[m]) := by
                rw [hbx.cell (p := ⟨g, m, none⟩) hg]
                exact HC.out m _ (by rw [List.getElem?_map, List.getElem?_eq_getElem hmp]; rfl)
              obtain ⟨sx, hsx⟩ : ∃ sx : ByteArray, sx = ⟨(ps[m]).toArray⟩ := ⟨_, rfl⟩
              have hce2 : wr.cell? ⟨g, m, none⟩ = some (.string sx) := by rw [hce, hsx]; rfl
              have hacc2 : (acc ++ ps[m]) ++ (ps.take m).reverse.flatten = Lib.itoa z := by
                rw [← hacc.out, flat_take hmp, List.append_assoc]
              have hsz2 : (Lib.byteCells acc).length + sx.size ≤ 10000 := by
                have h7 := congrArg List.length hacc2
                rw [List.length_append, List.length_append] at h7
                have h8 : sx.size = (ps[m]).length := by rw [hsx]; rfl
                rw [Lib.byteCells_length]
                omega
              have hsc : Lib.byteCells acc ++ Lib.strCells sx = Lib.byteCells (acc ++ ps[m]) := by
                rw [hsx]; simp [Lib.byteCells, Lib.strCells, List.map_append]
              have HA2 := Lib.hid hacc2
              have HSC := Lib.hid hsc
              clear hce hsx hacc2 hsc
              go_wp2_with fail
              refine (B_WriteString wo.heap.size wo.heap.size (Lib.byteCells acc) sx _ hib (by omega) (by omega)).mono ?_
              rintro e w6 ⟨rfl, hb6, hbl6⟩
              rw [HSC.out] at hb6
              have hbx6 := hbx.trans hbl6
              go_wp2
              go_roundw
              case rel => exact ⟨m, acc ++ ps[m], by omega, by go_num, .inr hb6, HA2, hbx6⟩
              case measure => simp [intOf] <;> omega
      · have hlp : lp ≠ [] := by intro e; subst e; simp at h1
        have hvp := hp.nz.pos hlp
        have hfew := hch.out.few hvp hlt
        have hS := short_any (q := 1000000000) (c := cp) hp.sl hp.ws (by omega) (by omega) (by omega)
        rw [show ((1000000000 : Nat) : Int) = 1000000000 from rfl] at hS
        have HS := Lib.hid hS
        clear hS
        go_wp2_with fail
        refine HS.out.mono ?_
        rintro e w1 ⟨g1, ds, r, rfl, s1, s2, s3, s4, s5, s6, s7⟩
        go_wp2_with fail
        refine (normal_any _ _ ds _ (s1.sl s1.lt) (Nat.le_refl _) (by unfold maxLen; omega)).mono ?_
        rintro e w2 ⟨k2, hk2, rfl, rfl, hnz, hval⟩
        have HV := Lib.hid hval
        clear hval
        have htr := ht'.on hb |>.on s6
        go_wp2_with fail
        refine (itoa_any _ (by omega) (by omega) _ htr).mono ?_
        rintro e w3 ⟨rfl, hb3⟩
        obtain ⟨sd, hsd⟩ : ∃ sd : ByteArray, sd = ⟨(Lib.itoa ((r : Nat) : Int)).toArray⟩ := ⟨_, rfl⟩
        rw [← hsd]
        have hdl : sd.data.toList = Lib.decDigits r := by rw [hsd]; simp [Lib.itoa]
        have hsz : sd.size = (Lib.decDigits r).length := by rw [← hdl, Array.length_toList]; rfl
        have hsv : Value.string sd = strV (Lib.decDigits r) := by rw [hsd]; simp [strV, Lib.itoa]
        have hs1 : sd.size ≤ 9 := by rw [hsz]; exact DecM.dec_length_le (by omega) (by omega)
        have hown3 := owns_on (owns_on hown s6) hb3
        have hb4 := (hb.trans (s6.mono hb.size)).trans (hb3.mono (Nat.le_trans hb.size s6.size))
        have HDL := Lib.hid hdl
        have HSZ := Lib.hid hsz
        have HSV := Lib.hid hsv
        clear hdl hsz hsd hsv
        have hps : (ps.map strV).length = ps.length := by simp
        rcases Nat.eq_zero_or_pos k2 with hk0 | hk0
        · subst hk0
          go_wp2_with (at_builtin; refine wpList_append_own _ rfl _ _ 48 rfl W.heap.size 9 i0 (.string ⟨#[]⟩) 1 16 Tryz.underlying48 hi hi0 hi1 hi2 rfl (by decide) _ _ _ rfl (hown3.alloc _) ⟨w3.heap.size, 0, none⟩ 1 1 [.string sd] rfl rfl ?c1 ?c2 ?c3 ?c4 ?c5 ?_)
          case c1 =>
            intro j u hj
            match j, hj with
            | 0, hj => simp at hj; subst hj; simp [Addr.add]
          case c2 => intro u hu; simp at hu; subst hu; rfl
          case c3 => unfold maxLen; omega
          case c4 => omega
          case c5 => have := hb4.size; simp; omega
          intro v' w5 hown5 hgrow _
          go_wp2_with fail
          have hvd : val ds = 0 := by rw [← HV.out]; rfl
          have hvr : val lp = r := by have := s3.out; omega
          have hlast := hch.out.last hlt hvp
          rw [hvr] at hlast
          have hb5 := (hb4.alloc hb4.size (.cells #[.string sd] 9)).grown hgrow (by have := hb4.size; simp; omega) (fun k hk => (hown3.lt k hk).1)
          go_roundg 0
          case measure => rw [← hk.out]; exact hvp
          case rel =>
            refine ⟨some ⟨g1, 0, none⟩, ds.length, [], v', ps ++ [Lib.decDigits r], ?_, rfl, ⟨Sl.nil_, Ws.nil, Nz.nil, by simp, by unfold maxLen; omega⟩, by simp, Lib.hid rfl, Lib.hid hlast, ?_, hb5⟩
            · rfl
            · rw [HSV.out] at hown5
              simpa using hown5
        · have hds : ds.take k2 ≠ [] := by intro e; have := congrArg List.length e; rw [List.length_take, Nat.min_eq_left hk2, List.length_nil] at this; omega
          have hq0 : 0 < val ds := by rw [← HV.out]; exact hnz.pos hds
          have hc9 : (9 : Int) - (sd.size : Int) = ((9 - sd.size : Nat) : Int) := by omega
          have hR := Tryz.strings_Repeat ⟨#[48]⟩ (9 - sd.size) w3 (by omega) (by show 1 * (9 - sd.size) ≤ _; omega)
          have HR := Lib.hid hR
          clear hR
          go_wp2_with fail
          refine HR.out.mono ?_
          rintro e w4 ⟨rfl, hb4'⟩
          have hown4 := owns_on hown3 hb4'
          have hbw4 := hb4.trans (hb4'.mono hb4.size)
          obtain ⟨rp, hrp⟩ : ∃ rp : ByteArray, rp = ⟨(Lib.repeatL [48] (9 - sd.size)).toArray⟩ := ⟨_, rfl⟩
          rw [← hrp]
          have hsv : Value.string (rp ++ sd) = strV (List.replicate (9 - (Lib.decDigits r).length) 48 ++ Lib.decDigits r) := by
            rw [hrp, HSZ.out]
            exact str_app (rep_one _) HDL.out
          have HSW := Lib.hid hsv
          have hrs : rp.size = 9 - sd.size := by
            rw [hrp, rep_one]
            show ((List.replicate (9 - sd.size) (48 : UInt8)).toArray).size = _
            simp
          have hrl : ¬ 9223372036854775807 < rp.size + sd.size := by omega
          clear hsv hrp hrs
          go_wp2_with (at_builtin; refine wpList_append_own _ rfl _ _ 48 rfl W.heap.size 9 i0 (.string ⟨#[]⟩) 1 16 Tryz.underlying48 hi hi0 hi1 hi2 rfl (by decide) _ _ _ rfl (hown4.alloc _) ⟨w4.heap.size, 0, none⟩ 1 1 [.string (rp ++ sd)] rfl rfl ?c1 ?c2 ?c3 ?c4 ?c5 ?_)
          case c1 =>
            intro j u hj
            match j, hj with
            | 0, hj => simp at hj; subst hj; simp [Addr.add]
          case c2 => intro u hu; simp at hu; subst hu; rfl
          case c3 => unfold maxLen; omega
          case c4 => omega
          case c5 => have := hbw4.size; simp; omega
          intro v' w5 hown5 hgrow _
          go_wp2_with fail
          have hmore := hch.out.more hlt s3.out s4 hq0
          have hb5 := (hbw4.alloc hbw4.size (.cells #[.string (rp ++ sd)] 9)).grown hgrow (by have := hbw4.size; simp; omega) (fun k hk => (hown4.lt k hk).1)
          have hlt5 : val ds < val lp := by have := s3.out; omega
          have hO5 := (((s1.on hb3).on hb4').alloc (.cells #[.string (rp ++ sd)] 9)).grown hgrow (fun e => by have := (hown.lt g1 e.symm).2; omega)
          have hm5 : MagIs w5 (some ⟨g1, 0, none⟩) (ds.take k2) ds.length := ⟨by rw [List.map_take]; exact (hO5.sl hO5.lt).take k2, s2.take k2, hnz, by rw [List.length_take]; omega, by unfold maxLen; omega⟩
          go_roundg (val ds)
          case measure => rw [← hk.out]; exact hlt5
          case rel =>
            refine ⟨some ⟨g1, 0, none⟩, ds.length, ds.take k2, v', ps ++ [List.replicate (9 - (Lib.decDigits r).length) 48 ++ Lib.decDigits r], ?_, rfl, hm5, by rw [List.length_take]; omega, HV, Lib.hid (by rw [HV.out]; exact hmore), ?_, hb5⟩
            · rw [List.length_take, Nat.min_eq_left hk2]
            · rw [HSW.out] at hown5
              simpa using hown5
end Go.Proofs.YthafhbogpfggjaaGreatDoor
