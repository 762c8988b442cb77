/-
  Contracts of package wide: Div by 0, Gcd.
-/
import Derived.Test.YtfbbnphpapmpcaaGreatDoorW11
import Derived.Test.YtfbbnphpapmpcaaGreatDoorShelf
import Derived.Test.YtfbbnphpapmpcaaGreatDoorT1
import Derived.Lib.AppendIntMem
import Derived.Test.YtfbbnphpapmpcaaGreatDoorReg
namespace Go.Proofs.YtfbbnphpapmpcaaGreatDoor
open Go.RowKit Mag

set_option maxRecDepth 100000 in
set_option maxHeartbeats 400000 in
theorem Div_zero {n1 n2 : Bool} {A B : Option Addr} {k c d : Nat} {w : World} :
    Calls Tryz.prog 39 #[.agg #[.bool n1, .slice A k c], .agg #[.bool n2, .slice B 0 d]] w (DivErr w 0 0 1) := by
  go_enter Tryz.func39, Tryz.ntmps39
  go_wp2
  go_returns
  exact ⟨_, _, _, _, _, _, _, _, rfl, by go_grown, WI.zero _, WI.zero _⟩

theorem sgn_abs (b : Bool) (m : Nat) : (sgn b m).natAbs = m := by unfold sgn; cases b <;> simp
set_option maxRecDepth 100000 in
set_option maxHeartbeats 1600000 in
theorem Gcd_any {n1 n2 : Bool} {A B : Option Addr} {k m c d : Nat} {x y : Int} {w : World} (hx : WI w n1 A k c x) (hy : WI w n2 B m d y) :
    Calls Tryz.prog 69 #[.agg #[.bool n1, .slice A k c], .agg #[.bool n2, .slice B m d]] w (IntPost w (Int.gcd x y : Nat)) := by
  obtain ⟨a, rfl, h5, ha, hna, rfl⟩ := hx.open_
  obtain ⟨b, rfl, h6, hb, hnb, rfl⟩ := hy.open_
  clear hx hy
  obtain ⟨gg, hgg⟩ : ∃ gg, gg = Nat.gcd (val a) (val b) := ⟨_, rfl⟩
  have hg : Int.gcd (sgn n1 (val a)) (sgn n2 (val b)) = gg := by rw [Int.gcd, sgn_abs, sgn_abs, hgg]
  rw [hg]
  have HGG := Lib.hid hgg
  have hat := lt_top ha.ws h5
  clear hg hgg
  go_enter Tryz.func69, Tryz.ntmps69
  go_wp2_with fail
  have hB := Box3.mk_ w (.bool n1) (.slice A a.length c) (.bool n2) (.slice B b.length d) (.bool false) (.slice none 0 0) 29 29 29
  generalize (((w.alloc (.cells #[.bool n1, .slice A a.length c] 29)).alloc (.cells #[.bool n2, .slice B b.length d] 29)).alloc (.cells #[.bool false, .slice none 0 0] 29)) = W at hB ⊢
  have ha' := ha.on hB.bel
  have hb' := hb.on hB.bel
  have x1 := hB.x1
  have y1 := hB.y1
  go_quiet (fail)
  have hB' := hB.drewN nq
  have ha2 := ha'.drewN nq
  have hb2 := hb'.drewN nq
  clear x1 y1 hB ha' hb'
  generalize W.drewN nq = V at hB' ha2 hb2 ⊢
  go_wp2_with fail
  go_loopg [5, 6] (val b) (fun n s5 s6 wr => ∃ P cp lp Q cq lq, s5 = .slice P (List.length lp) cp ∧ s6 = .slice Q (List.length lq) cq ∧ MagIs wr P lp cp ∧ MagIs wr Q lq cq ∧ Hid (Nat.gcd (val lp) (val lq) = gg) ∧ Hid (val lq = n) ∧ lp.length ≤ 512 ∧ lq.length ≤ 512 ∧ Box3 w wr (.bool n1) (.slice A a.length c) (.bool n2) (.slice B b.length d) (.bool false) (.slice none 0 0))
  case atStart => exact ⟨A, c, a, B, d, b, rfl, rfl, ha2, hb2, Lib.hid HGG.out.symm, Lib.hid rfl, h5, h6, hB'⟩
  case round =>
    obtain ⟨P, cp, lp, Q, cq, lq, rfl, rfl, hp, hq, hg, hn, hp5, hq5, hbx⟩ := hrel
    rcases Nat.eq_zero_or_pos lq.length with h0 | h0
    · obtain rfl : lq = [] := List.eq_nil_of_length_eq_zero h0
      have hgp : val lp = gg := by rw [← hg.out]; simp [val]
      have HGP := Lib.hid hgp
      clear hgp h0
      simp only [List.length_nil]
      go_wp2_with fail
      refine (hp.mg.signed (lt_top hp.ws hp5) false).mono ?_
      rintro e w1 ⟨ng, B3, k3, c3, rfl, hb1, hwi⟩
      have hwg : WI w1 ng B3 k3 c3 (gg : Nat) := by rw [← HGP.out]; exact hwi
      have hB1 := hbx.on hb1
      have z0 := hB1.z0
      have z1 := hB1.z1
      have f0 := hB1.fz 0
      have f1 := hB1.fz 1
      have hz : w.heap.size + 1 + 1 < w1.heap.size := hB1.sz
      have hB2 := (hB1.put (.bool ng) (.slice B3 k3 c3)).on ((Below.refl _ _).alloc (Nat.le_refl _) (.cells #[.bool ng, .slice B3 k3 c3] 29))
      have hwi2 := ((hwg.put z0 (fun n => by simp) (.bool ng)).put (p := ⟨w.heap.size + 1 + 1, 1, none⟩) (v := .slice none 0 0) (by simp [go_sem, z1]) (fun n => by simp) (.slice B3 k3 c3)).on ((Below.refl _ _).alloc (Nat.le_refl _) (.cells #[.bool ng, .slice B3 k3 c3] 29))
      have HP : IntPost w (gg : Nat) (.returned (.agg #[.bool ng, .slice B3 k3 c3])) _ := ⟨_, _, _, _, rfl, hB2.bel, hwi2⟩
      have HQ := Lib.hid HP
      have q0 := hB2.z0
      have q1 := hB2.z1
      clear HP hB2 hwi2 hwg hwi
      go_wp2
      exact bodyPost_ret (v := .agg #[.bool ng, .slice B3 k3 c3]) (by simp [results, Tryz.results69, go_sem, q0, q1]) rfl HQ.out
    · have hlq : lq ≠ [] := by intro e; subst e; simp at h0
      go_wp2_with fail
      refine (divide_any hp hq hlq (by omega)).mono ?_
      rintro e w1 ⟨A1, c1, A2, c2, q, r, rfl, mq, mr, hdq, hdr, hb1⟩
      have hlt : val r < val lq := by rw [hdr.out]; exact Nat.mod_lt _ (hq.nz.pos hlq)
      have hg2 : Nat.gcd (val lq) (val r) = gg := by rw [← hg.out, hdr.out, Nat.gcd_comm (val lp), Nat.gcd_rec (val lq) (val lp), Nat.gcd_comm]
      have hrl : r.length ≤ 512 := by
        rcases Nat.lt_or_ge lq.length r.length with h | h
        · have := lt_of_length hq.ws mr.nz h; omega
        · omega
      have HG2 := Lib.hid hg2
      have hB1 := hbx.on hb1
      have hq1 := hq.on hb1
      clear hg2
      go_wp2_with fail
      go_roundg (val r)
      case measure => rw [← hn.out]; exact hlt
      case rel => exact ⟨Q, cq, lq, A2, c2, r, rfl, rfl, hq1, mr, HG2, Lib.hid rfl, hq5, hrl, hB1⟩
end Go.Proofs.YtfbbnphpapmpcaaGreatDoor

/-
  (second part)
-/
namespace Go.Proofs.YtfbbnphpapmpcaaGreatDoor
open Go.RowKit

theorem B_copyCheck (B b : Nat) (bs : List Value) (w : World) (h : Lib.IsBuilder 99 5 B b bs w) :
    Calls Tryz.prog 82 #[.pointer (some ⟨b, 0, none⟩)] w fun e w' => e = .returned (.tuple #[]) ∧ (Lib.BuilderAt 99 5 B b (.pointer (some ⟨b, 0, none⟩)) bs w' ∧ Below B w w') :=
  Any.Builder_copyCheck { Tryz.lays105 with } Tryz.Builder_Extra_105.toX72 B b bs w h
theorem B_WriteString (B b : Nat) (bs : List Value) (s : ByteArray) (w : World) (h : Lib.IsBuilder 99 5 B b bs w) (hlen : bs.length + s.size ≤ 140737488355328) (hBw : B ≤ w.heap.size) :
    Calls Tryz.prog 55 #[.pointer (some ⟨b, 0, none⟩), .string s] w fun e w' => e = .returned (.tuple #[.int .i64 s.size, .nilIface]) ∧ (Lib.BuilderAt 99 5 B b (.pointer (some ⟨b, 0, none⟩)) (bs ++ Lib.strCells s) w' ∧ Below B w w') :=
  Any.Builder_WriteString { Tryz.lays105 with } Tryz.Builder_Extra_105 B b bs s w h hlen hBw
theorem u8_info : (Tryz.prog.info? 5).map (fun i => (i.zero, i.size, i.bytes)) = some (some (.int .u8 0), 1, 1) := by kernel_rfl
set_option maxHeartbeats 1000000 in
set_option maxRecDepth 100000 in
theorem B_WriteByte (B b : Nat) (bs : List Value) (c : Int) (w : World) (h : Lib.IsBuilder 99 5 B b bs w) (hlen : bs.length + 1 ≤ 140737488355328) (hBw : B ≤ w.heap.size) :
    Calls Tryz.prog 54 #[.pointer (some ⟨b, 0, none⟩), .int .u8 c] w fun e w' => e = .returned .nilIface ∧ (Lib.BuilderAt 99 5 B b (.pointer (some ⟨b, 0, none⟩)) (bs ++ [.int .u8 c]) w' ∧ Below B w w') := by
  obtain ⟨i0, hi, hz0, hz1, hz2⟩ := info_parts u8_info
  go_enter Tryz.func54, Tryz.ntmps54
  go_wp2_with (go_at_call 82; refine (B_copyCheck B b bs _ h).mono ?_)
  rintro e w1 ⟨rfl, h1, hb1⟩
  obtain ⟨hB, v, hbk, hown, hne⟩ := h1
  have c0 : w1.cell? ⟨b, 0, none⟩ = some (.pointer (some ⟨b, 0, none⟩)) := by rw [Lib.cell_of_heap hbk]; rfl
  have c1 : w1.cell? ⟨b, 1, none⟩ = some v := by rw [Lib.cell_of_heap hbk]; rfl
  go_wp2_with (at_builtin; refine wpList_append_own _ rfl _ _ 36 rfl B 5 i0 (.int .u8 0) 1 1 Tryz.underlying36 hi hz0 hz1 hz2 rfl (by decide) _ _ _ rfl (hown.alloc _) ⟨w1.heap.size, 0, none⟩ 1 1 [.int .u8 c] rfl rfl ?c1 ?c2 ?c3 ?c4 ?c5 ?_)
  case c1 =>
    intro j u hj
    match j, hj with
    | 0, hj => simp at hj; subst hj; simp [Addr.add]
  case c2 => intro u hu; simp at hu; subst hu; rfl
  case c3 => unfold maxLen; omega
  case c4 => omega
  case c5 => have := hb1.size; simp; omega
  intro v' w2 hown' hgrow _
  have hlt : b < w1.heap.size := by
    rcases Nat.lt_or_ge b w1.heap.size with h' | h'
    · exact h'
    · simp [Array.getElem?_eq_none h'] at hbk
  have hb2 : w2.heap[b]? = some (.cells #[.pointer (some ⟨b, 0, none⟩), v] 99 (0, 0)) := by
    rw [hgrow.block b (by simp; omega) (fun e => hne e.symm), Lib.alloc_old w1 _ b hlt]
    exact hbk
  have d0 : w2.cell? ⟨b, 0, none⟩ = some (.pointer (some ⟨b, 0, none⟩)) := by rw [Lib.cell_of_heap hb2]; rfl
  have d1 : w2.cell? ⟨b, 1, none⟩ = some v := by rw [Lib.cell_of_heap hb2]; rfl
  have f1 : w2.frozen? ⟨b, 1, none⟩ = false := Lib.frozen_of_heap hb2 1
  obtain ⟨g, cap, rfl⟩ : ∃ g cap, v' = .slice (some ⟨g, 0, none⟩) (bs.length + 1) cap := by
    rcases hown'.2 with ⟨_, h0⟩ | ⟨g, cap, cur, hv, _⟩
    · omega
    · exact ⟨g, cap, hv⟩
  go_wp2
  go_ret
  refine ⟨rfl, ?_, ?_⟩
  · exact Lib.BuilderAt.put (T := 99) (e := 5) hB hb2 (bs' := bs ++ [.int .u8 c]) (by simpa using hown') (by decide)
  · exact ((hb1.alloc (by have := hb1.size; omega) _).grown hgrow (by have := hb1.size; simp; omega) (fun k hk => (hown.lt k hk).1)).setCell (p := ⟨b, 1, none⟩) hB _
end Go.Proofs.YtfbbnphpapmpcaaGreatDoor

/-
  (second part)
-/
namespace Go.Proofs.YtfbbnphpapmpcaaGreatDoor
open Go.RowKit Mag

theorem owns_on {w w' : World} {base : Nat} {e : TypeId} {size : Nat} {v : Value} {n : Nat} {xs : List Value} (h : w.ownsRow base e size v n xs) (hb : Below w.heap.size w w') : w'.ownsRow base e size v n xs :=
  h.kept (row := none) ⟨hb.os, hb.tape, hb.output, hb.size, fun k hk _ => hb.block k hk⟩ (by cases h' : v.ownBlock <;> simp)
/-- The table that strconv reads. -/
def Tab (w : World) : Prop := Lib.TabIs Tryz.prog w "internal/strconv.uint64pow10" .u64 Lib.pow10Tab
theorem Tab.on {w w' : World} (h : Tab w) (hb : Below w.heap.size w w') : Tab w' := Lib.tabBelow_of_tabIs h w' hb
theorem itoa_any (n : Int) (h0 : -9223372036854775808 ≤ n) (h1 : n ≤ 9223372036854775807) (w : World) (ht : Tab w) :
    Calls Tryz.prog 52 #[.int .i64 n] w fun e w' => e = .returned (.string ⟨(Lib.itoa n).toArray⟩) ∧ Below w.heap.size w w' :=
  (Tryz.strconv_Itoa n h0 h1 w ht).mono fun _ _ ⟨he, k, os, hw⟩ => ⟨he, hw ▸ Lib.below_grow w.heap.size w (Nat.le_refl _) k os⟩

/-- The chunks of a text: what is still to be written is the number m, what was written are the texts ps, the last ones first. -/
structure Chunks (V m : Nat) (ps : List (List UInt8)) : Prop where
  txt : (if m = 0 then [] else Lib.decDigits m) ++ ps.reverse.flatten = Lib.decDigits V
  lim : m * 1000000000 ^ ps.length ≤ V
  len : ps.length ≤ 1024
theorem Chunks.start {V : Nat} (h : 0 < V) : Chunks V V [] := ⟨by rw [if_neg (by omega)]; simp, by simp, by simp⟩
theorem top_lim : top ≤ 1000000000 ^ (2 * topW) := by
  rw [top_eq, Nat.pow_mul]
  exact Nat.pow_le_pow_left (by decide) topW
theorem Chunks.few {V m : Nat} {ps : List (List UInt8)} (h : Chunks V m ps) (hm : 0 < m) (hV : V < top) : ps.length < 1024 := by
  rcases Nat.lt_or_ge ps.length (2 * topW) with h1 | h1
  · rw [topW_eq] at h1; exact h1
  · have h2 : 1000000000 ^ (2 * topW) ≤ 1000000000 ^ ps.length := Nat.pow_le_pow_right (by decide) h1
    have h3 := Nat.mul_le_mul hm h2
    have h4 := h.lim
    have h5 := top_lim
    generalize 1000000000 ^ (2 * topW) = P at *
    omega
theorem Chunks.more {V m q r : Nat} {ps : List (List UInt8)} (h : Chunks V m ps) (hV : V < top) (hm : m = q * 1000000000 + r) (hr : r < 1000000000) (hq : 0 < q) : Chunks V q (ps ++ [List.replicate (9 - (Lib.decDigits r).length) 48 ++ Lib.decDigits r]) := by
  have h1 := h.txt
  have h2 := h.lim
  have h3 := DecM.dec_glue 9 q r hq (by omega)
  have h4 := DecM.padD_dec 9 r (by omega) (by omega)
  have h6 := h.few (by omega) hV
  refine ⟨?_, ?_, by simp; omega⟩
  · rw [if_neg (by omega)] at h1 ⊢
    rw [← h1, hm, show (1000000000 : Nat) = 10 ^ 9 from rfl, h3, h4]
    simp
  · have : q * 1000000000 ≤ m := by omega
    have h5 := Nat.mul_le_mul_right (1000000000 ^ ps.length) this
    rw [List.length_append, List.length_singleton, Nat.pow_succ, Nat.mul_comm (1000000000 ^ ps.length), ← Nat.mul_assoc]
    omega
theorem Chunks.last {V m : Nat} {ps : List (List UInt8)} (h : Chunks V m ps) (hV : V < top) (hm : 0 < m) : Chunks V 0 (ps ++ [Lib.decDigits m]) := by
  have h1 := h.txt
  have h6 := h.few hm hV
  rw [if_neg (by omega)] at h1
  exact ⟨by rw [if_pos rfl, ← h1]; simp, by simp, by simp; omega⟩
theorem str_info : (Tryz.prog.info? 9).map (fun i => (i.zero, i.size, i.bytes)) = some (some (.string ⟨#[]⟩), 1, 16) := by kernel_rfl
theorem rep_one (n : Nat) : Lib.repeatL [48] n = List.replicate n 48 := by
  induction n with
  | zero => rfl
  | succ n ih => rw [Lib.repeatL, ih, List.replicate_succ]; rfl
theorem str_app {a b : List UInt8} {c : List UInt8} {sd : ByteArray} (ha : c = a) (hb : sd.data.toList = b) : Value.string (⟨c.toArray⟩ ++ sd) = strV (a ++ b) := by
  subst ha hb
  unfold strV
  congr 1
theorem flat_take {ps : List (List UInt8)} {m : Nat} (h : m < ps.length) : (ps.take (m + 1)).reverse.flatten = ps[m] ++ (ps.take m).reverse.flatten := by
  rw [List.take_succ_eq_append_getElem h, List.reverse_append]; rfl
theorem BuilderNew (w : World) : Lib.BuilderAt 99 5 w.heap.size w.heap.size (.pointer none) [] (w.alloc (.cells #[.pointer none, .slice none 0 0] 99)) :=
  ⟨Nat.le_refl _, .slice none 0 0, heap_alloc_new w _, World.ownsRow_nil _ _ _ _, by simp [Value.ownBlock]⟩
theorem itoa_sgn {neg : Bool} {V : Nat} (hV : 0 < V) : Lib.itoa (sgn neg V) = (if neg then [45] else []) ++ Lib.decDigits V := by
  unfold Lib.itoa sgn
  cases neg
  · rw [if_neg (by simp)]; simp
  · rw [if_pos (by simp; omega)]; simp
theorem itoa_len {z : Int} (h : z.natAbs < top) : (Lib.itoa z).length ≤ 10000 := by
  have h1 : z.natAbs < 10 ^ (9 * (2 * topW)) := by
    rw [Nat.pow_mul, show (10 : Nat) ^ 9 = 1000000000 from rfl]
    exact Nat.lt_of_lt_of_le h top_lim
  have h2 := DecM.dec_length_le (k := 9 * (2 * topW)) (by rw [topW_eq]; omega) h1
  rw [topW_eq] at h2
  unfold Lib.itoa
  split
  · simp; omega
  · rw [show z.toNat = z.natAbs by omega]; omega

set_option maxRecDepth 100000 in
set_option maxHeartbeats 3200000 in
theorem String_any {neg : Bool} {A : Option Addr} {n c : Nat} {z : Int} {w : World} (h : WI w neg A n c z) (ht : Tab w) : Calls Tryz.prog 30 #[.agg #[.bool neg, .slice A n c]] w (TxtPost w (Lib.itoa z)) := by
  obtain ⟨l, rfl, h5, hm, hneg, hz⟩ := h.open_
  have hlt := lt_top hm.ws h5
  clear h
  rcases Nat.eq_zero_or_pos l.length with h0 | h0
  · obtain rfl : l = [] := List.eq_nil_of_length_eq_zero h0
    have hz0 : z = 0 := by rw [hz]; cases neg <;> rfl
    subst hz0
    simp only [List.length_nil]
    clear hz hneg h0
    go_enter Tryz.func30, Tryz.ntmps30
    go_wp2
    go_ret
    exact ⟨by simp [Lib.itoa, DecM.dec_zero], by go_grown⟩
  · obtain ⟨i0, hi, hi0, hi1, hi2⟩ := info_parts str_info
    have hV : 0 < val l := hm.nz.pos (by intro e; subst e; simp at h0)
    have HZ := Lib.hid hz
    clear hz
    have hc0 : ((l.length : Int) == 0) = false := by rw [beq_eq_false_iff_ne]; omega
    go_enter Tryz.func30, Tryz.ntmps30
    go_wp2_with fail
    have hO := Own.new2 w 29 (.bool neg) (.slice A l.length c)
    have hB : Below w.heap.size w (w.alloc (.cells #[.bool neg, .slice A l.length c] 29)) := by go_grown
    generalize w.alloc (.cells #[.bool neg, .slice A l.length c] 29) = W at hO hB ⊢
    have hm' := hm.on hB
    have ht' := ht.on hB
    go_loopg [3, 4] (val l) (fun k s3 s4 wr => ∃ P cp lp v ps, s4 = .slice P (List.length lp) cp ∧ s3 = v ∧ MagIs wr P lp cp ∧ lp.length ≤ 512 ∧ Hid (val lp = k) ∧ Hid (Chunks (val l) (val lp) ps) ∧ wr.ownsRow W.heap.size 9 1 v ps.length (ps.map strV) ∧ Below W.heap.size W wr)
    case atStart => exact ⟨A, c, l, _, [], rfl, rfl, hm', h5, Lib.hid rfl, Lib.hid (Chunks.start hV), World.ownsRow_nil _ _ _ _, Below.refl _ _⟩
    case round =>
      obtain ⟨P, cp, lp, v, ps, rfl, rfl, hp, hp5, hk, hch, hown, hb⟩ := hrel
      rcases Nat.eq_zero_or_pos lp.length with h1 | h1
      · obtain rfl : lp = [] := List.eq_nil_of_length_eq_zero h1
        simp only [List.length_nil]
        have htx : ps.reverse.flatten = Lib.decDigits (val l) := by
          have := hch.out.txt
          rw [val_nil, if_pos rfl] at this
          exact this
        obtain ⟨g, cap, hv, hg⟩ : ∃ g cap, u3 = .slice (some ⟨g, 0, none⟩) ps.length cap ∧ g < wr.heap.size := by
          rcases hown.2 with ⟨_, h0'⟩ | ⟨g, cap, cur, hv, _⟩
          · have : ps = [] := List.eq_nil_of_length_eq_zero h0'
            rw [this] at htx
            exact absurd htx.symm (DecM.dec_ne _)
          · exact ⟨g, cap, hv, (hown.lt g (by rw [hv]; rfl)).2⟩
        rw [hv] at hown ⊢
        have HU3 := Lib.hid hv
        clear hv
        have hlim : (Lib.itoa z).length ≤ 10000 := itoa_len (by rw [HZ.out, sgn_abs]; exact hlt)
        have hitz : Lib.itoa z = (if neg then [45] else []) ++ ps.reverse.flatten := by
          rw [HZ.out, htx, itoa_sgn hV]
        have hpl : ps.length < 1048576 := by
          have h1 := hch.out.len
          omega
        have HIT := Lib.hid hitz
        have hbt := BuilderNew wr
        have hOb := (hO.on hb).alloc (.cells #[.pointer none, .slice none 0 0] 99)
        have hbb := hb.alloc hb.size (.cells #[.pointer none, .slice none 0 0] 99)
        have hcell : ∀ j x, (ps.map strV)[j]? = some x → (wr.alloc (.cells #[.pointer none, .slice none 0 0] 99)).cell? ⟨g, j, none⟩ = some x := fun j x hj => by
          have hjl : j < ps.length := by
            rcases Nat.lt_or_ge j ps.length with h | h
            · exact h
            · rw [List.getElem?_eq_none (by simpa using h)] at hj; cases hj
          rw [World.cell?_alloc_lt wr _ ⟨g, j, none⟩ hg, hown.cellAt j (by simpa using hjl), hj]
        have HC := Lib.hid hcell
        have hsz : wr.heap.size < (wr.alloc (.cells #[.pointer none, .slice none 0 0] 99)).heap.size := by simp
        have HTX := Lib.hid htx
        have hwB : w.heap.size ≤ wr.heap.size := Nat.le_trans hB.size hb.size
        clear htx hitz hcell hch hown hk hp hp5
        obtain ⟨wo, rfl⟩ : ∃ wo : World, wo = wr := ⟨_, rfl⟩
        cases neg
        · go_upto_region 13 with fail
          generalize wo.alloc (.cells #[.pointer none, .slice none 0 0] 99) = w2 at hbt hOb hbb HC hsz ⊢
          have x0 := hOb.c0
          have hI : Lib.IsBuilder 99 5 wo.heap.size wo.heap.size (Lib.byteCells []) w2 := .inl hbt
          have hI2 : Below wo.heap.size w2 w2 := Below.refl _ _
          go_wp2_with fail
          go_loopw [9] (fun s9 wx => ∃ (k : Nat) (acc : List UInt8), k ≤ ps.length ∧ s9 = .int .i64 ((k : Int) - 1) ∧ Lib.IsBuilder 99 5 wo.heap.size wo.heap.size (Lib.byteCells acc) wx ∧ Hid (acc ++ (ps.take k).reverse.flatten = Lib.itoa z) ∧ Below wo.heap.size w2 wx) (fun s9 _ => (intOf s9 + 1).toNat)
          case atStart => exact ⟨ps.length, [], Nat.le_refl _, rfl, hI, Lib.hid (by rw [HIT.out, List.take_of_length_le (Nat.le_refl _)]; rfl), hI2⟩
          case round =>
            obtain ⟨k, acc, hk, rfl, hib, hacc, hbx⟩ := hrel
            have hws := hbx.size
            rcases Nat.eq_zero_or_pos k with hk0 | hk0
            · subst hk0
              have hfull : acc = Lib.itoa z := by rw [← hacc.out]; simp
              have HF := Lib.hid hfull
              have HE : ∀ w', Below wo.heap.size wr w' → Below w.heap.size w w' := fun w' h => (hB.trans (hbb.mono hB.size)).trans ((hbx.mono hwB).trans (h.mono hwB))
              clear hfull
              go_wp2_with fail
              refine (Tryz.Builder_String_any wo.heap.size wo.heap.size acc _ hib (by omega)).mono ?_
              rintro e w6 ⟨rfl, hb6⟩
              go_wp2_with fail
              go_ret
              exact ⟨by show Ending.returned (.string ⟨acc.toArray⟩) = _; rw [HF.out], HE _ hb6⟩
            · obtain ⟨m, rfl⟩ : ∃ m, k = m + 1 := ⟨k - 1, by omega⟩
              rw [show (((m + 1 : Nat) : Int) - 1) = (m : Int) by omega]
              have hmp : m < ps.length := hk
              have hce : wr.cell? ⟨g, m, none⟩ = some (strV ps[m]) := by
                rw [hbx.cell (p := ⟨g, m, none⟩) hg]
                exact HC.out m _ (by rw [List.getElem?_map, List.getElem?_eq_getElem hmp]; rfl)
              obtain ⟨sx, hsx⟩ : ∃ sx : ByteArray, sx = ⟨(ps[m]).toArray⟩ := ⟨_, rfl⟩
              have hce2 : wr.cell? ⟨g, m, none⟩ = some (.string sx) := by rw [hce, hsx]; rfl
              have hacc2 : (acc ++ ps[m]) ++ (ps.take m).reverse.flatten = Lib.itoa z := by
                rw [← hacc.out, flat_take hmp, List.append_assoc]
              have hsz2 : (Lib.byteCells acc).length + sx.size ≤ 10000 := by
                have h7 := congrArg List.length hacc2
                rw [List.length_append, List.length_append] at h7
                have h8 : sx.size = (ps[m]).length := by rw [hsx]; rfl
                rw [Lib.byteCells_length]
                omega
              have hsc : Lib.byteCells acc ++ Lib.strCells sx = Lib.byteCells (acc ++ ps[m]) := by
                rw [hsx]; simp [Lib.byteCells, Lib.strCells, List.map_append]
              have HA2 := Lib.hid hacc2
              have HSC := Lib.hid hsc
              clear hce hsx hacc2 hsc
              go_wp2_with fail
              refine (B_WriteString wo.heap.size wo.heap.size (Lib.byteCells acc) sx _ hib (by omega) (by omega)).mono ?_
              rintro e w6 ⟨rfl, hb6, hbl6⟩
              rw [HSC.out] at hb6
              have hbx6 := hbx.trans hbl6
              go_wp2
              go_roundw
              case rel => exact ⟨m, acc ++ ps[m], by omega, by go_num, .inr hb6, HA2, hbx6⟩
              case measure => simp [intOf] <;> omega
        · go_upto_region 13 with fail
          generalize wo.alloc (.cells #[.pointer none, .slice none 0 0] 99) = w2 at hbt hOb hbb HC hsz ⊢
          have x0 := hOb.c0
          go_wp2_with fail
          refine (B_WriteByte wo.heap.size wo.heap.size [] 45 _ (.inl hbt) (by simp) (by omega)).mono ?_
          rintro e w3 ⟨rfl, hb3, hbl3⟩
          have hI : Lib.IsBuilder 99 5 wo.heap.size wo.heap.size (Lib.byteCells [45]) w3 := .inr hb3
          have hI2 : Below wo.heap.size w2 w3 := hbl3
          go_wp2_with fail
          go_loopw [9] (fun s9 wx => ∃ (k : Nat) (acc : List UInt8), k ≤ ps.length ∧ s9 = .int .i64 ((k : Int) - 1) ∧ Lib.IsBuilder 99 5 wo.heap.size wo.heap.size (Lib.byteCells acc) wx ∧ Hid (acc ++ (ps.take k).reverse.flatten = Lib.itoa z) ∧ Below wo.heap.size w2 wx) (fun s9 _ => (intOf s9 + 1).toNat)
          case atStart => exact ⟨ps.length, [45], Nat.le_refl _, rfl, hI, Lib.hid (by rw [HIT.out, List.take_of_length_le (Nat.le_refl _)]; rfl), hI2⟩
          case round =>
            obtain ⟨k, acc, hk, rfl, hib, hacc, hbx⟩ := hrel
            have hws := hbx.size
            rcases Nat.eq_zero_or_pos k with hk0 | hk0
            · subst hk0
              have hfull : acc = Lib.itoa z := by rw [← hacc.out]; simp
              have HF := Lib.hid hfull
              have HE : ∀ w', Below wo.heap.size wr w' → Below w.heap.size w w' := fun w' h => (hB.trans (hbb.mono hB.size)).trans ((hbx.mono hwB).trans (h.mono hwB))
              clear hfull
              go_wp2_with fail
              refine (Tryz.Builder_String_any wo.heap.size wo.heap.size acc _ hib (by omega)).mono ?_
              rintro e w6 ⟨rfl, hb6⟩
              go_wp2_with fail
              go_ret
              exact ⟨by show Ending.returned (.string ⟨acc.toArray⟩) = _; rw [HF.out], HE _ hb6⟩
            · obtain ⟨m, rfl⟩ : ∃ m, k = m + 1 := ⟨k - 1, by omega⟩
              rw [show (((m + 1 : Nat) : Int) - 1) = (m : Int) by omega]
              have hmp : m < ps.length := hk
              have hce : wr.cell? ⟨g, m, none⟩ = some (strV ps[m]) := by
                rw [hbx.cell (p := ⟨g, m, none⟩) hg]
                exact HC.out m _ (by rw [List.getElem?_map, List.getElem?_eq_getElem hmp]; rfl)
              obtain ⟨sx, hsx⟩ : ∃ sx : ByteArray, sx = ⟨(ps[m]).toArray⟩ := ⟨_, rfl⟩
              have hce2 : wr.cell? ⟨g, m, none⟩ = some (.string sx) := by rw [hce, hsx]; rfl
              have hacc2 : (acc ++ ps[m]) ++ (ps.take m).reverse.flatten = Lib.itoa z := by
                rw [← hacc.out, flat_take hmp, List.append_assoc]
              have hsz2 : (Lib.byteCells acc).length + sx.size ≤ 10000 := by
                have h7 := congrArg List.length hacc2
                rw [List.length_append, List.length_append] at h7
                have h8 : sx.size = (ps[m]).length := by rw [hsx]; rfl
                rw [Lib.byteCells_length]
                omega
              have hsc : Lib.byteCells acc ++ Lib.strCells sx = Lib.byteCells (acc ++ ps[m]) := by
                rw [hsx]; simp [Lib.byteCells, Lib.strCells, List.map_append]
              have HA2 := Lib.hid hacc2
              have HSC := Lib.hid hsc
              clear hce hsx hacc2 hsc
              go_wp2_with fail
              refine (B_WriteString wo.heap.size wo.heap.size (Lib.byteCells acc) sx _ hib (by omega) (by omega)).mono ?_
              rintro e w6 ⟨rfl, hb6, hbl6⟩
              rw [HSC.out] at hb6
              have hbx6 := hbx.trans hbl6
              go_wp2
              go_roundw
              case rel => exact ⟨m, acc ++ ps[m], by omega, by go_num, .inr hb6, HA2, hbx6⟩
              case measure => simp [intOf] <;> omega
      · have hlp : lp ≠ [] := by intro e; subst e; simp at h1
        have hvp := hp.nz.pos hlp
        have hfew := hch.out.few hvp hlt
        have hS := short_any (q := 1000000000) (c := cp) hp.sl hp.ws (by omega) (by omega) (by omega)
        rw [show ((1000000000 : Nat) : Int) = 1000000000 from rfl] at hS
        have HS := Lib.hid hS
        clear hS
        go_wp2_with fail
        refine HS.out.mono ?_
        rintro e w1 ⟨g1, ds, r, rfl, s1, s2, s3, s4, s5, s6, s7⟩
        go_wp2_with fail
        refine (normal_any _ _ ds _ (s1.sl s1.lt) (Nat.le_refl _) (by unfold maxLen; omega)).mono ?_
        rintro e w2 ⟨k2, hk2, rfl, rfl, hnz, hval⟩
        have HV := Lib.hid hval
        clear hval
        have htr := ht'.on hb |>.on s6
        go_wp2_with fail
        refine (itoa_any _ (by omega) (by omega) _ htr).mono ?_
        rintro e w3 ⟨rfl, hb3⟩
        obtain ⟨sd, hsd⟩ : ∃ sd : ByteArray, sd = ⟨(Lib.itoa ((r : Nat) : Int)).toArray⟩ := ⟨_, rfl⟩
        rw [← hsd]
        have hdl : sd.data.toList = Lib.decDigits r := by rw [hsd]; simp [Lib.itoa]
        have hsz : sd.size = (Lib.decDigits r).length := by rw [← hdl, Array.length_toList]; rfl
        have hsv : Value.string sd = strV (Lib.decDigits r) := by rw [hsd]; simp [strV, Lib.itoa]
        have hs1 : sd.size ≤ 9 := by rw [hsz]; exact DecM.dec_length_le (by omega) (by omega)
        have hown3 := owns_on (owns_on hown s6) hb3
        have hb4 := (hb.trans (s6.mono hb.size)).trans (hb3.mono (Nat.le_trans hb.size s6.size))
        have HDL := Lib.hid hdl
        have HSZ := Lib.hid hsz
        have HSV := Lib.hid hsv
        clear hdl hsz hsd hsv
        have hps : (ps.map strV).length = ps.length := by simp
        rcases Nat.eq_zero_or_pos k2 with hk0 | hk0
        · subst hk0
          go_wp2_with (at_builtin; refine wpList_append_own _ rfl _ _ 90 rfl W.heap.size 9 i0 (.string ⟨#[]⟩) 1 16 Tryz.underlying90 hi hi0 hi1 hi2 rfl (by decide) _ _ _ rfl (hown3.alloc _) ⟨w3.heap.size, 0, none⟩ 1 1 [.string sd] rfl rfl ?c1 ?c2 ?c3 ?c4 ?c5 ?_)
          case c1 =>
            intro j u hj
            match j, hj with
            | 0, hj => simp at hj; subst hj; simp [Addr.add]
          case c2 => intro u hu; simp at hu; subst hu; rfl
          case c3 => unfold maxLen; omega
          case c4 => omega
          case c5 => have := hb4.size; simp; omega
          intro v' w5 hown5 hgrow _
          go_wp2_with fail
          have hvd : val ds = 0 := by rw [← HV.out]; rfl
          have hvr : val lp = r := by have := s3.out; omega
          have hlast := hch.out.last hlt hvp
          rw [hvr] at hlast
          have hb5 := (hb4.alloc hb4.size (.cells #[.string sd] 9)).grown hgrow (by have := hb4.size; simp; omega) (fun k hk => (hown3.lt k hk).1)
          go_roundg 0
          case measure => rw [← hk.out]; exact hvp
          case rel =>
            refine ⟨some ⟨g1, 0, none⟩, ds.length, [], v', ps ++ [Lib.decDigits r], ?_, rfl, ⟨Sl.nil_, Ws.nil, Nz.nil, by simp, by unfold maxLen; omega⟩, by simp, Lib.hid rfl, Lib.hid hlast, ?_, hb5⟩
            · rfl
            · rw [HSV.out] at hown5
              simpa using hown5
        · have hds : ds.take k2 ≠ [] := by intro e; have := congrArg List.length e; rw [List.length_take, Nat.min_eq_left hk2, List.length_nil] at this; omega
          have hq0 : 0 < val ds := by rw [← HV.out]; exact hnz.pos hds
          have hc9 : (9 : Int) - (sd.size : Int) = ((9 - sd.size : Nat) : Int) := by omega
          have hR := Tryz.strings_Repeat ⟨#[48]⟩ (9 - sd.size) w3 (by omega) (by show 1 * (9 - sd.size) ≤ _; omega)
          have HR := Lib.hid hR
          clear hR
          go_wp2_with fail
          refine HR.out.mono ?_
          rintro e w4 ⟨rfl, hb4'⟩
          have hown4 := owns_on hown3 hb4'
          have hbw4 := hb4.trans (hb4'.mono hb4.size)
          obtain ⟨rp, hrp⟩ : ∃ rp : ByteArray, rp = ⟨(Lib.repeatL [48] (9 - sd.size)).toArray⟩ := ⟨_, rfl⟩
          rw [← hrp]
          have hsv : Value.string (rp ++ sd) = strV (List.replicate (9 - (Lib.decDigits r).length) 48 ++ Lib.decDigits r) := by
            rw [hrp, HSZ.out]
            exact str_app (rep_one _) HDL.out
          have HSW := Lib.hid hsv
          have hrs : rp.size = 9 - sd.size := by
            rw [hrp, rep_one]
            show ((List.replicate (9 - sd.size) (48 : UInt8)).toArray).size = _
            simp
          have hrl : ¬ 9223372036854775807 < rp.size + sd.size := by omega
          clear hsv hrp hrs
          go_wp2_with (at_builtin; refine wpList_append_own _ rfl _ _ 90 rfl W.heap.size 9 i0 (.string ⟨#[]⟩) 1 16 Tryz.underlying90 hi hi0 hi1 hi2 rfl (by decide) _ _ _ rfl (hown4.alloc _) ⟨w4.heap.size, 0, none⟩ 1 1 [.string (rp ++ sd)] rfl rfl ?c1 ?c2 ?c3 ?c4 ?c5 ?_)
          case c1 =>
            intro j u hj
            match j, hj with
            | 0, hj => simp at hj; subst hj; simp [Addr.add]
          case c2 => intro u hu; simp at hu; subst hu; rfl
          case c3 => unfold maxLen; omega
          case c4 => omega
          case c5 => have := hbw4.size; simp; omega
          intro v' w5 hown5 hgrow _
          go_wp2_with fail
          have hmore := hch.out.more hlt s3.out s4 hq0
          have hb5 := (hbw4.alloc hbw4.size (.cells #[.string (rp ++ sd)] 9)).grown hgrow (by have := hbw4.size; simp; omega) (fun k hk => (hown4.lt k hk).1)
          have hlt5 : val ds < val lp := by have := s3.out; omega
          have hO5 := (((s1.on hb3).on hb4').alloc (.cells #[.string (rp ++ sd)] 9)).grown hgrow (fun e => by have := (hown.lt g1 e.symm).2; omega)
          have hm5 : MagIs w5 (some ⟨g1, 0, none⟩) (ds.take k2) ds.length := ⟨by rw [List.map_take]; exact (hO5.sl hO5.lt).take k2, s2.take k2, hnz, by rw [List.length_take]; omega, by unfold maxLen; omega⟩
          go_roundg (val ds)
          case measure => rw [← hk.out]; exact hlt5
          case rel =>
            refine ⟨some ⟨g1, 0, none⟩, ds.length, ds.take k2, v', ps ++ [List.replicate (9 - (Lib.decDigits r).length) 48 ++ Lib.decDigits r], ?_, rfl, hm5, by rw [List.length_take]; omega, HV, Lib.hid (by rw [HV.out]; exact hmore), ?_, hb5⟩
            · rw [List.length_take, Nat.min_eq_left hk2]
            · rw [HSW.out] at hown5
              simpa using hown5
end Go.Proofs.YtfbbnphpapmpcaaGreatDoor

/-
  (second part)
-/
namespace Go.Proofs.YtfbbnphpapmpcaaGreatDoor
open Go.RowKit Mag

def IV.is (x : IV) (w : World) (z : Int) : Prop := WI w x.neg x.A x.n x.c z
theorem IV.is.on {x : IV} {w w' : World} {z : Int} (h : x.is w z) (hb : Below w.heap.size w w') : x.is w' z := WI.on h hb
theorem IV.is.fits {x : IV} {w : World} {z : Int} (h : x.is w z) : z.natAbs < top := by
  obtain ⟨l, h1, h2, h3, h4, h5⟩ := h
  have := lt_top h3.ws (by omega)
  subst h5
  split <;> simp <;> exact this
theorem IV.is.put2 {x : IV} {w : World} {z : Int} (h : x.is w z) {g : Nat} {t : TypeId} {a b : Value} (hO : Own w g t [a, b]) (ha : ∀ n, a ≠ .int .u32 n) (hb : ∀ n, b ≠ .int .u32 n) (u v : Value) :
    x.is ((w.setCell ⟨g, 0, none⟩ u).setCell ⟨g, 1, none⟩ v) z := WI.put2 h hO ha hb u v
/-- The Int without parts. -/
def IV.zero : IV := ⟨false, none, 0, 0⟩
theorem IV.zero_is (w : World) : IV.zero.is w 0 := WI.zero w

def IntP (w : World) (z : Int) (e : Ending) (w' : World) : Prop := ∃ r : IV, e = .returned (.agg #[.bool r.neg, .slice r.A r.n r.c]) ∧ Below w.heap.size w w' ∧ r.is w' z
def IntE (w : World) (z err : Int) (e : Ending) (w' : World) : Prop := ∃ r : IV, e = .returned (.tuple #[.agg #[.bool r.neg, .slice r.A r.n r.c], .int .i64 err]) ∧ Below w.heap.size w w' ∧ r.is w' z
def DivE (w : World) (q r err : Int) (e : Ending) (w' : World) : Prop := ∃ a b : IV, e = .returned (.tuple #[.agg #[.bool a.neg, .slice a.A a.n a.c], .agg #[.bool b.neg, .slice b.A b.n b.c], .int .i64 err]) ∧ Below w.heap.size w w' ∧ a.is w' q ∧ b.is w' r

section
variable {x y : IV} {a b : Int} {w : World}
theorem neg_iv (hx : x.is w a) : Calls Tryz.prog 68 #[.agg #[.bool x.neg, .slice x.A x.n x.c]] w (IntP w (-a)) :=
  (neg_any hx).mono fun _ _ ⟨n, A, k, c, h1, h2, h3⟩ => ⟨⟨n, A, k, c⟩, h1, h2, h3⟩
theorem compare_iv (hx : x.is w a) (hy : y.is w b) : Calls Tryz.prog 40 #[.agg #[.bool x.neg, .slice x.A x.n x.c], .agg #[.bool y.neg, .slice y.A y.n y.c]] w (RetInt w (cmpI a b)) := Compare_any hx hy
theorem sign_iv (hx : x.is w a) : Calls Tryz.prog 29 #[.agg #[.bool x.neg, .slice x.A x.n x.c]] w (RetInt w (cmpI a 0)) := Sign_any hx
theorem add_iv (hx : x.is w a) (hy : y.is w b) : Calls Tryz.prog 58 #[.agg #[.bool x.neg, .slice x.A x.n x.c], .agg #[.bool y.neg, .slice y.A y.n y.c]] w (IntE w (clip (a + b)) (lim (a + b))) :=
  (Add_any hx hy).mono fun _ _ ⟨n, A, k, c, h1, h2, h3⟩ => ⟨⟨n, A, k, c⟩, h1, h2, h3⟩
theorem sub_iv (hx : x.is w a) (hy : y.is w b) : Calls Tryz.prog 96 #[.agg #[.bool x.neg, .slice x.A x.n x.c], .agg #[.bool y.neg, .slice y.A y.n y.c]] w (IntE w (clip (a - b)) (lim (a - b))) :=
  (Sub_any hx hy).mono fun _ _ ⟨n, A, k, c, h1, h2, h3⟩ => ⟨⟨n, A, k, c⟩, h1, h2, h3⟩
theorem mul_iv (hx : x.is w a) (hy : y.is w b) : Calls Tryz.prog 97 #[.agg #[.bool x.neg, .slice x.A x.n x.c], .agg #[.bool y.neg, .slice y.A y.n y.c]] w (IntE w (clip (a * b)) (lim (a * b))) :=
  (Mul_any hx hy).mono fun _ _ ⟨n, A, k, c, h1, h2, h3⟩ => ⟨⟨n, A, k, c⟩, h1, h2, h3⟩
theorem div_iv (hx : x.is w a) (hy : y.is w b) (h0 : b ≠ 0) : Calls Tryz.prog 39 #[.agg #[.bool x.neg, .slice x.A x.n x.c], .agg #[.bool y.neg, .slice y.A y.n y.c]] w (DivE w (a / b) (a % b) 0) :=
  (Div_any hx hy h0).mono fun _ _ ⟨n, A, k, c, n2, A2, k2, c2, h1, h2, h3, h4⟩ => ⟨⟨n, A, k, c⟩, ⟨n2, A2, k2, c2⟩, h1, h2, h3, h4⟩
theorem div_zero_iv (hy : y.is w 0) : Calls Tryz.prog 39 #[.agg #[.bool x.neg, .slice x.A x.n x.c], .agg #[.bool y.neg, .slice y.A y.n y.c]] w (DivE w 0 0 1) := by
  obtain ⟨l, h1, h2, h3, h4, h5⟩ := hy
  have hv : val l = 0 := by
    split at h5
    · omega
    · omega
  have hl : l = [] := h3.nz.eq_nil hv
  subst hl
  rw [← h1]
  exact (Div_zero (k := x.n)).mono fun _ _ ⟨n, A, k, c, n2, A2, k2, c2, h1, h2, h3, h4⟩ => ⟨⟨n, A, k, c⟩, ⟨n2, A2, k2, c2⟩, h1, h2, h3, h4⟩
theorem gcd_iv (hx : x.is w a) (hy : y.is w b) : Calls Tryz.prog 69 #[.agg #[.bool x.neg, .slice x.A x.n x.c], .agg #[.bool y.neg, .slice y.A y.n y.c]] w (IntP w (Int.gcd a b : Nat)) :=
  (Gcd_any hx hy).mono fun _ _ ⟨n, A, k, c, h1, h2, h3⟩ => ⟨⟨n, A, k, c⟩, h1, h2, h3⟩
theorem from_iv (n : Int) (w : World) (h0 : -9223372036854775808 ≤ n) (h1 : n ≤ 9223372036854775807) : Calls Tryz.prog 42 #[.int .i64 n] w (IntP w n) :=
  (From_any n w h0 h1).mono fun _ _ ⟨n, A, k, c, h1, h2, h3⟩ => ⟨⟨n, A, k, c⟩, h1, h2, h3⟩
theorem string_iv (hx : x.is w a) (ht : Tab w) : Calls Tryz.prog 30 #[.agg #[.bool x.neg, .slice x.A x.n x.c]] w (TxtPost w (Lib.itoa a)) := String_any hx ht
end
end Go.Proofs.YtfbbnphpapmpcaaGreatDoor
