/-
  Chapter 38's law QueryReads.
-/
import Derived.Test.YtmlpibdincfgbaaGreatDoorM11
import Derived.Test.YtmlpibdincfgbaaGreatDoorQS1
import Derived.Test.YtmlpibdincfgbaaGreatDoorQS2
import Derived.Lib.ConvBytes
import Derived.Laws.BytesArg
namespace Go.Proofs.YtmlpibdincfgbaaGreatDoor
open Go.RowKit
set_option linter.unusedSimpArgs false
set_option linter.unusedVariables false

theorem bs_etaR (b : ByteArray) : bs b.data.toList = b := by cases b; rfl
theorem goodQ_lenR {q : Qy.Qry} (hq : GoodQ q) : (Qy.printT q).length ≤ 4000 ∧ 6 ≤ (Qy.printT q).length := by
 obtain ⟨⟨y, hmp⟩, hk, hd, hs, hvk⟩ := hq
 obtain ⟨h1, h2, _⟩ := view_parts hvk
 refine ⟨Qy.made_query hmp ⟨by omega, by omega⟩ ⟨by omega, by omega⟩ ⟨by omega, by omega⟩ ⟨by omega, by omega⟩ ⟨by omega, fun n hn => by have := h2 n hn; omega⟩, ?_⟩
 unfold Qy.printT
 simp only [List.length_append, List.length_cons, List.length_nil]
 omega
theorem parse_smallR (s : Qy.Bs) : Qy.nodes (Qy.parse s).1.reg ≤ 1000000 ∧ (Qy.parse s).1.offs.length ≤ 1000000 := by
 have := Qy.parse_valid s
 omega
theorem u8_infoR : (Tryz.prog.info? 5).map (fun i => (i.zero, i.size, i.bytes)) = some (some (.int .u8 0), 1, 1) := by kernel_rfl
/-- A row of bytes that can be written. -/
def Byts (w : World) (g n : Nat) : Prop := ∃ (xs : List Value) (a b : Nat), w.heap[g]? = some (.cells xs.toArray 5 (a, b)) ∧ n ≤ xs.length ∧ (n ≤ a ∨ b = 0) ∧ ∀ v ∈ xs, ∃ c : Int, v = .int .u8 c
theorem Byts.lt {w : World} {g n : Nat} (h : Byts w g n) : g < w.heap.size := by
 obtain ⟨xs, a, b, h1, _⟩ := h
 rcases Nat.lt_or_ge g w.heap.size with h2 | h2
 ·exact h2
 ·rw [Array.getElem?_eq_none h2] at h1; cases h1
theorem Byts.on {w w' : World} {g n : Nat} (h : Byts w g n) (hb : Below w.heap.size w w') : Byts w' g n := by
 have hl := h.lt
 obtain ⟨xs, a, b, h1, h2⟩ := h
 exact ⟨xs, a, b, (hb.block g hl).trans h1, h2⟩
theorem Byts.cell {w : World} {g n : Nat} (h : Byts w g n) {i : Nat} (hi : i < n) : ∃ c : Int, w.cell? ⟨g, i, none⟩ = some (.int .u8 c) := by
 obtain ⟨xs, a, b, h1, h2, _, h3⟩ := h
 obtain ⟨c, hc⟩ := h3 xs[i] (List.getElem_mem (by omega))
 refine ⟨c, ?_⟩
 rw [← hc]
 have hi' : i < xs.length := by omega
 simp [World.cell?, h1, hi']
theorem Byts.frozen {w : World} {g n : Nat} (h : Byts w g n) {i : Nat} (hi : i < n) : w.frozen? ⟨g, i, none⟩ = false := by
 obtain ⟨xs, a, b, h1, h2, h4, _⟩ := h
 simp [World.frozen?, h1]
 omega
theorem Byts.set_ {w : World} {g n : Nat} (h : Byts w g n) (i : Nat) (c : Int) : Byts (w.setCell ⟨g, i, none⟩ (.int .u8 c)) g n := by
 obtain ⟨xs, a, b, h1, h2, h4, h3⟩ := h
 refine ⟨xs.set i (.int .u8 c), a, b, ?_, by simpa using h2, h4, fun v hv => ?_⟩
 ·simp [World.setCell, Array.getElem?_modify, h1]
 ·rcases List.mem_or_eq_of_mem_set hv with h | h
  ·exact h3 v h
  ·exact ⟨c, h⟩
theorem Byts.far {w : World} {g n : Nat} (h : Byts w g n) {p : Addr} (hp : g ≠ p.block) (u : Value) : Byts (w.setCell p u) g n := by
 obtain ⟨xs, a, b, h1, h2⟩ := h
 exact ⟨xs, a, b, (Below.heap_setCell w p u g hp).trans h1, h2⟩
/-- []byte(s). -/
theorem conv_to (w : World) (s : ByteArray) : ∃ V c, (convert 9 39 (.string s)).run Tryz.prog w = .ok (.slice (some ⟨w.heap.size, 0, none⟩) s.size c) V ∧ Below w.heap.size w V ∧ Byts V w.heap.size s.size ∧ s.size ≤ c := by
 refine ⟨_, _, Lib.run_convert_string_bytes w 9 39 5 s Tryz.underlying9 Tryz.underlying39 Tryz.underlying5, ?_, ?_, grownCap_ge w s.size 0 _⟩
 ·refine ⟨rfl, rfl, rfl, ?_, fun k hk => Lib.bytesWorld_at_old w _ s k hk⟩
  simp [Lib.bytesWorld, World.freeze]
 ·have hl : s.size ≤ (Lib.bytesCells w 5 s).toList.length := by
   show s.data.size ≤ (Lib.bytesCells w _ s).toList.length
   simp only [Lib.bytesCells, Array.length_toList, Array.size_append, Array.size_map]
   exact Nat.le_add_right _ _
  refine ⟨(Lib.bytesCells w 5 s).toList, (Lib.bytesCells w 5 s).toList.length, (Lib.bytesCells w 5 s).toList.length + 1, ?_, hl, .inl hl, fun v hv => ?_⟩
  ·have := Lib.bytesWorld_at_new w 5 s
   simpa using this
  ·simp only [Lib.bytesCells, Array.toList_append, Array.toList_map, Array.toList_replicate, List.mem_append, List.mem_map, List.mem_replicate] at hv
   rcases hv with ⟨b, _, rfl⟩ | ⟨_, rfl⟩
   ·exact ⟨_, rfl⟩
   ·exact ⟨0, rfl⟩
theorem strOfNums_sizeR (xs : List Int) : (strOfNums xs).size = xs.length := by simp [strOfNums, ByteArray.size]
/-- string(b). -/
theorem conv_back {w : World} {g n : Nat} (h : Byts w g n) (c : Nat) : ∃ st : ByteArray, st.size = n ∧ ∀ u, Below w.heap.size w u → (convert 39 9 (.slice (some ⟨g, 0, none⟩) n c)).run Tryz.prog u = .ok (.string st) u := by
 have hc : ∀ i : Nat, ∃ z : Int, i < n → w.cell? ⟨g, i, none⟩ = some (.int .u8 z) := fun i => by
  by_cases hi : i < n
  ·obtain ⟨z, hz⟩ := h.cell hi
   exact ⟨z, fun _ => hz⟩
  ·exact ⟨0, fun h => absurd h hi⟩
 obtain ⟨f, hf⟩ := Classical.axiomOfChoice hc
 refine ⟨strOfNums ((List.range n).map f), by rw [strOfNums_sizeR]; simp, fun u hu => ?_⟩
 refine run_convert_bytes_arg (P := Tryz.prog) u 39 5 Tryz.underlying39 Tryz.underlying5 g 0 n c _ (by simp) (fun i hi => ?_) 9 Tryz.underlying9
 rw [Nat.zero_add, (hu.cell (p := ⟨g, i, none⟩) h.lt), hf i hi]
 simp [List.getD, hi]
/-- make([]byte, n). -/
theorem make_bytes (n : Nat) (hn : n ≤ 1099511627776) (m : Int) (hm : m = (n : Int)) (u : World) :
  (Instr.makeSlice 39 (.int .i64 m) (.int .i64 m)).run Tryz.prog u = .ok (.slice (some ⟨u.heap.size, 0, none⟩) n n) (u.alloc (.cells (List.replicate n (.int .u8 0)).toArray 5)) := by
 obtain ⟨i0, hi, hz0, hz1, hz2⟩ := info_parts u8_infoR
 exact run_make1 _ _ i0 _ Tryz.underlying39 hi hz0 hz1 rfl (by rw [hz2]; decide) n hn m hm u
theorem byts_new (u : World) (n : Nat) : Byts (u.alloc (.cells (Array.replicate n (.int .u8 0)) 5)) u.heap.size n := by
 rw [← List.toArray_replicate]
 exact ⟨List.replicate n (.int .u8 0), 0, 0, Own.new u _ _, by simp, .inr rfl, fun v hv => ⟨0, (List.mem_replicate.1 hv).2⟩⟩
/-- Six texts. -/
def S6 (w : World) (g : Nat) : Prop := ∀ i, i < 6 → ∃ x : ByteArray, w.cell? ⟨g, i, none⟩ = some (.string x) ∧ x.size ≤ 70000 ∧ g < w.heap.size
theorem S6.on {w w' : World} {g : Nat} (h : S6 w g) (hb : Below w.heap.size w w') : S6 w' g := fun i hi => by
 obtain ⟨x, h1, h2, h3⟩ := h i hi
 exact ⟨x, (hb.cell (p := ⟨g, i, none⟩) h3).trans h1, h2, Nat.lt_of_lt_of_le h3 hb.size⟩
def sS6 : Spec Bel := ⟨fun v w => ∃ g, v = .slice (some ⟨g, 0, none⟩) 6 6 ∧ S6 w g, fun ⟨g, e, h⟩ k => ⟨g, e, h.on k⟩⟩
theorem S6.mk {w : World} {t : TypeId} {a b c d e f : ByteArray} (h1 : a.size ≤ 70000) (h2 : b.size ≤ 70000) (h3 : c.size ≤ 70000) (h4 : d.size ≤ 70000) (h5 : e.size ≤ 70000) (h6 : f.size ≤ 70000) :
  S6 (w.alloc (.cells #[.string a, .string b, .string c, .string d, .string e, .string f] t)) w.heap.size := fun i hi => by
 have hO : Own (w.alloc (.cells #[.string a, .string b, .string c, .string d, .string e, .string f] t)) w.heap.size t [.string a, .string b, .string c, .string d, .string e, .string f] := Own.new w t _
 match i, hi with
 | 0, _ => exact ⟨a, hO.cell 0, h1, hO.lt⟩
 | 1, _ => exact ⟨b, hO.cell 1, h2, hO.lt⟩
 | 2, _ => exact ⟨c, hO.cell 2, h3, hO.lt⟩
 | 3, _ => exact ⟨d, hO.cell 3, h4, hO.lt⟩
 | 4, _ => exact ⟨e, hO.cell 4, h5, hO.lt⟩
 | 5, _ => exact ⟨f, hO.cell 5, h6, hO.lt⟩
/-- A slot that holds a text of at most m bytes. -/
def sStr (m : Nat) : Spec Bel := ⟨fun v _ => ∃ x : ByteArray, v = .string x ∧ x.size ≤ m, fun h _ => h⟩
def sQryB (q : Qy.Qry) : Spec Bel := ⟨fun v w => ∃ x : Value, v = x ∧ IsQry w q x, fun ⟨x, e, h⟩ k => ⟨x, e, h.on k⟩⟩
theorem tdiv_bdR {n m : Int} (hm : 1 ≤ m) (n0 : -9223372036854775808 ≤ n) (n1 : n ≤ 9223372036854775807) : -9223372036854775808 ≤ n.tdiv m ∧ n.tdiv m ≤ 9223372036854775807 := by
 rcases Int.lt_or_le n 0 with h | h
 ·have e : n.tdiv m = -((-n) / m) := by
   rw [← Int.tdiv_eq_ediv_of_nonneg (by omega), Int.neg_tdiv, Int.neg_neg]
  have h1 : (-n) / m ≤ -n := Int.ediv_le_self _ (by omega)
  have h2 : 0 ≤ (-n) / m := Int.ediv_nonneg (by omega) (by omega)
  omega
 ·rw [Int.tdiv_eq_ediv_of_nonneg h]
  have h1 : n / m ≤ n := Int.ediv_le_self _ h
  have h2 : 0 ≤ n / m := Int.ediv_nonneg h (by omega)
  omega
set_option maxRecDepth 100000 in
theorem Short_any (s : ByteArray) (m : Nat) (_hm : m ≤ 1000) (w : World) : Calls Tryz.prog 12 #[.string s, .int .i64 (m : Int)] w (fun e w' => ∃ t : ByteArray, e = .returned (.string t) ∧ t.size ≤ m ∧ Below w.heap.size w w') := by
 go_enter Tryz.func12, Tryz.ntmps12
 by_cases h : (m : Int) < (s.size : Int)
 ·have h0 : (0 : Int) ≤ (m : Int) := by omega
  have h1 : (m : Int) ≤ (s.size : Int) := by omega
  go_wp2
  go_returns
  exact ⟨_, rfl, by rw [ByteArray.size_extract]; omega, by go_grown⟩
 ·go_wp2
  go_returns
  exact ⟨_, rfl, by omega, by go_grown⟩
set_option maxRecDepth 100000 in
set_option maxHeartbeats 6400000 in
theorem QueryReads_any {w : World} {A : Option Addr} {l : List Int} {c : Nat} {at_ how x many : Int} {text : ByteArray} (k0 : IntsIs w A l c) (b1 : in64 at_) (b2 : in64 how) (b3 : in64 many) :
  Calls Tryz.prog 3 #[.slice A l.length c, .int .i64 at_, .int .i64 how, .int .u8 x, .string text, .int .i64 many] w (RetB w true) := by
 have HL0 := Lib.hid fun u => lives_any u
 have HSo := Lib.hid (Some_any k0)
 obtain ⟨L, hL⟩ : ∃ L, l.length = L := ⟨_, rfl⟩
 rw [hL] at HSo
 rw [hL]
 have HB := Lib.hid (And.intro b1 (And.intro b2 b3))
 obtain ⟨x14, hx14⟩ : ∃ z, around many 14 = z := ⟨_, rfl⟩
 have c14 := around_bd many (m := 14) (by omega)
 rw [hx14] at c14
 have HA14 := Lib.hid fun u => Around_any many 14 u b3.1 b3.2 (by omega) (by omega)
 rw [hx14] at HA14
 have HSh := Lib.hid fun u => Short_any text 60 (by omega) u
 have HT7 := Lib.hid (tdiv_bdR (m := 7) (by omega) b1.1 b1.2)
 have HT29 := Lib.hid (tdiv_bdR (m := 29) (by omega) b2.1 b2.2)
 clear hL k0 b1 b2 b3 hx14
 go_enter Tryz.func3, Tryz.ntmps3
 go_wp2_with fail
 refine HSo.out.mono ?_
 rintro e w1 ⟨q, v, rfl, hB1, hq, hg⟩
 have HPr := Lib.hid (rPrint_ok q hg v w1 hq.isQry)
 have hlen := goodQ_lenR hg
 obtain ⟨s1, hs1⟩ : ∃ s, Qy.printT q = s := ⟨_, rfl⟩
 rw [hs1] at hlen HPr
 clear hs1 hq hg HSo
 go_wp2_with fail
 refine HPr.out.mono ?_
 rintro e w2 ⟨t, rfl, hB2, ht⟩
 have htb : t = bs s1 := ht
 subst htb
 have hB2w := Below.call hB1 hB2
 have hsz := bs_size s1
 obtain ⟨N, hN⟩ : ∃ N, (bs s1).size = N := ⟨_, rfl⟩
 have hNN : N = s1.length := by rw [← hN, hsz]
 have hN1 : 6 ≤ N := by omega
 have hN2 : N ≤ 4000 := by omega
 have HN := Lib.hid hN
 clear ht hB1 hB2 HPr hsz hNN hN hlen
 go_upto_region 4 with fail
 obtain ⟨V1, cB, hcv, k1, hBB, hcB⟩ := conv_to w2 (bs s1)
 rw [HN.out] at hcv hBB hcB
 go_upto_region 5 with fail
 obtain ⟨gB, e_⟩ : ∃ gB, w2.heap.size = gB := ⟨_, rfl⟩
 have hgB : w.heap.size ≤ gB := by rw [← e_]; exact hB2w.size
 have hB3 := Below.call hB2w k1
 rw [e_] at hBB ⊢
 obtain ⟨i, hi⟩ : ∃ i : Nat, around at_ (N : Int) = (i : Int) := ⟨(around at_ (N : Int)).toNat, by have := around_bd at_ (m := (N : Int)) (by omega); omega⟩
 have hiN : i < N := by have := around_bd at_ (m := (N : Int)) (by omega); omega
 have HAi := Lib.hid fun u => Around_any at_ (N : Int) u HB.out.1.1 HB.out.1.2 (by omega) (by omega)
 rw [hi] at HAi
 have HBB := Lib.hid (And.intro hB3 hBB)
 clear hcv k1 hB2w e_ hi hB3 hBB
 go_wp2_with fail
 refine (HAi.out _).mono ?_
 rintro e w3 ⟨rfl, k3⟩
 have hBB3 := HBB.out.2.on k3
 have hB3 := Below.call HBB.out.1 k3
 obtain ⟨z0, hz0⟩ := hBB3.cell hiN
 have hz1 := hBB3.frozen hiN
 have j0 : (0 : Int) ≤ (i : Int) := by omega
 have j1 : (i : Int) < (N : Int) := by omega
 have hBB4 := hBB3.set_ i x
 have hB4 := hB3.setCell (p := ⟨gB, i, none⟩) hgB (.int .u8 x)
 have HBB4 := Lib.hid (And.intro hB4 hBB4)
 clear hBB3 hB3 hBB4 hB4 k3 HBB HAi
 go_upto_region 6 with fail
 obtain ⟨V3, hV3⟩ : ∃ V3, w3.setCell ⟨gB, i, none⟩ (.int .u8 x) = V3 := ⟨_, rfl⟩
 rw [hV3] at HBB4 ⊢
 have hsl : s1.length ≤ 4000 := by have h9 := HN.out; rw [bs_size] at h9; omega
 have HSL := Lib.hid hsl
 have HW := Lib.hid (Wrong_any s1 (by omega) at_ how HB.out.1 HB.out.2.1 V3)
 clear hV3 hz0 hz1 j0 j1 hsl
 go_wp2_with fail
 refine HW.out.mono ?_
 rintro e w4 ⟨t2, rfl, hB4, ht2⟩
 obtain ⟨W1, hW1⟩ : ∃ W : Qy.Bs, t2 = bs W := ⟨t2.data.toList, (bs_etaR t2).symm⟩
 subst hW1
 rw [bs_size] at ht2
 have HWl : Hid (W1.length ≤ 16100) := Lib.hid (by have := HSL.out; omega)
 have HBB5 := Lib.hid (And.intro (Below.call HBB4.out.1 hB4) (HBB4.out.2.on hB4))
 clear hB4 ht2 HW HBB4
 go_upto_region 7 with fail
 obtain ⟨n, hn⟩ : ∃ n : Nat, 4090 - (N : Int) + x14 = (n : Int) := ⟨(4090 - (N : Int) + x14).toNat, by omega⟩
 have hn2 : n ≤ 4200 := by omega
 have hmk := make_bytes n (by omega) (wrap64 (wrap64 (4090 - ((bs s1).size : Int)) + x14)) (by rw [HN.out]; unfold wrap64; omega)
 clear hn
 go_wp2_with fail
 refine (HA14.out _).mono ?_
 rintro e w5 ⟨rfl, k5⟩
 have HBB6 := Lib.hid (And.intro (Below.call HBB5.out.1 k5) (HBB5.out.2.on k5))
 clear k5 HBB5 HA14
 go_upto_region 8 with fail
 have hL := byts_new w5 n
 have kn : Below w5.heap.size w5 (w5.alloc (.cells (Array.replicate n (.int .u8 0)) 5)) := below_new _ _
 obtain ⟨V4, hV4⟩ : ∃ V4, w5.alloc (.cells (Array.replicate n (.int .u8 0)) 5) = V4 := ⟨_, rfl⟩
 rw [hV4] at hL kn ⊢
 obtain ⟨gL, hgL⟩ : ∃ gL, w5.heap.size = gL := ⟨_, rfl⟩
 have hgLw : w.heap.size ≤ gL := by rw [← hgL]; exact HBB6.out.1.size
 have hgne : gB ≠ gL := by have := HBB6.out.2.lt; omega
 have HS := Lib.hid (And.intro (Below.call HBB6.out.1 kn) (And.intro (HBB6.out.2.on kn) hL))
 rw [hgL] at HS ⊢
 clear hV4 hgL kn hL hmk HBB6
 go_wp2_with fail
 go_loopw [18] (fun s wr => ∃ k : Nat, k ≤ n ∧ s = .int .i64 (k : Int) ∧ Below w.heap.size w wr ∧ Byts wr gB N ∧ Byts wr gL n) (fun s _ => n - (intOf s).toNat)
 case atStart => exact ⟨0, Nat.zero_le _, rfl, HS.out.1, HS.out.2.1, HS.out.2.2⟩
 case round =>
  obtain ⟨k, hk, rfl, hB, hbB, hbL⟩ := hrel
  clear HS
  rcases Nat.lt_or_eq_of_le hk with hlt | heq
  ·have i1 : (k : Int) < (n : Int) := by omega
   obtain ⟨z0, hz0⟩ := hbL.cell hlt
   have hz1 := hbL.frozen hlt
   have i0 : (0 : Int) ≤ (k : Int) := by omega
   have HS2 := Lib.hid (And.intro (hB.setCell (p := ⟨gL, k, none⟩) hgLw (.int .u8 32)) (And.intro (hbB.far (p := ⟨gL, k, none⟩) hgne (.int .u8 32)) (hbL.set_ k 32)))
   clear hB hbB hbL
   go_wp2_with fail
   go_roundw
   case rel => exact ⟨k + 1, by omega, by go_num, HS2.out.1, HS2.out.2.1, HS2.out.2.2⟩
   case measure => simp [intOf]; omega
  ·have heq2 := heq.symm
   subst heq2
   obtain ⟨V5, hV5⟩ : ∃ V, V = wr := ⟨_, rfl⟩
   subst hV5
   obtain ⟨st1, hst1, hcB⟩ := conv_back hbB cB
   obtain ⟨stL, hstL, hcL⟩ := conv_back hbL n
   have HCB := Lib.hid hcB
   have HCL := Lib.hid hcL
   have HNO : Hid (¬ 9223372036854775807 < stL.size + (bs s1).size) := Lib.hid (by rw [HN.out, hstL]; omega)
   have HSZ : Hid ((bs s1).size ≤ 70000 ∧ st1.size ≤ 70000 ∧ (bs W1).size ≤ 70000 ∧ (stL ++ bs s1).size ≤ 70000) := Lib.hid ⟨by rw [HN.out]; omega, by omega, by rw [bs_size]; have := HWl.out; omega, by rw [ByteArray.size_append, HN.out, hstL]; omega⟩
   have HW2 : Hid (∀ u, Calls Tryz.prog 11 #[.string (bs W1), .int .i64 (at_.tdiv 7), .int .i64 (how.tdiv 29)] u fun e w' => ∃ t : ByteArray, e = .returned (.string t) ∧ Below u.heap.size u w' ∧ t.size ≤ 64600) := Lib.hid fun u => (Wrong_any W1 (by have := HWl.out; omega) _ _ HT7.out HT29.out u).mono fun e w' ⟨t, h1, h2, h3⟩ => ⟨t, h1, h2, by have := HWl.out; omega⟩
   have HBw := Lib.hid hB
   clear hst1 hcB hstL hcL hbB hbL hB heq hk hN1 hN2 hn2 hiN hgne hgLw c14
   go_upto_region 12 with fail
   refine wp_region_specs V5 [Spec.eq (.string (bs s1)), Spec.eq (.slice (some ⟨gB, 0, none⟩) N cB), Spec.eq (.string st1), Spec.eq (.string (bs W1)), Spec.eq (.string (bs W1)), Spec.eq (.int .i64 at_), Spec.eq (.int .i64 (at_.tdiv 7)), Spec.eq (.int .i64 how), Spec.eq (.int .i64 (how.tdiv 29)), sStr 64600, Spec.eq (.string text), sStr 60, Spec.eq (.slice (some ⟨gL, 0, none⟩) n n), Spec.eq (.string stL), Spec.eq (.string (bs s1)), Spec.eq (.string (stL ++ bs s1)), sS6 , sS6 ]
     (by kernel_rfl) (by kernel_rfl) rfl (by kernel_rfl) (Below.drew (Below.refl _ _)) ?_ ?_
   ·
    refine RegSteps.cons ?_ ?_
    ·intro _ az wz hC hF hD _ K hK
     have q13 : az.tmps[13]? = some (.string (bs s1)) := hF 13 rfl
     clear hF hD
     refine want_none rfl ?_
     go_simp
     exact hK _ _ hC (Below.refl _ _) rfl
    refine RegSteps.cons ?_ ?_
    ·intro _ az wz hC hF hD _ K hK
     have q15 : az.tmps[15]? = some (.slice (some ⟨gB, 0, none⟩) N cB) := hF 15 rfl
     clear hF hD
     refine want_none rfl ?_
     go_simp
     exact hK _ _ hC (Below.refl _ _) rfl
    refine RegSteps.cons ?_ ?_
    ·intro _ az wz hC hF hD _ K hK
     obtain ⟨_, q66, rfl⟩ := dep hD 1 rfl rfl rfl rfl
     have hcv := HCB.out _ hC
     clear hF hD
     refine want_none rfl ?_
     go_simp
     exact hK _ _ hC (Below.refl _ _) rfl
    refine RegSteps.cons ?_ ?_
    ·intro _ az wz hC hF hD _ K hK
     have q16 : az.tmps[16]? = some (.string (bs W1)) := hF 16 rfl
     clear hF hD
     refine want_none rfl ?_
     go_simp
     exact hK _ _ hC (Below.refl _ _) rfl
    refine RegSteps.cons ?_ ?_
    ·intro _ az wz hC hF hD _ K hK
     have q16 : az.tmps[16]? = some (.string (bs W1)) := hF 16 rfl
     clear hF hD
     refine want_none rfl ?_
     go_simp
     exact hK _ _ hC (Below.refl _ _) rfl
    refine RegSteps.cons ?_ ?_
    ·intro _ az wz hC hF hD _ K hK
     have q1 : az.tmps[1]? = some (.int .i64 at_) := hF 1 rfl
     clear hF hD
     refine want_none rfl ?_
     go_simp
     exact hK _ _ hC (Below.refl _ _) rfl
    refine RegSteps.cons ?_ ?_
    ·intro _ az wz hC hF hD _ K hK
     obtain ⟨_, q70, rfl⟩ := dep hD 5 rfl rfl rfl rfl
     have hb_ := HT7.out.1
     have hb2_ := HT7.out.2
     clear hF hD
     refine want_none rfl ?_
     go_simp
     try go_ints
     exact hK _ _ hC (Below.refl _ _) rfl
    refine RegSteps.cons ?_ ?_
    ·intro _ az wz hC hF hD _ K hK
     have q2 : az.tmps[2]? = some (.int .i64 how) := hF 2 rfl
     clear hF hD
     refine want_none rfl ?_
     go_simp
     exact hK _ _ hC (Below.refl _ _) rfl
    refine RegSteps.cons ?_ ?_
    ·intro _ az wz hC hF hD _ K hK
     obtain ⟨_, q72, rfl⟩ := dep hD 7 rfl rfl rfl rfl
     have hb_ := HT29.out.1
     have hb2_ := HT29.out.2
     clear hF hD
     refine want_none rfl ?_
     go_simp
     try go_ints
     exact hK _ _ hC (Below.refl _ _) rfl
    refine RegSteps.cons ?_ ?_
    ·intro _ az wz hC hF hD _ K hK
     obtain ⟨_, q69, rfl⟩ := dep hD 4 rfl rfl rfl rfl
     obtain ⟨_, q71, rfl⟩ := dep hD 6 rfl rfl rfl rfl
     obtain ⟨_, q73, rfl⟩ := dep hD 8 rfl rfl rfl rfl
     clear hF hD
     refine want_none rfl ?_
     go_simp
     refine (HW2.out _).mono ?_
     rintro e wy ⟨x, rfl, k, hx⟩
     exact hK _ _ (Below.call hC k) k ⟨x, rfl, hx⟩
    refine RegSteps.cons ?_ ?_
    ·intro _ az wz hC hF hD _ K hK
     have q4 : az.tmps[4]? = some (.string text) := hF 4 rfl
     clear hF hD
     refine want_none rfl ?_
     go_simp
     exact hK _ _ hC (Below.refl _ _) rfl
    refine RegSteps.cons ?_ ?_
    ·intro _ az wz hC hF hD _ K hK
     obtain ⟨_, q75, rfl⟩ := dep hD 10 rfl rfl rfl rfl
     clear hF hD
     refine want_none rfl ?_
     go_simp
     refine (HSh.out _).mono ?_
     rintro e wy ⟨x, rfl, hx, k⟩
     exact hK _ _ (Below.call hC k) k ⟨x, rfl, hx⟩
    refine RegSteps.cons ?_ ?_
    ·intro _ az wz hC hF hD _ K hK
     have q17 : az.tmps[17]? = some (.slice (some ⟨gL, 0, none⟩) n n) := hF 17 rfl
     clear hF hD
     refine want_none rfl ?_
     go_simp
     exact hK _ _ hC (Below.refl _ _) rfl
    refine RegSteps.cons ?_ ?_
    ·intro _ az wz hC hF hD _ K hK
     obtain ⟨_, q77, rfl⟩ := dep hD 12 rfl rfl rfl rfl
     have hcv := HCL.out _ hC
     clear hF hD
     refine want_none rfl ?_
     go_simp
     exact hK _ _ hC (Below.refl _ _) rfl
    refine RegSteps.cons ?_ ?_
    ·intro _ az wz hC hF hD _ K hK
     have q13 : az.tmps[13]? = some (.string (bs s1)) := hF 13 rfl
     clear hF hD
     refine want_none rfl ?_
     go_simp
     exact hK _ _ hC (Below.refl _ _) rfl
    refine RegSteps.cons ?_ ?_
    ·intro _ az wz hC hF hD _ K hK
     obtain ⟨_, q78, rfl⟩ := dep hD 13 rfl rfl rfl rfl
     obtain ⟨_, q79, rfl⟩ := dep hD 14 rfl rfl rfl rfl
     have hs_ := HNO.out
     clear hF hD
     refine want_none rfl ?_
     go_simp
     exact hK _ _ hC (Below.refl _ _) rfl
    refine RegSteps.cons ?_ ?_
    ·intro _ az wz hC hF hD _ K hK
     obtain ⟨_, q65, rfl⟩ := dep hD 0 rfl rfl rfl rfl
     obtain ⟨_, q67, rfl⟩ := dep hD 2 rfl rfl rfl rfl
     obtain ⟨_, q68, rfl⟩ := dep hD 3 rfl rfl rfl rfl
     obtain ⟨_, q74, x74, rfl, hx74⟩ := dep hD 9 rfl rfl rfl rfl
     obtain ⟨_, q76, x76, rfl, hx76⟩ := dep hD 11 rfl rfl rfl rfl
     obtain ⟨_, q80, rfl⟩ := dep hD 15 rfl rfl rfl rfl
     clear hF hD
     refine want_none rfl ?_
     go_simp
     exact hK _ _ (Below.alloc hC hC.size _) (below_new _ _) ⟨_, rfl, S6.mk HSZ.out.1 HSZ.out.2.1 HSZ.out.2.2.1 (by omega) (by omega) HSZ.out.2.2.2⟩
    refine RegSteps.cons ?_ ?_
    ·intro _ az wz hC hF hD _ K hK
     obtain ⟨_, q81, x81, rfl, hx81⟩ := dep hD 16 rfl rfl rfl rfl
     clear hF hD
     refine want_none rfl ?_
     go_simp
     exact hK _ _ hC (Below.refl _ _) ⟨x81, rfl, hx81⟩
    exact RegSteps.nil
   intro w6 hC6
   rintro _ rfl _ rfl _ rfl _ rfl _ rfl _ rfl _ rfl _ rfl _ rfl _ ⟨y74, rfl, _⟩ _ rfl _ ⟨y76, rfl, _⟩ _ rfl _ rfl _ rfl _ rfl _ ⟨y81, rfl, _⟩ _ ⟨y19, rfl, hy19⟩
   simp only [FinOK, Act.put, List.setIfInBounds_toArray, List.set_cons_zero, List.set_cons_succ]
   have HB6 := Lib.hid (Below.call HBw.out hC6)
   have HX := Lib.hid hy19
   clear HBw hC6 hy19 HCB HCL HNO HSZ HW2 HSh HT7 HT29
   go_wp2_with fail
   go_loopw [20] (fun s wr => ∃ i : Nat, i ≤ 6 ∧ s = .int .i64 (i : Int) ∧ Below w6.heap.size w6 wr) (fun s _ => 6 - (intOf s).toNat)
   case atStart => exact ⟨0, by omega, rfl, Below.refl _ _⟩
   case round =>
    obtain ⟨i, hi, rfl, hB⟩ := hrel
    rcases Nat.lt_or_eq_of_le hi with hlt | heq
    ·have i1 : (i : Int) < 6 := by omega
     obtain ⟨t, ht, htz, hgl⟩ := HX.out i hlt
     have HXI := Lib.hid (And.intro ht hgl)
     have x1 : wr.cell? ⟨y19, i, none⟩ = some (.string t) := (hB.cell (p := ⟨y19, i, none⟩) hgl).trans ht
     have hsl : t.data.toList.length ≤ 100000 := by rw [← bs_size, bs_etaR]; omega
     obtain ⟨PR, hPR⟩ : ∃ PR, Qy.parse t.data.toList = PR := ⟨_, rfl⟩
     have hsm := parse_smallR t.data.toList
     have HQ : Hid (∀ u, Calls Tryz.prog 13 #[.string t] u (ParseR u PR)) := Lib.hid fun u => by rw [← hPR]; have h9 := qParse t.data.toList u (by omega); rw [bs_etaR] at h9; exact h9
     have HR : Hid (∀ u, Calls Tryz.prog 14 #[.string t] u (ParseR u PR)) := Lib.hid fun u => by rw [← hPR]; have h9 := rParse t.data.toList u (by omega); rw [bs_etaR] at h9; exact h9
     rw [hPR] at hsm
     obtain ⟨⟨qk, QR, qv, qo, qd, qs⟩, px, pe⟩ := PR
     simp only at hsm
     obtain ⟨Q, hQd⟩ : ∃ Q : Qy.Qry, Q = ⟨qk, QR, qv, qo, qd, qs⟩ := ⟨_, rfl⟩
     have HPl : Hid (∀ (v : Value) (u : World), IsQry u Q v → Calls Tryz.prog 16 #[v] u fun e w' => ∃ v', e = .returned v' ∧ Below u.heap.size u w' ∧ IsQry w' Q v') := Lib.hid fun v u h => plain_any Q (by rw [hQd]; exact hsm.1) v u h
     have HSq : Hid (∀ (v v' : Value) (u : World), IsQry u Q v → IsQry u Q v' → Calls Tryz.prog 15 #[v, v'] u (RetB u true)) := Lib.hid fun v v' u h h' => SameQuery_any Q (by rw [hQd]; exact hsm.1) (by rw [hQd]; exact hsm.2) v v' u h h'
     have HQD := Lib.hid hQd
     have HB0 := Lib.hid hB
     clear hPR hsm hQd ht htz hsl hB hgl
     go_wp2_with fail
     refine (HQ.out _).mono ?_
     rintro e w1 ⟨v, rfl, hq, hb1⟩
     obtain ⟨an0, as1, an2, an3, an4, an5, an6, an7, aA8, al8, ac8, avA, avl, avc, rfl, hvl, _⟩ := hq.lit
     have hqa := hq.isQry
     have hB1 := Below.call HB0.out hb1
     clear hq x1 HB0
     simp only at hqa hvl ⊢
     subst hvl
     go_upto_region 17 with fail
     refine wp_new1 fun W2 hOa kn => ?_
     obtain ⟨ga, hga⟩ : ∃ g, w1.heap.size = g := ⟨_, rfl⟩
     rw [hga] at hOa ⊢
     have hB2 := Below.call hB1 kn
     have hqa2 := hqa.on kn
     have x1 : W2.cell? ⟨y19, i, none⟩ = some (.string t) := (hB2.cell (p := ⟨y19, i, none⟩) HXI.out.2).trans HXI.out.1
     clear hB1 hqa kn hga hb1
     have HA := Lib.hid (And.intro hOa (And.intro hB2 hqa2))
     clear hOa hB2 hqa2
     go_wp2_with fail
     refine (HR.out _).mono ?_
     rintro e w3 ⟨v, rfl, hq, hb3⟩
     obtain ⟨bn0, bs1, bn2, bn3, bn4, bn5, bn6, bn7, bA8, bl8, bc8, bvA, bvl, bvc, rfl, hvl, _⟩ := hq.lit
     have hqb := hq.isQry
     have hOa3 := HA.out.1.on hb3
     have hB3 := Below.call HA.out.2.1 hb3
     have hqa3 := HA.out.2.2.on hb3
     clear hq x1 HA
     simp only at hqb hvl ⊢
     subst hvl
     go_upto_region 18 with fail
     refine wp_new1 fun W4 hOb kn => ?_
     obtain ⟨gb, hgb⟩ : ∃ g, w3.heap.size = g := ⟨_, rfl⟩
     rw [hgb] at hOb ⊢
     have HOa := Lib.hid (hOa3.on kn)
     have HOb := Lib.hid hOb
     have HS4 := Lib.hid (Below.call hB3 kn)
     have HQa : Hid (∀ wz, Below W4.heap.size W4 wz → IsQry wz Q (.agg #[.int .i64 qk, .int .i64 an0, .string as1, .int .i64 an2, .int .i64 an3, .int .i64 an4, .int .i64 an5, .int .i64 an6, .int .i64 an7, .slice aA8 al8 ac8, .int .i64 qv, .slice avA qo.length avc, .int .i64 qd, .int .i64 qs])) := Lib.hid fun wz k => by rw [HQD.out]; exact (hqa3.on kn).on k
     have HQb : Hid (∀ wz, Below W4.heap.size W4 wz → IsQry wz Q (.agg #[.int .i64 qk, .int .i64 bn0, .string bs1, .int .i64 bn2, .int .i64 bn3, .int .i64 bn4, .int .i64 bn5, .int .i64 bn6, .int .i64 bn7, .slice bA8 bl8 bc8, .int .i64 qv, .slice bvA qo.length bvc, .int .i64 qd, .int .i64 qs])) := Lib.hid fun wz k => by rw [HQD.out]; exact (hqb.on kn).on k
     clear hOa3 hOb hB3 hqa3 hqb kn hgb hb3 HQ HR
     refine wp_region_specs W4 [Spec.eq (.int .i64 (px : Int)), Spec.eq (.int .i64 (px : Int)), Spec.eq (.bool false), Spec.eq (.bool false), Spec.eq (.int .i64 pe), Spec.eq (.int .i64 pe), Spec.eq (.bool false), Spec.eq (.bool false), Spec.eq (.bool false), Spec.eq (.agg #[.int .i64 qk, .int .i64 an0, .string as1, .int .i64 an2, .int .i64 an3, .int .i64 an4, .int .i64 an5, .int .i64 an6, .int .i64 an7, .slice aA8 al8 ac8, .int .i64 qv, .slice avA qo.length avc, .int .i64 qd, .int .i64 qs]), sQryB Q, Spec.eq (.agg #[.int .i64 qk, .int .i64 bn0, .string bs1, .int .i64 bn2, .int .i64 bn3, .int .i64 bn4, .int .i64 bn5, .int .i64 bn6, .int .i64 bn7, .slice bA8 bl8 bc8, .int .i64 qv, .slice bvA qo.length bvc, .int .i64 qd, .int .i64 qs]), Spec.eq (.bool true), Spec.eq (.bool false), Spec.eq (.bool false)]
       (by kernel_rfl) (by kernel_rfl) rfl (by kernel_rfl) (Below.drew (Below.refl _ _)) ?_ ?_
     ·
      refine RegSteps.cons ?_ ?_
      ·intro _ az wz hC hF hD _ K hK
       have q22 : az.tmps[22]? = some (.int .i64 (px : Int)) := hF 22 rfl
       clear hF hD
       refine want_none rfl ?_
       go_simp
       exact hK _ _ hC (Below.refl _ _) rfl
      refine RegSteps.cons ?_ ?_
      ·intro _ az wz hC hF hD _ K hK
       have q25 : az.tmps[25]? = some (.int .i64 (px : Int)) := hF 25 rfl
       clear hF hD
       refine want_none rfl ?_
       go_simp
       exact hK _ _ hC (Below.refl _ _) rfl
      refine RegSteps.cons ?_ ?_
      ·intro _ az wz hC hF hD _ K hK
       obtain ⟨_, q106, rfl⟩ := dep hD 0 rfl rfl rfl rfl
       obtain ⟨_, q107, rfl⟩ := dep hD 1 rfl rfl rfl rfl
       clear hF hD
       refine want_none rfl ?_
       go_simp
       exact hK _ _ hC (Below.refl _ _) rfl
      refine RegSteps.cons ?_ ?_
      ·intro _ az wz hC hF hD _ K hK
       obtain ⟨_, q108, rfl⟩ := dep hD 2 rfl rfl rfl rfl
       clear hF hD
       refine want_none rfl ?_
       go_simp
       exact hK _ _ hC (Below.refl _ _) rfl
      refine RegSteps.cons ?_ ?_
      ·intro _ az wz hC hF hD _ K hK
       have q23 : az.tmps[23]? = some (.int .i64 pe) := hF 23 rfl
       obtain ⟨_, qg, rfl⟩ := dep hD 3 rfl rfl rfl rfl
       clear hF hD
       refine want_yes rfl rfl rfl qg ?_
       go_simp
       exact hK _ _ hC (Below.refl _ _) rfl
      refine RegSteps.cons ?_ ?_
      ·intro _ az wz hC hF hD _ K hK
       have q26 : az.tmps[26]? = some (.int .i64 pe) := hF 26 rfl
       obtain ⟨_, qg, rfl⟩ := dep hD 3 rfl rfl rfl rfl
       clear hF hD
       refine want_yes rfl rfl rfl qg ?_
       go_simp
       exact hK _ _ hC (Below.refl _ _) rfl
      refine RegSteps.cons ?_ ?_
      ·intro _ az wz hC hF hD _ K hK
       obtain ⟨_, q110, rfl⟩ := dep hD 4 rfl rfl rfl rfl
       obtain ⟨_, q111, rfl⟩ := dep hD 5 rfl rfl rfl rfl
       obtain ⟨_, qg, rfl⟩ := dep hD 3 rfl rfl rfl rfl
       clear hF hD
       refine want_yes rfl rfl rfl qg ?_
       go_simp
       exact hK _ _ hC (Below.refl _ _) rfl
      refine RegSteps.cons ?_ ?_
      ·intro _ az wz hC hF hD _ K hK
       obtain ⟨_, q109, rfl⟩ := dep hD 3 rfl rfl rfl rfl
       obtain ⟨_, q112, rfl⟩ := dep hD 6 rfl rfl rfl rfl
       clear hF hD
       refine want_none rfl ?_
       go_simp
       exact hK _ _ hC (Below.refl _ _) rfl
      refine RegSteps.cons ?_ ?_
      ·intro _ az wz hC hF hD _ K hK
       obtain ⟨_, q113, rfl⟩ := dep hD 7 rfl rfl rfl rfl
       clear hF hD
       refine want_none rfl ?_
       go_simp
       exact hK _ _ hC (Below.refl _ _) rfl
      refine RegSteps.cons ?_ ?_
      ·intro _ az wz hC hF hD _ K hK
       have q21 : az.tmps[21]? = some (.pointer (some ⟨ga, 0, none⟩)) := hF 21 rfl
       obtain ⟨_, qg, rfl⟩ := dep hD 8 rfl rfl rfl rfl
       obtain ⟨⟨z0, z1, z2, z3, z4, z5, z6, z7, z8, z9, z10, z11, z12, z13⟩, _⟩ := (HOa.out.on hC).all14
       clear hF hD
       refine want_yes rfl rfl rfl qg ?_
       go_simp
       exact hK _ _ hC (Below.refl _ _) rfl
      refine RegSteps.cons ?_ ?_
      ·intro _ az wz hC hF hD _ K hK
       obtain ⟨_, q115, rfl⟩ := dep hD 9 rfl rfl rfl rfl
       obtain ⟨_, qg, rfl⟩ := dep hD 8 rfl rfl rfl rfl
       clear hF hD
       refine want_yes rfl rfl rfl qg ?_
       go_simp
       refine (HPl.out _ _ (HQa.out _ hC)).mono ?_
       rintro e wy ⟨x, rfl, k, hx⟩
       exact hK _ _ (Below.call hC k) k ⟨x, rfl, hx⟩
      refine RegSteps.cons ?_ ?_
      ·intro _ az wz hC hF hD _ K hK
       have q24 : az.tmps[24]? = some (.pointer (some ⟨gb, 0, none⟩)) := hF 24 rfl
       obtain ⟨_, qg, rfl⟩ := dep hD 8 rfl rfl rfl rfl
       obtain ⟨⟨z0, z1, z2, z3, z4, z5, z6, z7, z8, z9, z10, z11, z12, z13⟩, _⟩ := (HOb.out.on hC).all14
       clear hF hD
       refine want_yes rfl rfl rfl qg ?_
       go_simp
       exact hK _ _ hC (Below.refl _ _) rfl
      refine RegSteps.cons ?_ ?_
      ·intro _ az wz hC hF hD _ K hK
       obtain ⟨_, q116, x116, rfl, hx116⟩ := dep hD 10 rfl rfl rfl rfl
       obtain ⟨_, q117, rfl⟩ := dep hD 11 rfl rfl rfl rfl
       obtain ⟨_, qg, rfl⟩ := dep hD 8 rfl rfl rfl rfl
       clear hF hD
       refine want_yes rfl rfl rfl qg ?_
       go_simp
       refine (HSq.out _ _ _ hx116 (HQb.out _ hC)).mono ?_
       rintro e wy ⟨rfl, k⟩
       exact hK _ _ (Below.call hC k) k rfl
      refine RegSteps.cons ?_ ?_
      ·intro _ az wz hC hF hD _ K hK
       obtain ⟨_, q118, rfl⟩ := dep hD 12 rfl rfl rfl rfl
       obtain ⟨_, qg, rfl⟩ := dep hD 8 rfl rfl rfl rfl
       clear hF hD
       refine want_yes rfl rfl rfl qg ?_
       go_simp
       exact hK _ _ hC (Below.refl _ _) rfl
      refine RegSteps.cons ?_ ?_
      ·intro _ az wz hC hF hD _ K hK
       obtain ⟨_, q114, rfl⟩ := dep hD 8 rfl rfl rfl rfl
       obtain ⟨_, q119, rfl⟩ := dep hD 13 rfl rfl rfl rfl
       clear hF hD
       refine want_none rfl ?_
       go_simp
       exact hK _ _ hC (Below.refl _ _) rfl
      exact RegSteps.nil
     intro w7 hC7
     rintro _ rfl _ rfl _ rfl _ rfl _ rfl _ rfl _ rfl _ rfl _ rfl _ rfl _ ⟨y116, rfl, _⟩ _ rfl _ rfl _ rfl _ rfl
     simp only [FinOK, Act.put, List.setIfInBounds_toArray, List.set_cons_zero, List.set_cons_succ]
     have HS := Lib.hid (Below.call HS4.out hC7)
     clear hC7
     go_wp2_with fail
     go_roundw
     case rel => exact ⟨i + 1, by omega, by go_num, HS.out⟩
     case measure => simp [intOf]; omega
    ·subst heq
     have HB := Lib.hid (Below.call HB6.out hB)
     clear hB
     go_wp2_with fail
     refine (HL0.out _).mono ?_
     rintro e w9 ⟨rfl, k9⟩
     have HF := Lib.hid (Below.call HB.out k9)
     clear k9
     go_wp2
     go_returns
     exact ⟨by simp, HF.out⟩
end Go.Proofs.YtmlpibdincfgbaaGreatDoor
