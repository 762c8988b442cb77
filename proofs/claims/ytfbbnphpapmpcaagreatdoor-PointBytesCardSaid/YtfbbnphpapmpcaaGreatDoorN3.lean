/-
  Package point: Decode; the reader of package wire after an error; slices.Equal.
-/
import Derived.Test.YtfbbnphpapmpcaaGreatDoorN1
import Derived.Test.YtfbbnphpapmpcaaGreatDoorN2
namespace Go.Proofs.YtfbbnphpapmpcaaGreatDoor
open Go.RowKit Mag

set_option maxRecDepth 100000 in
set_option maxHeartbeats 1600000 in
theorem SlEqual_any (A A' : Option Addr) (c c' : Nat) (l l' : List Nat) (w : World) (h : BIs w w.heap.size A c l) (h' : BIs w w.heap.size A' c' l') (hl : l.length ≤ 1000000000) (hl' : l'.length ≤ 1000000000) :
    Calls Tryz.prog 36 #[.slice A l.length c, .slice A' l'.length c'] w (RetB w (decide (l = l'))) := by
  obtain ⟨n, hn⟩ : ∃ n, l.length = n := ⟨_, rfl⟩
  obtain ⟨n', hn'⟩ : ∃ n, l'.length = n := ⟨_, rfl⟩
  rw [hn] at hl
  rw [hn'] at hl'
  rw [hn, hn']
  obtain ⟨bb, hbb⟩ : ∃ b, decide (l = l') = b := ⟨_, rfl⟩
  have HBB := Lib.hid hbb
  rw [hbb]
  clear hbb
  by_cases he : n = n'
  · subst he
    have HN := Lib.hid (And.intro hn hn')
    have HH := Lib.hid (And.intro h h')
    clear hn hn' h h' hl'
    go_enter Tryz.func36, Tryz.ntmps36
    go_wp2_with fail
    go_loopw [13] (fun s wr => ∃ i : Nat, i ≤ n ∧ s = .int .i64 (i : Int) ∧ l.take i = l'.take i ∧ Below w.heap.size w wr) (fun s _ => n - (intOf s).toNat)
    case atStart => exact ⟨0, by omega, rfl, by simp, Below.refl _ _⟩
    case round =>
      obtain ⟨i, hi, rfl, htk, hbw⟩ := hrel
      rcases Nat.lt_or_eq_of_le hi with hlt | heq
      · have i0 : (0 : Int) ≤ (i : Int) := by omega
        have i1 : (i : Int) < (n : Int) := by omega
        obtain ⟨hn, hn'⟩ := HN.out
        obtain ⟨g, off, rfl, _, hc, hg⟩ := (HH.out.1.on hbw).get (by omega)
        obtain ⟨g', off', rfl, _, hc', hg'⟩ := (HH.out.2.on hbw).get (by omega)
        obtain ⟨a, ha⟩ : ∃ a, l[i]? = some a := ⟨_, List.getElem?_eq_getElem (by omega)⟩
        obtain ⟨b, hb⟩ : ∃ b, l'[i]? = some b := ⟨_, List.getElem?_eq_getElem (by omega)⟩
        have x1 := hg i a ha
        have x2 := hg' i b hb
        have HT := Lib.hid (And.intro (show l.take (i + 1) = l.take i ++ [a] by rw [List.take_add_one, ha]; rfl) (show l'.take (i + 1) = l'.take i ++ [b] by rw [List.take_add_one, hb]; rfl))
        rw [hn] at hc
        rw [hn'] at hc'
        have HI := Lib.hid (And.intro ha hb)
        have HTK := Lib.hid htk
        clear hg hg' ha hb hn hn' htk
        by_cases hab : a = b
        · subst hab
          go_wp2_with fail
          go_region
          go_wp2_with fail
          go_roundw
          case rel => exact ⟨i + 1, by omega, by go_num, by rw [HT.out.1, HT.out.2, HTK.out], Below.drew hbw⟩
          case measure => simp [intOf]; omega
        · have hab2 : ¬ ((a : Int) = (b : Int)) := by omega
          have hd : bb = false := HBB.out.symm.trans (decide_eq_false fun e => by
            subst e
            have := HI.out.1.symm.trans HI.out.2
            injection this with this
            exact hab this)
          subst hd
          go_wp2_with fail
          go_region
          go_wp2
          go_returns
          exact ⟨rfl, Below.drew hbw⟩
      · subst heq
        have hd : bb = true := HBB.out.symm.trans (decide_eq_true (by
          have h1 := HN.out
          rw [List.take_of_length_le (by omega), List.take_of_length_le (by omega)] at htk
          exact htk))
        subst hd
        clear htk
        go_wp2
        go_returns
        exact ⟨rfl, hbw⟩
  · have hd : bb = false := HBB.out.symm.trans (decide_eq_false fun e => he (by rw [← hn, ← hn', e]))
    subst hd
    have he2 : ¬ ((n : Int) = (n' : Int)) := by omega
    clear hn hn' h h'
    go_enter Tryz.func36, Tryz.ntmps36
    go_wp2
    go_returns
    exact ⟨rfl, Below.refl _ _⟩
/-! ### The reader after an error -/
set_option maxRecDepth 100000 in
set_option maxHeartbeats 1600000 in
theorem rUintE (r : Nat) (l : List Nat) (e0 : Int) (w : World) (h : RAt r l e0 w) (he : e0 ≠ 0) :
    Calls Tryz.prog 88 #[.pointer (some ⟨r, 0, none⟩)] w fun e w' => e = .returned (.int .u64 0) ∧ w' = w := by
  obtain ⟨A, c, hO, hB⟩ := h
  have c1 := hO.c1
  clear hO hB
  go_enter Tryz.func88, Tryz.ntmps88
  go_wp2_with fail
  go_loopw [4] (fun s wr => s = .int .i64 0 ∧ wr = w) (fun _ _ => 0)
  case atStart => exact ⟨rfl, rfl⟩
  case round =>
    obtain ⟨rfl, rfl⟩ := hrel
    go_wp2
    go_returns
    exact ⟨rfl, rfl⟩
set_option maxRecDepth 100000 in
set_option maxHeartbeats 1600000 in
theorem rListE (r : Nat) (l : List Nat) (e0 : Int) (w : World) (h : RAt r l e0 w) (he : e0 ≠ 0) :
    Calls Tryz.prog 61 #[.pointer (some ⟨r, 0, none⟩), .func (.func 62) #[.pointer (some ⟨r, 0, none⟩)] #[]] w fun e w' => e = .returned (.slice none 0 0) ∧ w' = w := by
  obtain ⟨A, c, hO, hB⟩ := id h
  have c0 := hO.c0
  have c1 := hO.c1
  have m0 : ¬ (l.length : Int) < 0 := by omega
  have m1 : (l.length : Int) ≤ 9223372036854775807 ∨ 9223372036854775807 < (l.length : Int) := by omega
  clear hO hB
  go_enter Tryz.func61, Tryz.ntmps61
  go_wp2_with fail
  refine (rUintE r l e0 w h he).mono ?_
  rintro e w1 ⟨rfl, e_⟩
  subst e_
  have mw : ¬ IntKind.u64.wrap (l.length : Int) < 0 := by
    rw [IntKind.wrap_u64]
    omega
  go_wp2_with fail
  go_loopw [6, 7] (fun s s7 wr => s = .slice none 0 0 ∧ s7 = .int .u64 0 ∧ wr = w1) (fun _ _ _ => 0)
  case atStart => exact ⟨rfl, rfl, rfl⟩
  case round =>
    obtain ⟨rfl, rfl, rfl⟩ := hrel
    go_wp2
    go_returns
    exact ⟨rfl, rfl⟩
/-- What is read from a reader that holds l and the error e0. -/
def rle (e0 : Int) (l : List Nat) : List Nat × List Nat × Int := if e0 = 0 then rl l else ([], l, e0)
set_option maxRecDepth 100000 in
set_option maxHeartbeats 1600000 in
theorem rRawA (r : Nat) (l : List Nat) (e0 : Int) (w : World) (h : RAt r l e0 w) (hb : ∀ c ∈ l, c < 256) (hl : l.length ≤ 100000000000000) :
    Calls Tryz.prog 34 #[.pointer (some ⟨r, 0, none⟩)] w fun e w' => ∃ A c, e = .returned (.slice A (rle e0 l).1.length c) ∧ BIs w' w'.heap.size A c (rle e0 l).1 ∧ RAt r (rle e0 l).2.1 (rle e0 l).2.2 w' ∧ At1 r w w' := by
  by_cases he : e0 = 0
  · subst he
    exact rRaw r l w h hb hl
  · have e1 : rle e0 l = ([], l, e0) := if_neg he
    rw [e1]
    have HR := Lib.hid h
    go_enter Tryz.func34, Tryz.ntmps34
    go_wp2_with fail
    refine (rListE r l e0 w h he).mono ?_
    rintro e w1 ⟨rfl, e_⟩
    subst e_
    clear h
    go_wp2
    go_returns
    exact ⟨none, 0, rfl, .inl ⟨rfl, rfl, rfl⟩, HR.out, At1.refl _ _⟩
theorem rl_len (l : List Nat) : (rl l).1.length ≤ l.length ∧ (rl l).2.1.length ≤ l.length ∧ ∀ c ∈ (rl l).2.1, c ∈ l := by
  obtain ⟨h1, h2, h3⟩ := ru_len l 0 0
  unfold rl
  split
  · exact ⟨by simp, h1, h3⟩
  · split
    · exact ⟨by simp, h1, h3⟩
    · refine ⟨?_, ?_, fun c hc => h3 c (List.mem_of_mem_drop hc)⟩
      · simp only [List.length_take]; omega
      · simp only [List.length_drop]; omega
theorem rle_len (e0 : Int) (l : List Nat) : (rle e0 l).1.length ≤ l.length ∧ (rle e0 l).2.1.length ≤ l.length ∧ ∀ c ∈ (rle e0 l).2.1, c ∈ l := by
  unfold rle
  split
  · exact rl_len l
  · exact ⟨by simp, Nat.le_refl _, fun c h => h⟩
/-- The words (u32) that were there are as they were. -/
structure KeepsU (w w' : World) : Prop where
  size : w.heap.size ≤ w'.heap.size
  cell : ∀ p n, w.cell? p = some (.int .u32 n) → w'.cell? p = some (.int .u32 n)
theorem WI.keepsU {w w' : World} {neg : Bool} {A : Option Addr} {n c : Nat} {z : Int} (h : WI w neg A n c z) (k : KeepsU w w') : WI w' neg A n c z := by
  obtain ⟨l, h1, h2, h3, h4⟩ := h
  refine ⟨l, h1, h2, ⟨fun hn => ?_, h3.ws, h3.nz, h3.cap, h3.mx⟩, h4⟩
  obtain ⟨g, off, e, hg, hc⟩ := h3.sl hn
  refine ⟨g, off, e, Nat.lt_of_lt_of_le hg k.size, fun i x hx => ?_⟩
  have h5 := hc i x hx
  obtain ⟨y, _, rfl⟩ := List.mem_map.1 (List.mem_of_getElem? hx)
  exact k.cell _ _ h5
theorem FR.keepsU {f : FV} {w w' : World} {r : Rat} (h : FR f w r) (k : KeepsU w w') : FR f w' r := ⟨WI.keepsU h.num k, WI.keepsU h.less k, h.pos, h.fits, h.cop⟩
theorem RAt.keepsU {r : Nat} {l : List Nat} {e : Int} {w w' : World} (h : RAt r l e w) (k : At1 r w w') : KeepsU w w' := by
  refine ⟨k.size, fun p n hp => ?_⟩
  by_cases hr : p.block = r
  · obtain ⟨A, c, hO, _⟩ := h
    obtain ⟨pb, po, ps⟩ := p
    simp only at hr
    subst hr
    cases ps with
    | some s =>
      have h0 : w.heap[pb]? = _ := hO
      simp [World.cell?, h0] at hp
    | none =>
      match po, hp with
      | 0, hp => rw [hO.c0] at hp; cases hp
      | 1, hp => rw [hO.c1] at hp; cases hp
      | j + 2, hp => rw [hO.cell] at hp; simp at hp
  · rw [k.cell hp (fun e => hr (by cases e; rfl))]
/-! ### Decode -/
def txB (l : List Nat) : List UInt8 := l.map UInt8.ofNat
theorem strB_size (l : List Nat) : (strB l).size = l.length := by simp [strB, ByteArray.size]
theorem strB_tx (l : List Nat) : (strB l).data.toList = txB l := rfl
def decX (l : List Nat) : Rat × Int := parR (txB (rl l).1)
def decS (l : List Nat) : List Nat × List Nat × Int := rle (rl l).2.2 (rl l).2.1
def decY (l : List Nat) : Rat × Int := parR (txB (decS l).1)
def decE (l : List Nat) : Int := if (decS l).2.2 = 0 then (if (decS l).2.1 = [] then 0 else 2) else (decS l).2.2
def decB (l : List Nat) : Bool := decide (encP (rtext (decX l).1) (rtext (decY l).1) = l)
/-- What Decode gives: two coordinates, an error. -/
def decR (l : List Nat) : Rat × Rat × Int := if (decX l).2 = 0 ∧ (decY l).2 = 0 ∧ decE l = 0 ∧ decB l = true then ((decX l).1, (decY l).1, 0) else (0, 0, 2)
theorem decR_err (l : List Nat) : (decR l = (0, 0, 2)) ∨ ((decR l).2.2 = 0 ∧ encP (rtext (decR l).1) (rtext (decR l).2.1) = l) := by
  unfold decR
  split
  · rename_i h
    exact .inr ⟨rfl, of_decide_eq_true h.2.2.2⟩
  · exact .inl rfl
theorem txB_nb (l : List UInt8) : txB (nb l) = l := by
  unfold txB nb
  rw [List.map_map]
  conv => rhs; rw [← List.map_id l]
  exact List.map_congr_left fun x _ => by simp
theorem decR_enc {a b : Rat} (ha : a.num.natAbs < top ∧ (a.den : Int).natAbs < top) (hb : b.num.natAbs < top ∧ (b.den : Int).natAbs < top) : decR (encP (rtext a) (rtext b)) = (a, b, 0) := by
  have l1 : (rtext a).length ≤ 10001 := ftext_len ha.1 ha.2
  have l2 : (rtext b).length ≤ 10001 := ftext_len hb.1 hb.2
  obtain ⟨h1, h2⟩ := encP_read (rtext a) (rtext b) (by omega) (by omega)
  have e1 : decX (encP (rtext a) (rtext b)) = (a, 0) := by
    unfold decX
    rw [h1]
    simp only [txB_nb]
    exact parR_text ha.1 ha.2
  have e2 : decS (encP (rtext a) (rtext b)) = (nb (rtext b), [], 0) := by
    unfold decS rle
    rw [h1]
    simp [h2]
  have e3 : decY (encP (rtext a) (rtext b)) = (b, 0) := by
    unfold decY
    rw [e2]
    simp only [txB_nb]
    exact parR_text hb.1 hb.2
  have e4 : decE (encP (rtext a) (rtext b)) = 0 := by
    unfold decE
    rw [e2]
    rfl
  have e5 : decB (encP (rtext a) (rtext b)) = true := by
    unfold decB
    rw [e1, e3]
    simp
  unfold decR
  rw [e1, e3, e4, e5]
  simp
/-- A point and an error are returned. -/
def RetPE (w : World) (x y : Rat) (er : Int) (e : Ending) (w' : World) : Prop := ∃ a : PV, e = .returned (.tuple #[.agg #[.bool a.x.p.neg, .slice a.x.p.A a.x.p.n a.x.p.c, .bool a.x.l.neg, .slice a.x.l.A a.x.l.n a.x.l.c, .bool a.y.p.neg, .slice a.y.p.A a.y.p.n a.y.p.c, .bool a.y.l.neg, .slice a.y.l.A a.y.l.n a.y.l.c], .int .i64 er]) ∧ Below w.heap.size w w' ∧ a.is w' x.num x.den y.num y.den
theorem pv_fr {a : PV} {w : World} {x y : Rat} (h1 : FR a.x w x) (h2 : FR a.y w y) : a.is w x.num x.den y.num y.den := ⟨h1, h2⟩
set_option maxRecDepth 100000 in
set_option maxHeartbeats 6400000 in
theorem Decode_any (A : Option Addr) (c : Nat) (l : List Nat) (w : World) (h : BIs w w.heap.size A c l) (hb : ∀ c ∈ l, c < 256) (hl : l.length ≤ 100000) (ht : Tab w) :
    Calls Tryz.prog 14 #[.slice A l.length c] w (RetPE w (decR l).1 (decR l).2.1 (decR l).2.2) := by
  obtain ⟨p1, p2, p3⟩ := rl_len l
  obtain ⟨r1, r2, r3⟩ := rle_len (rl l).2.2 (rl l).2.1
  have hb2 : ∀ c ∈ (rl l).2.1, c < 256 := fun c hc => hb c (p3 c hc)
  obtain ⟨m1, hm1⟩ : ∃ x, (rl l).1 = x := ⟨_, rfl⟩
  obtain ⟨l2, hl2⟩ : ∃ x, (rl l).2.1 = x := ⟨_, rfl⟩
  obtain ⟨e2, he2⟩ : ∃ x, (rl l).2.2 = x := ⟨_, rfl⟩
  have hS : decS l = rle e2 l2 := by unfold decS; rw [hl2, he2]
  rw [hl2, he2] at r1 r2 r3
  rw [hl2] at hb2 p2
  obtain ⟨m2, hm2⟩ : ∃ x, (rle e2 l2).1 = x := ⟨_, rfl⟩
  obtain ⟨l3, hl3⟩ : ∃ x, (rle e2 l2).2.1 = x := ⟨_, rfl⟩
  obtain ⟨e3, he3⟩ : ∃ x, (rle e2 l2).2.2 = x := ⟨_, rfl⟩
  have hX : decX l = parR (txB m1) := by unfold decX; rw [hm1]
  have hY : decY l = parR (txB m2) := by unfold decY; rw [hS, hm2]
  have hE : decE l = if e3 = 0 then (if l3 = [] then 0 else 2) else e3 := by unfold decE; rw [hS, hl3, he3]
  rw [hm1] at p1
  rw [hm2] at r1
  rw [hl3] at r2
  obtain ⟨⟨x, ex⟩, hx⟩ : ∃ x, parR (txB m1) = x := ⟨_, rfl⟩
  obtain ⟨⟨y, ey⟩, hy⟩ : ∃ x, parR (txB m2) = x := ⟨_, rfl⟩
  rw [hx] at hX
  rw [hy] at hY
  obtain ⟨en, hen⟩ : ∃ en : Int, (if e3 = 0 then (if l3 = [] then 0 else 2) else e3) = en := ⟨_, rfl⟩
  rw [hen] at hE
  obtain ⟨sm, hsm⟩ : ∃ s : Bool, decide (encP (rtext x) (rtext y) = l) = s := ⟨_, rfl⟩
  have hR0 : decR l = if ex = 0 ∧ ey = 0 ∧ en = 0 ∧ sm = true then (x, y, 0) else (0, 0, 2) := by unfold decR decB; rw [hX, hY, hE]; simp only; rw [hsm]
  have HP1 : Hid (∀ u, Tab u → Calls Tryz.prog 33 #[.string (strB m1)] u (RetFRE u x ex)) := Lib.hid fun u hT => by
    have := ParseF_any (strB m1) (by rw [strB_size]; omega) u hT
    rwa [strB_tx, hx] at this
  have HP2 : Hid (∀ u, Tab u → Calls Tryz.prog 33 #[.string (strB m2)] u (RetFRE u y ey)) := Lib.hid fun u hT => by
    have := ParseF_any (strB m2) (by rw [strB_size]; omega) u hT
    rwa [strB_tx, hy] at this
  have HW1 : Hid (∀ u r, RAt r l 0 u → Calls Tryz.prog 34 #[.pointer (some ⟨r, 0, none⟩)] u fun e w' => ∃ A c, e = .returned (.slice A m1.length c) ∧ BIs w' w'.heap.size A c m1 ∧ RAt r l2 e2 w' ∧ At1 r u w') := Lib.hid fun u r h => by
    have := rRaw r l u h hb (by omega)
    unfold ListPost at this
    rwa [hm1, hl2, he2] at this
  have HW2 : Hid (∀ u r, RAt r l2 e2 u → Calls Tryz.prog 34 #[.pointer (some ⟨r, 0, none⟩)] u fun e w' => ∃ A c, e = .returned (.slice A m2.length c) ∧ BIs w' w'.heap.size A c m2 ∧ RAt r l3 e3 w' ∧ At1 r u w') := Lib.hid fun u r h => by
    have := rRawA r l2 e2 u h hb2 (by omega)
    rwa [hm2, hl3, he3] at this
  have HN : Hid (∀ u r, RAt r l3 e3 u → Calls Tryz.prog 35 #[.pointer (some ⟨r, 0, none⟩)] u fun e w' => e = .returned (.int .i64 en) ∧ w' = u) := Lib.hid fun u r h => by
    have := rEnd r l3 e3 u h (by omega)
    rwa [hen] at this
  have hxx : ex = 0 ∨ ex = 2 := by
    have := parR_err (txB m1)
    rw [hx] at this
    rcases this with h | h
    · exact .inl h.1
    · exact .inr h.1
  obtain ⟨L9, hL9⟩ : ∃ L, encP (rtext x) (rtext y) = L := ⟨_, rfl⟩
  rw [hL9] at hsm
  have HQ : Hid (∀ (p : Option Addr × Nat) u, BIs u u.heap.size p.1 p.2 L9 → BIs u u.heap.size A c l → L9.length ≤ 1000000 → Calls Tryz.prog 36 #[.slice p.1 L9.length p.2, .slice A l.length c] u (RetB u sm)) := Lib.hid fun p u h1 h2 h3 => by
    rw [← hsm]
    exact SlEqual_any p.1 A p.2 c L9 l u h1 h2 (by omega) (by omega)
  have HEn : Hid (∀ (a : PV) u, a.is u x.num x.den y.num y.den → Tab u → Calls Tryz.prog 9 #[.agg #[.bool a.x.p.neg, .slice a.x.p.A a.x.p.n a.x.p.c, .bool a.x.l.neg, .slice a.x.l.A a.x.l.n a.x.l.c, .bool a.y.p.neg, .slice a.y.p.A a.y.p.n a.y.p.c, .bool a.y.l.neg, .slice a.y.l.A a.y.l.n a.y.l.c]] u (RetBI u L9) ∧ L9.length ≤ 1000000) := Lib.hid fun a u h1 h2 => by
    rw [← hL9]
    exact ⟨Encode_any h1 h2, Nat.le_trans (encP_len h1.x.num.fits h1.x.fits h1.y.num.fits h1.y.fits) (by omega)⟩
  have hlen : l.length ≤ 140737488355328 := by omega
  have HR0 := Lib.hid hR0
  clear hm1 hl2 he2 hS hm2 hl3 he3 hX hY hE hx hy hen hsm hR0 p1 p2 p3 r1 r2 r3 hb hb2 hl hL9
  go_enter Tryz.func14, Tryz.ntmps14
  go_upto_region 1 with fail
  refine wp_new1 fun W0 hO hB => ?_
  obtain ⟨g0, eg⟩ : ∃ g0, g0 = w.heap.size := ⟨_, rfl⟩
  rw [← eg] at hO ⊢
  have hg0 : w.heap.size ≤ g0 := by omega
  have hgW : g0 < W0.heap.size := hO.lt
  replace hO : Own W0 g0 _ z8 := hO
  replace h := (h.on hB).mono hB.size
  replace ht := ht.on hB
  clear eg
  go_wp2_with fail
  refine (wRead A c l _ h hlen).mono ?_
  rintro e w1 ⟨r, rfl, hr, hR, k1⟩
  have hgr : g0 ≠ r := by omega
  replace hO := hO.on k1
  replace h := (h.on k1).mono hr
  have hBW := k1
  clear k1
  have hrl := hR.lt
  go_wp2_with fail
  refine (HW1.out _ _ hR).mono ?_
  rintro e w2 ⟨A1, c1, rfl, hb1, hR1, k1⟩
  have hcv : (convert 36 9 (.slice A1 m1.length c1)).run Tryz.prog w2 = .ok (.string (strB m1)) w2 := conv_bis hb1
  have kb := k1.below (Nat.le_of_lt hrl)
  replace h := h.on kb
  replace hO := hO.at1 k1 hgr
  replace hBW := hBW.trans (kb.mono hr)
  replace hrl := hR1.lt
  clear kb k1 hR hb1 HW1
  have hT := ht.on hBW
  go_wp2_with fail
  refine (HP1.out _ hT).mono ?_
  rintro e w3 ⟨fx, rfl, k2, hfx⟩
  go_upto_region 3 with fail
  refine wp_new1 fun w4 hX k3 => ?_
  have kk := Below.call k2 k3
  have hgX : w3.heap.size ≠ r := by have := k2.size; omega
  obtain ⟨gX, egX⟩ : ∃ g, g = w3.heap.size := ⟨_, rfl⟩
  rw [← egX] at hX hgX ⊢
  replace hR1 := hR1.on kk
  replace hO := hO.on kk
  replace h := h.on (kk.mono (Nat.le_of_lt hrl))
  replace hBW := hBW.trans (kk.mono (Nat.le_of_lt (Nat.lt_of_le_of_lt hr hrl)))
  replace hfx := hfx.on k3
  replace hrl := hR1.lt
  clear kk k2 k3 hT HP1 egX hcv
  go_wp2_with fail
  refine (HW2.out _ _ hR1).mono ?_
  rintro e w5 ⟨A2, c2, rfl, hb2, hR2, k1⟩
  have hcv : (convert 36 9 (.slice A2 m2.length c2)).run Tryz.prog w5 = .ok (.string (strB m2)) w5 := conv_bis hb2
  have kb := k1.below (Nat.le_of_lt hrl)
  replace h := h.on kb
  replace hO := hO.at1 k1 hgr
  replace hX := hX.at1 k1 hgX
  replace hfx := hfx.keepsU (hR1.keepsU k1)
  replace hBW := hBW.trans (kb.mono hr)
  replace hrl := hR2.lt
  clear kb k1 hR1 hb2 HW2
  have hT := ht.on hBW
  go_wp2_with fail
  refine (HP2.out _ hT).mono ?_
  rintro e w6 ⟨fy, rfl, k2, hfy⟩
  go_upto_region 4 with fail
  refine wp_new1 fun w7 hY k3 => ?_
  have kk := Below.call k2 k3
  replace hR2 := hR2.on kk
  replace hO := hO.on kk
  replace hX := hX.on kk
  replace h := h.on (kk.mono (Nat.le_of_lt hrl))
  replace hBW := hBW.trans (kk.mono (Nat.le_of_lt (Nat.lt_of_le_of_lt hr hrl)))
  replace hfx := hfx.on kk
  replace hfy := hfy.on k3
  replace hrl := hR2.lt
  clear kk k2 k3 hT HP2 hcv
  obtain ⟨x0, x1, x2, x3, _⟩ := hX.all4
  obtain ⟨y0, y1, y2, y3, _⟩ := hY.all4
  go_upto_region 5 with fail
  refine wp_new1 fun w8 hP k3 => ?_
  replace hR2 := hR2.on k3
  replace hO := hO.on k3
  replace h := h.on (k3.mono (Nat.le_of_lt hrl))
  replace hBW := Below.call hBW k3
  replace hfx := hfx.on k3
  replace hfy := hfy.on k3
  have hT := ht.on hBW
  have hB8 := Below.call hB hBW
  have hz : PV.zero.is w8 (0 : Rat).num (0 : Rat).den (0 : Rat).num (0 : Rat).den := PV.zero_is w8
  replace h := h.mono (Nat.le_of_lt hR2.lt)
  clear x0 x1 x2 x3 y0 y1 y2 y3 hX hY k3 hBW hB hr hgr ht hrl hgW
  by_cases q1 : ex = 0
  · subst q1
    by_cases q2 : ey = 0
    · subst q2
      go_wp2_with fail
      refine (HN.out _ _ hR2).mono ?_
      rintro e w9 ⟨rfl, e_⟩
      subst e_
      by_cases q3 : en = 0
      · subst q3
        obtain ⟨l0, l1, l2_, l3_, l4, l5, l6, l7, _⟩ := hP.all8
        go_wp2_with fail
        refine (HEn.out ⟨fx, fy⟩ _ (pv_fr hfx hfy) hT).1.mono ?_
        rintro e wa ⟨A9, c9, rfl, h9, ka⟩
        have hL := (HEn.out ⟨fx, fy⟩ _ (pv_fr hfx hfy) hT).2
        replace h := (h.on ka).mono ka.size
        replace hO := hO.on ka
        replace hP := hP.on ka
        have hB9 := Below.call hB8 ka
        replace hfx := hfx.on ka
        replace hfy := hfy.on ka
        clear l0 l1 l2_ l3_ l4 l5 l6 l7 hR2 hz hT hB8 HN HEn ka
        go_wp2_with fail
        refine (HQ.out ⟨A9, c9⟩ _ h9 h hL).mono ?_
        rintro e wb ⟨rfl, ka⟩
        replace hO := hO.on ka
        replace hP := hP.on ka
        have hB7 := Below.call hB9 ka
        replace hfx := hfx.on ka
        replace hfy := hfy.on ka
        have hpv := pv_fr (a := ⟨fx, fy⟩) hfx hfy
        have hz : PV.zero.is wb (0 : Rat).num (0 : Rat).den (0 : Rat).num (0 : Rat).den := PV.zero_is wb
        clear h h9 hL HQ ka hB9 hfx hfy
        cases sm
        · have HR := Lib.hid (HR0.out.trans (if_neg (by simp)))
          clear hP hpv
          obtain ⟨z0, z1, z2, z3, z4, z5, z6, z7, f0, f1, f2, f3, f4, f5, f6, f7⟩ := hO.all8
          have HF : Hid (RetPE w 0 0 2 (.returned (.tuple #[.agg #[.bool PV.zero.x.p.neg, .slice PV.zero.x.p.A PV.zero.x.p.n PV.zero.x.p.c, .bool PV.zero.x.l.neg, .slice PV.zero.x.l.A PV.zero.x.l.n PV.zero.x.l.c, .bool PV.zero.y.p.neg, .slice PV.zero.y.p.A PV.zero.y.p.n PV.zero.y.p.c, .bool PV.zero.y.l.neg, .slice PV.zero.y.l.A PV.zero.y.l.n PV.zero.y.l.c], .int .i64 2])) (putP _ g0 PV.zero)) := Lib.hid ⟨PV.zero, rfl, Below.putP hB7 hg0, PV.is.putP (b := PV.zero) hz hO⟩
          obtain ⟨q0, q1, q2, q3, q4, q5, q6, q7, _⟩ := (hO.putP (a := PV.zero)).all8
          simp only [PV.zero, FV.zero, IV.zero] at q0 q1 q2 q3 q4 q5 q6 q7
          clear hO hz
          go_wp2
          exact bodyPost_ret (v := .tuple #[.agg #[.bool PV.zero.x.p.neg, .slice PV.zero.x.p.A PV.zero.x.p.n PV.zero.x.p.c, .bool PV.zero.x.l.neg, .slice PV.zero.x.l.A PV.zero.x.l.n PV.zero.x.l.c, .bool PV.zero.y.p.neg, .slice PV.zero.y.p.A PV.zero.y.p.n PV.zero.y.p.c, .bool PV.zero.y.l.neg, .slice PV.zero.y.l.A PV.zero.y.l.n PV.zero.y.l.c], .int .i64 2]) (by simp [results, Tryz.results14, go_sem, q0, q1, q2, q3, q4, q5, q6, q7, PV.zero, FV.zero, IV.zero]) rfl (by rw [HR.out]; exact HF.out)
        · have HR := Lib.hid (HR0.out.trans (if_pos (by simp)))
          obtain ⟨l0, l1, l2_, l3_, l4, l5, l6, l7, _⟩ := hP.all8
          clear hz
          obtain ⟨z0, z1, z2, z3, z4, z5, z6, z7, f0, f1, f2, f3, f4, f5, f6, f7⟩ := hO.all8
          have HF : Hid (RetPE w x y 0 (.returned (.tuple #[.agg #[.bool (⟨fx,fy⟩:PV).x.p.neg, .slice (⟨fx,fy⟩:PV).x.p.A (⟨fx,fy⟩:PV).x.p.n (⟨fx,fy⟩:PV).x.p.c, .bool (⟨fx,fy⟩:PV).x.l.neg, .slice (⟨fx,fy⟩:PV).x.l.A (⟨fx,fy⟩:PV).x.l.n (⟨fx,fy⟩:PV).x.l.c, .bool (⟨fx,fy⟩:PV).y.p.neg, .slice (⟨fx,fy⟩:PV).y.p.A (⟨fx,fy⟩:PV).y.p.n (⟨fx,fy⟩:PV).y.p.c, .bool (⟨fx,fy⟩:PV).y.l.neg, .slice (⟨fx,fy⟩:PV).y.l.A (⟨fx,fy⟩:PV).y.l.n (⟨fx,fy⟩:PV).y.l.c], .int .i64 0])) (putP _ g0 (⟨fx,fy⟩:PV))) := Lib.hid ⟨(⟨fx,fy⟩:PV), rfl, Below.putP hB7 hg0, PV.is.putP (b := (⟨fx,fy⟩:PV)) hpv hO⟩
          obtain ⟨q0, q1, q2, q3, q4, q5, q6, q7, _⟩ := (hO.putP (a := (⟨fx,fy⟩:PV))).all8
          clear hO hpv
          go_wp2
          exact bodyPost_ret (v := .tuple #[.agg #[.bool (⟨fx,fy⟩:PV).x.p.neg, .slice (⟨fx,fy⟩:PV).x.p.A (⟨fx,fy⟩:PV).x.p.n (⟨fx,fy⟩:PV).x.p.c, .bool (⟨fx,fy⟩:PV).x.l.neg, .slice (⟨fx,fy⟩:PV).x.l.A (⟨fx,fy⟩:PV).x.l.n (⟨fx,fy⟩:PV).x.l.c, .bool (⟨fx,fy⟩:PV).y.p.neg, .slice (⟨fx,fy⟩:PV).y.p.A (⟨fx,fy⟩:PV).y.p.n (⟨fx,fy⟩:PV).y.p.c, .bool (⟨fx,fy⟩:PV).y.l.neg, .slice (⟨fx,fy⟩:PV).y.l.A (⟨fx,fy⟩:PV).y.l.n (⟨fx,fy⟩:PV).y.l.c], .int .i64 0]) (by simp [results, Tryz.results14, go_sem, q0, q1, q2, q3, q4, q5, q6, q7]) rfl (by rw [HR.out]; exact HF.out)
      · have HR := Lib.hid (HR0.out.trans (if_neg (by simp [q3])))
        clear hP hR2 hfx hfy h
        obtain ⟨z0, z1, z2, z3, z4, z5, z6, z7, f0, f1, f2, f3, f4, f5, f6, f7⟩ := hO.all8
        have HF : Hid (RetPE w 0 0 2 (.returned (.tuple #[.agg #[.bool PV.zero.x.p.neg, .slice PV.zero.x.p.A PV.zero.x.p.n PV.zero.x.p.c, .bool PV.zero.x.l.neg, .slice PV.zero.x.l.A PV.zero.x.l.n PV.zero.x.l.c, .bool PV.zero.y.p.neg, .slice PV.zero.y.p.A PV.zero.y.p.n PV.zero.y.p.c, .bool PV.zero.y.l.neg, .slice PV.zero.y.l.A PV.zero.y.l.n PV.zero.y.l.c], .int .i64 2])) (putP _ g0 PV.zero)) := Lib.hid ⟨PV.zero, rfl, Below.putP hB8 hg0, PV.is.putP (b := PV.zero) hz hO⟩
        obtain ⟨q0, q1, q2, q3, q4, q5, q6, q7, _⟩ := (hO.putP (a := PV.zero)).all8
        simp only [PV.zero, FV.zero, IV.zero] at q0 q1 q2 q3 q4 q5 q6 q7
        clear hO hz
        go_wp2
        exact bodyPost_ret (v := .tuple #[.agg #[.bool PV.zero.x.p.neg, .slice PV.zero.x.p.A PV.zero.x.p.n PV.zero.x.p.c, .bool PV.zero.x.l.neg, .slice PV.zero.x.l.A PV.zero.x.l.n PV.zero.x.l.c, .bool PV.zero.y.p.neg, .slice PV.zero.y.p.A PV.zero.y.p.n PV.zero.y.p.c, .bool PV.zero.y.l.neg, .slice PV.zero.y.l.A PV.zero.y.l.n PV.zero.y.l.c], .int .i64 2]) (by simp [results, Tryz.results14, go_sem, q0, q1, q2, q3, q4, q5, q6, q7, PV.zero, FV.zero, IV.zero]) rfl (by rw [HR.out]; exact HF.out)
    · have HR := Lib.hid (HR0.out.trans (if_neg (by simp [q2])))
      clear hP hR2 hfx hfy h
      obtain ⟨z0, z1, z2, z3, z4, z5, z6, z7, f0, f1, f2, f3, f4, f5, f6, f7⟩ := hO.all8
      have HF : Hid (RetPE w 0 0 2 (.returned (.tuple #[.agg #[.bool PV.zero.x.p.neg, .slice PV.zero.x.p.A PV.zero.x.p.n PV.zero.x.p.c, .bool PV.zero.x.l.neg, .slice PV.zero.x.l.A PV.zero.x.l.n PV.zero.x.l.c, .bool PV.zero.y.p.neg, .slice PV.zero.y.p.A PV.zero.y.p.n PV.zero.y.p.c, .bool PV.zero.y.l.neg, .slice PV.zero.y.l.A PV.zero.y.l.n PV.zero.y.l.c], .int .i64 2])) (putP _ g0 PV.zero)) := Lib.hid ⟨PV.zero, rfl, Below.putP hB8 hg0, PV.is.putP (b := PV.zero) hz hO⟩
      obtain ⟨q0, q1, q2, q3, q4, q5, q6, q7, _⟩ := (hO.putP (a := PV.zero)).all8
      simp only [PV.zero, FV.zero, IV.zero] at q0 q1 q2 q3 q4 q5 q6 q7
      clear hO hz
      go_wp2
      exact bodyPost_ret (v := .tuple #[.agg #[.bool PV.zero.x.p.neg, .slice PV.zero.x.p.A PV.zero.x.p.n PV.zero.x.p.c, .bool PV.zero.x.l.neg, .slice PV.zero.x.l.A PV.zero.x.l.n PV.zero.x.l.c, .bool PV.zero.y.p.neg, .slice PV.zero.y.p.A PV.zero.y.p.n PV.zero.y.p.c, .bool PV.zero.y.l.neg, .slice PV.zero.y.l.A PV.zero.y.l.n PV.zero.y.l.c], .int .i64 2]) (by simp [results, Tryz.results14, go_sem, q0, q1, q2, q3, q4, q5, q6, q7, PV.zero, FV.zero, IV.zero]) rfl (by rw [HR.out]; exact HF.out)
  · have HR := Lib.hid (HR0.out.trans (if_neg (by simp [q1])))
    clear hP hR2 hfx hfy h
    obtain ⟨z0, z1, z2, z3, z4, z5, z6, z7, f0, f1, f2, f3, f4, f5, f6, f7⟩ := hO.all8
    have HF : Hid (RetPE w 0 0 2 (.returned (.tuple #[.agg #[.bool PV.zero.x.p.neg, .slice PV.zero.x.p.A PV.zero.x.p.n PV.zero.x.p.c, .bool PV.zero.x.l.neg, .slice PV.zero.x.l.A PV.zero.x.l.n PV.zero.x.l.c, .bool PV.zero.y.p.neg, .slice PV.zero.y.p.A PV.zero.y.p.n PV.zero.y.p.c, .bool PV.zero.y.l.neg, .slice PV.zero.y.l.A PV.zero.y.l.n PV.zero.y.l.c], .int .i64 2])) (putP _ g0 PV.zero)) := Lib.hid ⟨PV.zero, rfl, Below.putP hB8 hg0, PV.is.putP (b := PV.zero) hz hO⟩
    obtain ⟨q0, q1, q2, q3, q4, q5, q6, q7, _⟩ := (hO.putP (a := PV.zero)).all8
    simp only [PV.zero, FV.zero, IV.zero] at q0 q1 q2 q3 q4 q5 q6 q7
    clear hO hz
    go_wp2
    exact bodyPost_ret (v := .tuple #[.agg #[.bool PV.zero.x.p.neg, .slice PV.zero.x.p.A PV.zero.x.p.n PV.zero.x.p.c, .bool PV.zero.x.l.neg, .slice PV.zero.x.l.A PV.zero.x.l.n PV.zero.x.l.c, .bool PV.zero.y.p.neg, .slice PV.zero.y.p.A PV.zero.y.p.n PV.zero.y.p.c, .bool PV.zero.y.l.neg, .slice PV.zero.y.l.A PV.zero.y.l.n PV.zero.y.l.c], .int .i64 2]) (by simp [results, Tryz.results14, go_sem, q0, q1, q2, q3, q4, q5, q6, q7, PV.zero, FV.zero, IV.zero]) rfl (by rw [HR.out]; exact HF.out)
end Go.Proofs.YtfbbnphpapmpcaaGreatDoor
