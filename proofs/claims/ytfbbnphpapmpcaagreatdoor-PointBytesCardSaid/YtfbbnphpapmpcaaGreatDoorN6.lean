/-
  The law of regions that draw, with a step that may turn more: R alone need hold between two worlds. Rows of bytes whose spare cells are bytes.
-/
import Derived.Test.YtfbbnphpapmpcaaGreatDoorN3
namespace Go.Proofs.YtfbbnphpapmpcaaGreatDoor
open Go.RowKit Mag

section
variable {P : Program} {ops : Array Oper} {Q : Exit → Act → World → Prop} {a0 a : Act} {w : World} {W : World} {R : World → World → Prop} {S : List (Spec R)} {fr : List Oper}
def StepOKR {R : World → World → Prop} (fr : List Oper) (P : Program) (ops : Array Oper) (Q : Exit → Act → World → Prop) (W : World) (S : List (Spec R)) (a0 : Act) (o : Oper) (s : Spec R) : Prop :=
  ∀ a w, Below W.heap.size W w → FrameOK fr a0 a → DepsGot S ops a w o.after.toList → ∀ K : Act → World → Prop,
    (∀ v w', Below W.heap.size W w' → R w w' → s.p v w' → K (a.put o.dst v) w') →
    if Region.wanted o (yielded ops a.tmps) = true then Oper.wp P o a w K Q else K (a.put o.dst undef) w
def RegStepsR {R : World → World → Prop} (fr : List Oper) (P : Program) (ops : Array Oper) (Q : Exit → Act → World → Prop) (W : World) (S : List (Spec R)) (a0 : Act) : Nat → List Oper → List (Spec R) → Prop
  | _, [], _ => True
  | _, _ :: _, [] => False
  | i, o :: os, s :: ss => StepOKR fr P ops Q W S a0 o s ∧ RegStepsR fr P ops Q W S a0 (i + 1) os ss
theorem RegStepsR.cons {i : Nat} {o : Oper} {os : List Oper} {s : Spec R} {ss : List (Spec R)} (h : StepOKR fr P ops Q W S a0 o s) (k : RegStepsR fr P ops Q W S a0 (i + 1) os ss) : RegStepsR fr P ops Q W S a0 i (o :: os) (s :: ss) := ⟨h, k⟩
theorem RegStepsR.nil {i : Nat} {ss : List (Spec R)} : RegStepsR fr P ops Q W S a0 i [] ss := trivial
theorem RegStepsR.at_ : ∀ {os : List Oper} {ss : List (Spec R)} {n i : Nat} {o : Oper}, RegStepsR fr P ops Q W S a0 n os ss → os[i]? = some o → ∃ s, ss[i]? = some s ∧ StepOKR fr P ops Q W S a0 o s
  | [], _, _, i, o, _, h => by cases h
  | _ :: _, [], _, _, _, h, _ => h.elim
  | o :: os, s :: ss, n, 0, o', h, h' => by
    injection h' with h'
    subst h'
    exact ⟨s, rfl, h.1⟩
  | o :: os, s :: ss, n, i + 1, o', h, h' => by
    obtain ⟨s', h1, h2⟩ := RegStepsR.at_ (i := i) h.2 h'
    exact ⟨s', h1, h2⟩
theorem wp_region_suffixR {id : Nat} (W : World) (n : Nat) (S : List (Spec R)) (hm : P.follows .mixedOrders = true) (hB : slotsB a0.tmps.size ops = true) (hl : (ops.toList.take n).length = S.length)
    (ho : ((List.range ops.size).all fun k => ((ops[k]?).map fun o => o.after.toList.all fun e => !Region.binds .any e || decide (e.on < k)).getD true) = true) (hch : suffixB ops n = true)
    (hC : Below W.heap.size W w.drew) (hs : RegStepsR (ops.toList.take n) P ops Q W S a0 0 (ops.toList.take n) S)
    (he : ∀ w', Below W.heap.size W w' → FinOK (fun _ a w => TailOK P ops Q (ops.toList.drop n) a w) (ops.toList.take n) S a0 w') : (Code.region id ops true).wp P Q a0 w := by
  obtain ⟨hn, hc1, hc2⟩ := suffix_chain hch
  have hat : ∀ i, i < n → (ops.toList.take n)[i]? = ops[i]? := fun i hi => by
    rw [List.getElem?_take_of_lt hi, Array.getElem?_toList]
  refine region_inv hm (fun L a w => L.size = ops.size ∧ (∀ k o, ops[k]? = some o → done L k → ∀ m, waits o m = true → done L m) ∧
    ((∃ j, n < j ∧ j ≤ ops.size ∧ (∀ k, k < j → done L k) ∧ (∀ k, j ≤ k → ¬ done L k) ∧ TailOK P ops Q (ops.toList.drop j) a w) ∨
     (¬ done L n ∧ Below W.heap.size W w ∧ a.defers = a0.defers ∧ a.tmps.size = a0.tmps.size ∧ (∀ t, ((ops.toList.take n).all fun o => o.dst != some t) = true → a.tmps[t]? = a0.tmps[t]?) ∧ ∀ k, k < n → done L k → Got S ops a w k))) ?_ ?_ ?_
  · exact ⟨by simp, fun k o _ hd => absurd hd (done_none _ _), .inr ⟨done_none _ _, hC, rfl, rfl, fun _ _ => rfl, fun k _ hd => absurd hd (done_none _ _)⟩⟩
  · rintro L a w i ⟨h1, hcl, hJ⟩ hi
    obtain ⟨hlt, hnd, hdep⟩ := ready_spec hi
    have hoi : ops[i]? = some ops[i] := Array.getElem?_eq_getElem hlt
    have hw : ∀ k, waits ops[i] k = true → done L k := by
      intro k hk
      unfold waits at hk
      rw [List.any_eq_true] at hk
      obtain ⟨e, he, hk⟩ := hk
      rw [Bool.and_eq_true] at hk
      have hek : e.on = k := by simpa using hk.1
      rw [← hek]
      exact hdep _ hoi e (by simpa using he) hk.2
    have hcl' : ∀ k o, ops[k]? = some o → done (L.setIfInBounds i true) k → ∀ m, waits o m = true → done (L.setIfInBounds i true) m := by
      intro k o hok hd m hwm
      by_cases e : k = i
      · subst e
        rw [hoi] at hok
        injection hok with hok
        subst hok
        exact done_up (hw m hwm)
      · exact done_up (hcl k o hok (done_set hd (Ne.symm e)) m hwm)
    have hself : done (L.setIfInBounds i true) i := by
      unfold done
      rw [Array.getD_eq_getD_getElem?, Array.getElem?_setIfInBounds_self, if_pos (by omega)]
      rfl
    have hback : ∀ d k, k = n + d → k < ops.size → done L k → done L n := by
      intro d
      induction d with
      | zero => intro k hk _ hd; rw [← (by omega : k = n)]; exact hd
      | succ d ih =>
        intro k hk hks hd
        have hok : ops[k]? = some ops[k] := Array.getElem?_eq_getElem hks
        exact ih (k - 1) (by omega) (by omega) (hcl k _ hok hd _ (hc2 k _ (by omega) hok))
    rcases hJ with ⟨j, hj1, hj2, hall, hnone, ht⟩ | ⟨hnl, h2, h3, h4, h5, h6⟩
    · have hij : i = j := by
        rcases Nat.lt_trichotomy i j with h | h | h
        · exact absurd (hall i h) hnd
        · exact h
        · exact absurd (hw _ (hc2 i _ (by omega) hoi)) (hnone (i - 1) (by omega))
      subst hij
      have hd : ops.toList.drop i = ops[i] :: ops.toList.drop (i + 1) := by
        rw [List.drop_eq_getElem_cons (by simpa using hlt)]
        simp
      rw [hd] at ht
      refine wpOp_step hoi fun K hK => ht K fun a' w' hq => hK _ _ ⟨by simp [h1], hcl', .inl ⟨i + 1, by omega, by omega, fun k hk => ?_, fun k hk hdk => ?_, hq⟩⟩
      · by_cases e : k = i
        · rw [e]; exact hself
        · exact done_up (hall k (by omega))
      · exact hnone k (by omega) (done_set hdk (by omega))
    · by_cases hil : i = n
      · subst hil
        have hall : ∀ d k, k + d + 1 = i → done L k := by
          intro d
          induction d using Nat.strongRecOn with
          | ind d ih =>
            intro k hk
            obtain ⟨m, hm1, hm2, o, hom, hwm⟩ := hc1 k (by omega)
            by_cases e : m = i
            · subst e
              rw [hoi] at hom
              injection hom with hom
              subst hom
              exact hw k hwm
            · exact hcl m o hom (ih (i - m - 1) (by omega) m (by omega)) k hwm
        have hfin := FinOK.out (a := a) hl (he w h2) h5 h4 h3 (fun k o s hok hsk => by
            have hk : k < i := by
              rcases Nat.lt_or_ge k i with h | h
              · exact h
              · rw [List.getElem?_eq_none (by rw [List.length_take]; omega)] at hok; cases hok
            obtain ⟨v, o', s', ho', hs', ht', hp'⟩ := h6 k hk (hall (i - k - 1) k (by omega))
            rw [← hat k hk, hok] at ho'
            rw [hsk] at hs'
            injection ho' with ho'
            injection hs' with hs'
            subst ho' hs'
            exact ⟨v, ht', hp'⟩) (fun o ho t ht => by
            obtain ⟨k, hk⟩ := List.mem_iff_getElem?.1 ho
            have hkl : k < i := by
              rcases Nat.lt_or_ge k i with h | h
              · exact h
              · rw [List.getElem?_eq_none (by rw [List.length_take]; omega)] at hk; cases hk
            exact slots_lt hB (by rw [← hat k hkl]; exact hk) ht)
        have hd : ops.toList.drop i = ops[i] :: ops.toList.drop (i + 1) := by
          rw [List.drop_eq_getElem_cons (by simpa using hlt)]
          simp
        rw [hd] at hfin
        refine wpOp_step hoi fun K hK => hfin K fun a' w' hq => hK _ _ ⟨by simp [h1], hcl', .inl ⟨i + 1, by omega, by omega, fun k hk => ?_, fun k hk hdk => ?_, hq⟩⟩
        · by_cases e : k = i
          · rw [e]; exact hself
          · exact done_up (hall (i - k - 1) k (by omega))
        · have hdk' := done_set hdk (by omega)
          rcases Nat.lt_or_ge k ops.size with hks | hks
          · exact hnl (hback (k - i) k (by omega) hks hdk')
          · unfold done at hdk'
            rw [Array.getD_eq_getD_getElem?, Array.getElem?_eq_none (by omega)] at hdk'
            simp at hdk'
      · have hik : i < n := by
          rcases Nat.lt_or_ge i n with h | h
          · exact h
          · exact absurd (hback (i - 1 - n) (i - 1) (by omega) (by omega) (hw _ (hc2 i _ (by omega) hoi))) hnl
        obtain ⟨s, hsi, hst⟩ := hs.at_ (i := i) (o := ops[i]) (by rw [hat i hik]; exact hoi)
        refine wpOp_step hoi fun K hK => hst a w h2 h5 (DepsGot.mk _ fun e he hb => h6 _ ?_ (hdep _ hoi e (by simpa using he) hb)) K fun v w' hC' hbl hp => hK _ _ ⟨by simp [h1], hcl', .inr ⟨fun hd => hnl (done_set hd hil), hC', by rw [put_defers]; exact h3, by rw [put_size]; exact h4, ?_, ?_⟩⟩
        · have h := List.all_eq_true.1 ho i (List.mem_range.2 hlt)
          rw [hoi] at h
          simp only [Option.map_some, Option.getD_some] at h
          have h' := List.all_eq_true.1 h e he
          rw [hb] at h'
          have : e.on < i := by simpa using h'
          omega
        · intro t ht
          rw [put_other, h5 t ht]
          have := List.all_eq_true.1 ht ops[i] (List.mem_of_getElem? (by rw [hat i hik]; exact hoi))
          simpa using this
        · intro k hkl hk
          by_cases e : k = i
          · subst e
            exact ⟨v, _, _, hoi, hsi, fun t ht => by rw [ht, put_self (by rw [h4]; exact slots_lt hB hoi ht)], hp⟩
          · obtain ⟨v', o', s', ho', hs', ht', hp'⟩ := h6 k hkl (done_set hk (fun x => e x.symm))
            refine ⟨v', o', s', ho', hs', fun t ht => ?_, s'.up hp' hbl⟩
            rw [put_other (fun x => e (slots_ne hB ho' hoi ht x)), ht' t ht]
  · rintro L a w ⟨h1, _, hJ⟩ hr
    have hd := all_done hr h1 ho
    rcases hJ with ⟨j, hj1, hj2, hall, hnone, ht⟩ | ⟨hnl, _⟩
    · have e : j = ops.size := by
        rcases Nat.lt_or_ge j ops.size with h | h
        · exact absurd (hd j h) (hnone j (Nat.le_refl _))
        · omega
      subst e
      rw [List.drop_of_length_le (by simp)] at ht
      exact ht
    · exact absurd (hd _ hn) hnl
end
/-! ### Rows of bytes whose spare cells are bytes, too -/
def ByteV (u : Value) : Prop := ∃ c : Nat, u = .int .u8 (c : Int) ∧ c < 256
/-- The slice v holds the bytes xs, in a block of its own (from B on) of which every cell is a byte. -/
def RowB (w : World) (B : Nat) (v : Value) (n : Nat) (xs : List Value) : Prop :=
  xs.length = n ∧ ((v = .slice none 0 0 ∧ n = 0) ∨
    ∃ g cap cur, v = .slice (some ⟨g, 0, none⟩) n cap ∧ B ≤ g ∧ w.heap[g]? = some (.cells cur 5 (0, 0)) ∧ n ≤ cap ∧ cap ≤ maxLen ∧ cur.size = cap ∧ cur.toList.take n = xs ∧ ∀ u ∈ cur.toList, ByteV u)
theorem RowB.nil (w : World) (B : Nat) : RowB w B (.slice none 0 0) 0 [] := ⟨rfl, .inl ⟨rfl, rfl⟩⟩
theorem heap_lt {w : World} {g : Nat} {o : Obj} (h : w.heap[g]? = some o) : g < w.heap.size := by
  rcases Nat.lt_or_ge g w.heap.size with k | k
  · exact k
  · rw [Array.getElem?_eq_none k] at h; cases h
theorem RowB.on {w w' : World} {B n : Nat} {v : Value} {xs : List Value} (h : RowB w B v n xs) (hb : Below w.heap.size w w') : RowB w' B v n xs := by
  refine ⟨h.1, ?_⟩
  rcases h.2 with h | ⟨g, cap, cur, h1, h2, h3, h4⟩
  · exact .inl h
  · exact .inr ⟨g, cap, cur, h1, h2, (hb.block g (heap_lt h3)).trans h3, h4⟩
theorem RowB.base {w : World} {B B' n : Nat} {v : Value} {xs : List Value} (h : RowB w B v n xs) (hB : B' ≤ B) : RowB w B' v n xs := by
  refine ⟨h.1, ?_⟩
  rcases h.2 with h | ⟨g, cap, cur, h1, h2, h3⟩
  · exact .inl h
  · exact .inr ⟨g, cap, cur, h1, Nat.le_trans hB h2, h3⟩
theorem RowB.owns {w : World} {B n : Nat} {v : Value} {xs : List Value} (h : RowB w B v n xs) : w.ownsRow B 5 1 v n xs := by
  refine ⟨by rw [h.1, Nat.mul_one], ?_⟩
  rcases h.2 with h | ⟨g, cap, cur, h1, h2, h3, h4, h5, h6, h7, _⟩
  · exact .inl h
  · exact .inr ⟨g, cap, cur, h1, h2, h3, h4, h5, by rw [Nat.mul_one]; exact h6, by rw [Nat.mul_one]; exact h7⟩
/-- Blocks of bytes stay blocks of bytes. -/
def KeepsB (w w' : World) : Prop := ∀ (g : Nat) (cur : Array Value), w.heap[g]? = some (.cells cur 5 (0, 0)) → (∀ u ∈ cur.toList, ByteV u) → ∃ cur' : Array Value, w'.heap[g]? = some (.cells cur' 5 (0, 0)) ∧ cur'.size = cur.size ∧ ∀ u ∈ cur'.toList, ByteV u
theorem KeepsB.below {w w' : World} (h : Below w.heap.size w w') : KeepsB w w' := fun g cur hg hu => ⟨cur, (h.block g (heap_lt hg)).trans hg, rfl, hu⟩
theorem RowB.keepsB {w w' : World} {B n : Nat} {v : Value} {xs : List Value} (h : RowB w B v n xs) (k : KeepsB w w') : ∃ ys, RowB w' B v n ys := by
  rcases h.2 with ⟨rfl, rfl⟩ | ⟨g, cap, cur, h1, h2, h3, h4, h5, h6, h7, h8⟩
  · exact ⟨[], RowB.nil _ _⟩
  · obtain ⟨cur', k1, k2, k3⟩ := k g cur h3 h8
    refine ⟨cur'.toList.take n, ?_, .inr ⟨g, cap, cur', h1, h2, k1, h4, h5, by omega, rfl, k3⟩⟩
    rw [List.length_take, Array.length_toList]
    omega
/-- What such a row holds, as bytes. -/
theorem RowB.bis {w : World} {B n : Nat} {v : Value} {xs : List Value} (h : RowB w B v n xs) : ∃ A c l, v = .slice A (List.length l) c ∧ l.length = n ∧ BIs w w.heap.size A c l ∧ ∀ x ∈ l, x < 256 := by
  rcases h.2 with ⟨rfl, rfl⟩ | ⟨g, cap, cur, rfl, h2, h3, h4, h5, h6, h7, h8⟩
  · exact ⟨none, 0, [], rfl, rfl, .inl ⟨rfl, rfl, rfl⟩, by simp⟩
  · have hc : ∀ u ∈ xs, ByteV u := fun u hu => h8 u (by rw [← h7] at hu; exact List.mem_of_mem_take hu)
    obtain ⟨l, hl, hlb⟩ : ∃ l : List Nat, u8s l = xs ∧ ∀ x ∈ l, x < 256 := by
      clear h7 h h4
      induction xs with
      | nil => exact ⟨[], rfl, by simp⟩
      | cons u xs ih =>
        obtain ⟨l, h1, h2⟩ := ih fun v hv => hc v (List.mem_cons_of_mem _ hv)
        obtain ⟨c, hc1, hc2⟩ := hc u (by simp)
        refine ⟨c :: l, by rw [← h1, hc1]; rfl, fun x hx => ?_⟩
        rcases List.mem_cons.1 hx with rfl | hx
        · exact hc2
        · exact h2 x hx
    have hln : l.length = n := by rw [← u8s_len, hl]; exact h.1
    refine ⟨some ⟨g, 0, none⟩, cap, l, by rw [hln], hln, .inr ⟨g, 0, rfl, heap_lt h3, by omega, fun j x hj => ?_⟩, hlb⟩
    rw [hl, ← h7] at hj
    have hj2 : j < n := by
      have := (List.getElem?_eq_some_iff.1 hj).1
      rw [List.length_take] at this
      omega
    rw [List.getElem?_take_of_lt hj2] at hj
    rw [Nat.zero_add]
    simpa [World.cell?, h3] using hj
section
variable {P : Program} (w : World)
theorem run_appB (t ty : TypeId) (i : TypeInfo) (ht : P.underlying t = some (.slice 5)) (hi : P.info? 5 = some i) (hz : i.zero = some (.int .u8 0)) (hsize : i.size = 1) (hby : i.bytes = 1)
    (B : Nat) (v : Value) (n : Nat) (xs : List Value) (hown : RowB w B v n xs)
    (a : Addr) (m c : Nat) (news : List Value) (hl : news.length = m) (hm0 : 0 < m) (hnews : ∀ j u, news[j]? = some u → w.cell? (a.add j) = some u) (hnb : ∀ u ∈ news, ByteV u)
    (h63 : n + m ≤ 1000000) (hB : B ≤ w.heap.size) :
    ∃ v' w', (Builtin.append_ #[t, t] ty #[v, .slice (some a) m c]).run P w = .ok v' w' ∧ RowB w' B v' (n + m) (xs ++ news) ∧ w.grownBy w' v.ownBlock ∧ KeepsB w w' := by
  have h1 : ∀ u ∈ news, u.oneCell' = true := fun u hu => by
    obtain ⟨x, rfl, _⟩ := hnb u hu
    rfl
  have hl1 : news.length = m * i.size := by rw [hsize]; omega
  have hlen : (xs ++ news).length = n + m := by rw [List.length_append, hown.1, hl]
  have hzc : (Value.int .u8 0).cells = #[.int .u8 0] := rfl
  have hzz : ∀ (k : Nat), ∀ u ∈ (Builtin.zeroCells (Value.int .u8 0).cells k).toList, ByteV u := by
    intro k u hu
    simp only [Builtin.zeroCells, Array.toList_map, List.mem_map] at hu
    obtain ⟨l, _, hl⟩ := hu
    have hm : l % (Value.int .u8 0).cells.size < (Value.int .u8 0).cells.size := Nat.mod_lt _ (by decide)
    rw [getElem!_pos (Value.int .u8 0).cells (l % (Value.int .u8 0).cells.size) hm] at hl
    have : u ∈ (Value.int .u8 0).cells.toList := by rw [← hl, Array.mem_toList_iff]; exact Array.getElem_mem hm
    rw [hzc] at this
    simp at this
    exact ⟨0, by rw [this]; rfl, by omega⟩
  have hmx : n + m ≤ maxLen := by unfold maxLen; omega
  have grown : ∀ (old : Nat), old < n + m → (∀ u ∈ xs, ByteV u) → ∀ (row : Option Nat),
      RowB (w.drew.alloc (.cells (xs.toArray ++ news.toArray ++ Builtin.zeroCells (Value.int .u8 0).cells (grownCap w (n + m) old 5 - (n + m))) 5)) B
        (.slice (Option.some ⟨w.heap.size, 0, none⟩) (n + m) (grownCap w (n + m) old 5)) (n + m) (xs ++ news) ∧
      w.grownBy (w.drew.alloc (.cells (xs.toArray ++ news.toArray ++ Builtin.zeroCells (Value.int .u8 0).cells (grownCap w (n + m) old 5 - (n + m))) 5)) row := by
    intro old ho hxb row
    have hge := grownCap_ge w (n + m) old 5
    have hcm : grownCap w (n + m) old 5 ≤ maxLen := grownCap_le_maxLen w (n + m) old 5 hmx
    refine ⟨⟨hlen, .inr ⟨w.heap.size, _, _, rfl, hB, heap_alloc_new w.drew _, hge, hcm, ?_, ?_, ?_⟩⟩, ⟨rfl, rfl, rfl, by simp, fun k hk _ => heap_alloc_old w.drew _ (by first | exact hk | assumption)⟩⟩
    · simp only [Array.size_append, List.size_toArray, size_zeroCells, hown.1, hl]
      simp [hzc]
      omega
    · simp only [Array.toList_append, List.append_assoc]
      rw [← List.append_assoc, ← hlen]
      exact List.take_left
    · intro u hu
      simp only [Array.toList_append, List.mem_append] at hu
      rcases hu with (hu | hu) | hu
      · exact hxb u hu
      · exact hnb u hu
      · exact hzz _ u hu
  have gk : ∀ o : Obj, KeepsB w (w.drew.alloc o) := fun o => KeepsB.below ((Below.drew (Below.refl _ w)).alloc (Nat.le_refl _) o)
  rcases hown.2 with ⟨rfl, rfl⟩ | ⟨g, cap, cur, rfl, hbg, hg, hnc, hcm, hcs, htake, hcw⟩
  · have hx : xs = [] := List.eq_nil_of_length_eq_zero hown.1
    subst hx
    have hr := run_append_nil (P := P) w t ty 5 i (.int .u8 0) ht hi hz a m c news hl1 hnews hm0 (by omega) (by rw [hby]; omega)
    have hgr := grown 0 (by omega) (by simp) (Value.ownBlock (.slice none 0 0))
    simp only [Nat.zero_add, List.nil_append, Array.empty_append] at hgr ⊢
    exact ⟨_, _, hr, hgr.1, hgr.2, gk _⟩
  · have hxb : ∀ u ∈ xs, ByteV u := fun u hu => hcw u (by rw [← htake] at hu; exact List.mem_of_mem_take hu)
    by_cases hroom : n + m ≤ cap
    · have hfit : n * i.size + news.length ≤ cur.size := by rw [hl, hsize]; omega
      have hr := run_append_room (P := P) w t ty 5 i ht hi g n cap cur hg a m c news hl1 hnews h1 hroom hfit
      rw [hsize, Nat.mul_one] at hr
      have hsz : (cur.toList.take n ++ news ++ cur.toList.drop (n + news.length)).toArray.size = cur.size := by
        simp only [List.size_toArray, List.length_append, List.length_take, List.length_drop, Array.length_toList]
        omega
      have hbb : ∀ u ∈ (cur.toList.take n ++ news ++ cur.toList.drop (n + news.length)).toArray.toList, ByteV u := fun u hu => by
        simp only [List.mem_append] at hu
        rcases hu with (hu | hu) | hu
        · exact hcw u (List.mem_of_mem_take hu)
        · exact hnb u hu
        · exact hcw u (List.mem_of_mem_drop hu)
      refine ⟨_, _, hr, ⟨hlen, .inr ⟨g, cap, _, rfl, hbg, setRow_heap w g cur _ 5 _ hg, hroom, hcm, hsz.trans hcs, ?_, hbb⟩⟩, ⟨rfl, rfl, rfl, by simp, fun k _ hk => setRow_other w g k _ (fun e => hk (by simp [Value.ownBlock, e]))⟩, fun k cu hk hu => ?_⟩
      · rw [htake, ← hlen]
        exact List.take_left
      · by_cases hkg : k = g
        · subst hkg
          rw [hg] at hk
          injection hk with hk
          injection hk with hk
          subst hk
          exact ⟨_, setRow_heap w k cur _ 5 _ hg, hsz, hbb⟩
        · exact ⟨cu, (setRow_other w g k _ hkg).trans hk, rfl, hu⟩
    · have holds : ∀ j u, xs[j]? = some u → w.cell? ((⟨g, 0, none⟩ : Addr).add j) = some u := fun j u hj => by
        have hj' : j < n := by
          rw [← hown.1]
          exact (List.getElem?_eq_some_iff.1 hj).1
        rw [← htake, List.getElem?_take_of_lt hj'] at hj
        rw [Addr.add_lit, Nat.zero_add]
        simpa [World.cell?, hg] using hj
      have hr := run_append_grow (P := P) w t ty 5 i (.int .u8 0) ht hi hz ⟨g, 0, none⟩ n cap xs (by rw [hown.1, hsize, Nat.mul_one]) holds a m c news hl1 hnews (by omega) (by omega) (growslice_fits (by omega) (by rw [hby]; omega))
      have hgr := grown cap (by omega) hxb (Value.ownBlock (.slice (Option.some ⟨g, 0, none⟩) n cap))
      exact ⟨_, _, hr, hgr.1, hgr.2, gk _⟩
theorem wpList_appB {ops : Array Oper} {rest : List Oper} {o : Oper} {ac : Act} {Q : Exit → Act → World → Prop} (hgd : o.guard = none) (s x : Operand) (t : TypeId)
    (ho : o.op = .call { callee := .builtin .append, args := #[s, x], argTypes := #[t, t] })
    (i : TypeInfo) (ht : P.underlying t = some (.slice 5)) (hi : P.info? 5 = some i) (hz : i.zero = some (.int .u8 0)) (hsize : i.size = 1) (hby : i.bytes = 1)
    (B : Nat) (v : Value) (n : Nat) (xs : List Value) (hs : ac.eval s = v) (hown : RowB w B v n xs)
    (a : Addr) (m c : Nat) (news : List Value) (hx : ac.eval x = .slice (some a) m c) (hl : news.length = m) (hm0 : 0 < m) (hnews : ∀ j u, news[j]? = some u → w.cell? (a.add j) = some u) (hnb : ∀ u ∈ news, ByteV u)
    (h63 : n + m ≤ 1000000) (hB : B ≤ w.heap.size)
    (h : ∀ v' w', RowB w' B v' (n + m) (xs ++ news) → w.grownBy w' v.ownBlock → KeepsB w w' → wpList P ops Q rest (ac.put o.dst v') w') :
    wpList P ops Q (o :: rest) ac w := by
  refine wpList_plain hgd fun K hK => ?_
  obtain ⟨v', w', hr, h2, h3, h4⟩ := run_appB (P := P) w t o.type i ht hi hz hsize hby B v n xs hown a m c news hl hm0 hnews hnb h63 hB
  unfold Oper.wp execOp
  simp only [ho, resolve, invoke, builtin, Sem.run_bind, Sem.run_pure, Result.andThen_ok, List.map_toArray, List.map_cons, List.map_nil, hs, hx, hr]
  exact hK _ _ (h v' w' h2 h3 h4)
theorem wp_appB {o : Oper} {ac : Act} {K : Act → World → Prop} {Q : Exit → Act → World → Prop} (s x : Operand) (t : TypeId)
    (ho : o.op = .call { callee := .builtin .append, args := #[s, x], argTypes := #[t, t] })
    (i : TypeInfo) (ht : P.underlying t = some (.slice 5)) (hi : P.info? 5 = some i) (hz : i.zero = some (.int .u8 0)) (hsize : i.size = 1) (hby : i.bytes = 1)
    (B : Nat) (v : Value) (n : Nat) (xs : List Value) (hs : ac.eval s = v) (hown : RowB w B v n xs)
    (a : Addr) (m c : Nat) (news : List Value) (hx : ac.eval x = .slice (some a) m c) (hl : news.length = m) (hm0 : 0 < m) (hnews : ∀ j u, news[j]? = some u → w.cell? (a.add j) = some u) (hnb : ∀ u ∈ news, ByteV u)
    (h63 : n + m ≤ 1000000) (hB : B ≤ w.heap.size)
    (h : ∀ v' w', RowB w' B v' (n + m) (xs ++ news) → w.grownBy w' v.ownBlock → KeepsB w w' → K (ac.put o.dst v') w') : o.wp P ac w K Q := by
  obtain ⟨v', w', hr, h2, h3, h4⟩ := run_appB (P := P) w t o.type i ht hi hz hsize hby B v n xs hown a m c news hl hm0 hnews hnb h63 hB
  unfold Oper.wp execOp
  simp only [ho, resolve, invoke, builtin, Sem.run_bind, Sem.run_pure, Result.andThen_ok, List.map_toArray, List.map_cons, List.map_nil, hs, hx, hr]
  exact h v' w' h2 h3 h4
end
theorem u8s_isB {l : List Nat} (h : ∀ x ∈ l, x < 256) : ∀ u ∈ u8s l, ByteV u := fun u hu => by
  obtain ⟨x, hx, rfl⟩ := List.mem_map.1 hu
  exact ⟨x, rfl, h x hx⟩
/-- A step that keeps blocks of bytes. -/
def KB (w w' : World) : Prop := w.heap.size ≤ w'.heap.size ∧ KeepsB w w'
theorem KB.of {w w' : World} (h : Below w.heap.size w w') : KB w w' := ⟨h.size, KeepsB.below h⟩
/-- A slice of n bytes, in a row of one's own. -/
def sOB (B n : Nat) : Spec KB := ⟨fun v w => ∃ p : Option Addr × Nat, v = .slice p.1 n p.2 ∧ ∃ ys, RowB w B (.slice p.1 n p.2) n ys, fun ⟨p, e, _, h⟩ k => ⟨p, e, h.keepsB k.2⟩⟩
theorem RowB.one {w : World} {B c : Nat} (hB : B ≤ w.heap.size) (hc : c < 256) : RowB (w.alloc (.cells #[.int .u8 (c : Int)] 5)) B (.slice (some ⟨w.heap.size, 0, none⟩) 1 1) 1 [.int .u8 (c : Int)] :=
  ⟨rfl, .inr ⟨w.heap.size, 1, #[.int .u8 (c : Int)], rfl, hB, heap_alloc_new w _, Nat.le_refl _, by unfold maxLen; omega, rfl, rfl, fun u hu => ⟨c, by simpa using hu, hc⟩⟩⟩
theorem RowB.bytes {w : World} {B n : Nat} {v : Value} {xs : List Value} (h : RowB w B v n xs) : ∀ u ∈ xs, ByteV u := by
  rcases h.2 with ⟨_, h0⟩ | ⟨g, cap, cur, rfl, h2, h3, h4, h5, h6, h7, h8⟩
  · intro u hu
    have := h.1
    rw [h0] at this
    rw [List.eq_nil_of_length_eq_zero this] at hu
    cases hu
  · intro u hu
    rw [← h7] at hu
    exact h8 u (List.mem_of_mem_take hu)
theorem RowB.at1 {w : World} {B n : Nat} {A : Option Addr} {c : Nat} {xs : List Value} (h : RowB w B (.slice A n c) n xs) (hn : 0 < n) : ∃ g, A = some ⟨g, 0, none⟩ ∧ B ≤ g ∧ ∀ j u, xs[j]? = some u → w.cell? ((⟨g, 0, none⟩ : Addr).add j) = some u := by
  have ho := h.owns
  rcases h.2 with ⟨_, h0⟩ | ⟨g, cap, cur, e, h2, h3, h4, h5, h6, h7, h8⟩
  · omega
  · injection e with e1 _ _
    subst e1
    exact ⟨g, rfl, h2, fun j u hj => ho.cells rfl j u hj⟩
end Go.Proofs.YtfbbnphpapmpcaaGreatDoor
