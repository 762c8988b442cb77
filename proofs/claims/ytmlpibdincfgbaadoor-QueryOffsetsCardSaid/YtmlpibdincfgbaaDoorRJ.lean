/-
  The law of regions that draw, with an invariant J of the worlds and a relation R between two of them, both one's own.
-/
import Derived.Test.YtmlpibdincfgbaaDoorReg
namespace Go.Proofs.YtmlpibdincfgbaaDoor
open Go.RowKit

section
variable {P : Program} {ops : Array Oper} {Q : Exit → Act → World → Prop} {a0 a : Act} {w : World} {J : World → Prop} {R : World → World → Prop} {S : List (Spec R)} {fr : List Oper}
def StepOKJ {R : World → World → Prop} (fr : List Oper) (P : Program) (ops : Array Oper) (Q : Exit → Act → World → Prop) (J : World → Prop) (S : List (Spec R)) (a0 : Act) (o : Oper) (s : Spec R) : Prop :=
  ∀ a w, J w → FrameOK fr a0 a → DepsGot S ops a w o.after.toList → ∀ K : Act → World → Prop,
    (∀ v w', J w' → R w w' → s.p v w' → K (a.put o.dst v) w') →
    if Region.wanted o (yielded ops a.tmps) = true then Oper.wp P o a w K Q else K (a.put o.dst undef) w
def RegStepsJ {R : World → World → Prop} (fr : List Oper) (P : Program) (ops : Array Oper) (Q : Exit → Act → World → Prop) (J : World → Prop) (S : List (Spec R)) (a0 : Act) : Nat → List Oper → List (Spec R) → Prop
  | _, [], _ => True
  | _, _ :: _, [] => False
  | i, o :: os, s :: ss => StepOKJ fr P ops Q J S a0 o s ∧ RegStepsJ fr P ops Q J S a0 (i + 1) os ss
theorem RegStepsJ.cons {i : Nat} {o : Oper} {os : List Oper} {s : Spec R} {ss : List (Spec R)} (h : StepOKJ fr P ops Q J S a0 o s) (k : RegStepsJ fr P ops Q J S a0 (i + 1) os ss) : RegStepsJ fr P ops Q J S a0 i (o :: os) (s :: ss) := ⟨h, k⟩
theorem RegStepsJ.nil {i : Nat} {ss : List (Spec R)} : RegStepsJ fr P ops Q J S a0 i [] ss := trivial
theorem RegStepsJ.at_ : ∀ {os : List Oper} {ss : List (Spec R)} {n i : Nat} {o : Oper}, RegStepsJ fr P ops Q J S a0 n os ss → os[i]? = some o → ∃ s, ss[i]? = some s ∧ StepOKJ fr P ops Q J S a0 o s
  | [], _, _, i, o, _, h => by cases h
  | _ :: _, [], _, _, _, h, _ => h.elim
  | o :: os, s :: ss, n, 0, o', h, h' => by
    injection h' with h'
    subst h'
    exact ⟨s, rfl, h.1⟩
  | o :: os, s :: ss, n, i + 1, o', h, h' => by
    obtain ⟨s', h1, h2⟩ := RegStepsJ.at_ (i := i) h.2 h'
    exact ⟨s', h1, h2⟩
theorem wp_region_suffixJ {id : Nat} (J : World → Prop) (n : Nat) (S : List (Spec R)) (hm : P.follows .mixedOrders = true) (hB : slotsB a0.tmps.size ops = true) (hl : (ops.toList.take n).length = S.length)
    (ho : ((List.range ops.size).all fun k => ((ops[k]?).map fun o => o.after.toList.all fun e => !Region.binds .any e || decide (e.on < k)).getD true) = true) (hch : suffixB ops n = true)
    (hC : J w.drew) (hs : RegStepsJ (ops.toList.take n) P ops Q J S a0 0 (ops.toList.take n) S)
    (he : ∀ w', J w' → FinOK (fun _ a w => TailOK P ops Q (ops.toList.drop n) a w) (ops.toList.take n) S a0 w') : (Code.region id ops true).wp P Q a0 w := by
  obtain ⟨hn, hc1, hc2⟩ := suffix_chain hch
  have hat : ∀ i, i < n → (ops.toList.take n)[i]? = ops[i]? := fun i hi => by
    rw [List.getElem?_take_of_lt hi, Array.getElem?_toList]
  refine region_inv hm (fun L a w => L.size = ops.size ∧ (∀ k o, ops[k]? = some o → done L k → ∀ m, waits o m = true → done L m) ∧
    ((∃ j, n < j ∧ j ≤ ops.size ∧ (∀ k, k < j → done L k) ∧ (∀ k, j ≤ k → ¬ done L k) ∧ TailOK P ops Q (ops.toList.drop j) a w) ∨
     (¬ done L n ∧ J w ∧ a.defers = a0.defers ∧ a.tmps.size = a0.tmps.size ∧ (∀ t, ((ops.toList.take n).all fun o => o.dst != some t) = true → a.tmps[t]? = a0.tmps[t]?) ∧ ∀ k, k < n → done L k → Got S ops a w k))) ?_ ?_ ?_
  · exact ⟨by simp, fun k o _ hd => absurd hd (done_none _ _), .inr ⟨done_none _ _, hC, rfl, rfl, fun _ _ => rfl, fun k _ hd => absurd hd (done_none _ _)⟩⟩
  · rintro L a w i ⟨h1, hcl, hJ⟩ hi
    obtain ⟨hlt, hnd, hdep⟩ := ready_spec hi
    have hoi : ops[i]? = some ops[i] := Array.getElem?_eq_getElem hlt
    have hw : ∀ k, waits ops[i] k = true → done L k := by
      intro k hk
      unfold waits at hk
      rw [List.any_eq_true] at hk
      obtain ⟨e, he, hk⟩ := hk
      rw [Bool.and_eq_true] at hk
      have hek : e.on = k := by simpa using hk.1
      rw [← hek]
      exact hdep _ hoi e (by simpa using he) hk.2
    have hcl' : ∀ k o, ops[k]? = some o → done (L.setIfInBounds i true) k → ∀ m, waits o m = true → done (L.setIfInBounds i true) m := by
      intro k o hok hd m hwm
      by_cases e : k = i
      · subst e
        rw [hoi] at hok
        injection hok with hok
        subst hok
        exact done_up (hw m hwm)
      · exact done_up (hcl k o hok (done_set hd (Ne.symm e)) m hwm)
    have hself : done (L.setIfInBounds i true) i := by
      unfold done
      rw [Array.getD_eq_getD_getElem?, Array.getElem?_setIfInBounds_self, if_pos (by omega)]
      rfl
    have hback : ∀ d k, k = n + d → k < ops.size → done L k → done L n := by
      intro d
      induction d with
      | zero => intro k hk _ hd; rw [← (by omega : k = n)]; exact hd
      | succ d ih =>
        intro k hk hks hd
        have hok : ops[k]? = some ops[k] := Array.getElem?_eq_getElem hks
        exact ih (k - 1) (by omega) (by omega) (hcl k _ hok hd _ (hc2 k _ (by omega) hok))
    rcases hJ with ⟨j, hj1, hj2, hall, hnone, ht⟩ | ⟨hnl, h2, h3, h4, h5, h6⟩
    · have hij : i = j := by
        rcases Nat.lt_trichotomy i j with h | h | h
        · exact absurd (hall i h) hnd
        · exact h
        · exact absurd (hw _ (hc2 i _ (by omega) hoi)) (hnone (i - 1) (by omega))
      subst hij
      have hd : ops.toList.drop i = ops[i] :: ops.toList.drop (i + 1) := by
        rw [List.drop_eq_getElem_cons (by simpa using hlt)]
        simp
      rw [hd] at ht
      refine wpOp_step hoi fun K hK => ht K fun a' w' hq => hK _ _ ⟨by simp [h1], hcl', .inl ⟨i + 1, by omega, by omega, fun k hk => ?_, fun k hk hdk => ?_, hq⟩⟩
      · by_cases e : k = i
        · rw [e]; exact hself
        · exact done_up (hall k (by omega))
      · exact hnone k (by omega) (done_set hdk (by omega))
    · by_cases hil : i = n
      · subst hil
        have hall : ∀ d k, k + d + 1 = i → done L k := by
          intro d
          induction d using Nat.strongRecOn with
          | ind d ih =>
            intro k hk
            obtain ⟨m, hm1, hm2, o, hom, hwm⟩ := hc1 k (by omega)
            by_cases e : m = i
            · subst e
              rw [hoi] at hom
              injection hom with hom
              subst hom
              exact hw k hwm
            · exact hcl m o hom (ih (i - m - 1) (by omega) m (by omega)) k hwm
        have hfin := FinOK.out (a := a) hl (he w h2) h5 h4 h3 (fun k o s hok hsk => by
            have hk : k < i := by
              rcases Nat.lt_or_ge k i with h | h
              · exact h
              · rw [List.getElem?_eq_none (by rw [List.length_take]; omega)] at hok; cases hok
            obtain ⟨v, o', s', ho', hs', ht', hp'⟩ := h6 k hk (hall (i - k - 1) k (by omega))
            rw [← hat k hk, hok] at ho'
            rw [hsk] at hs'
            injection ho' with ho'
            injection hs' with hs'
            subst ho' hs'
            exact ⟨v, ht', hp'⟩) (fun o ho t ht => by
            obtain ⟨k, hk⟩ := List.mem_iff_getElem?.1 ho
            have hkl : k < i := by
              rcases Nat.lt_or_ge k i with h | h
              · exact h
              · rw [List.getElem?_eq_none (by rw [List.length_take]; omega)] at hk; cases hk
            exact slots_lt hB (by rw [← hat k hkl]; exact hk) ht)
        have hd : ops.toList.drop i = ops[i] :: ops.toList.drop (i + 1) := by
          rw [List.drop_eq_getElem_cons (by simpa using hlt)]
          simp
        rw [hd] at hfin
        refine wpOp_step hoi fun K hK => hfin K fun a' w' hq => hK _ _ ⟨by simp [h1], hcl', .inl ⟨i + 1, by omega, by omega, fun k hk => ?_, fun k hk hdk => ?_, hq⟩⟩
        · by_cases e : k = i
          · rw [e]; exact hself
          · exact done_up (hall (i - k - 1) k (by omega))
        · have hdk' := done_set hdk (by omega)
          rcases Nat.lt_or_ge k ops.size with hks | hks
          · exact hnl (hback (k - i) k (by omega) hks hdk')
          · unfold done at hdk'
            rw [Array.getD_eq_getD_getElem?, Array.getElem?_eq_none (by omega)] at hdk'
            simp at hdk'
      · have hik : i < n := by
          rcases Nat.lt_or_ge i n with h | h
          · exact h
          · exact absurd (hback (i - 1 - n) (i - 1) (by omega) (by omega) (hw _ (hc2 i _ (by omega) hoi))) hnl
        obtain ⟨s, hsi, hst⟩ := hs.at_ (i := i) (o := ops[i]) (by rw [hat i hik]; exact hoi)
        refine wpOp_step hoi fun K hK => hst a w h2 h5 (DepsGot.mk _ fun e he hb => h6 _ ?_ (hdep _ hoi e (by simpa using he) hb)) K fun v w' hC' hbl hp => hK _ _ ⟨by simp [h1], hcl', .inr ⟨fun hd => hnl (done_set hd hil), hC', by rw [put_defers]; exact h3, by rw [put_size]; exact h4, ?_, ?_⟩⟩
        · have h := List.all_eq_true.1 ho i (List.mem_range.2 hlt)
          rw [hoi] at h
          simp only [Option.map_some, Option.getD_some] at h
          have h' := List.all_eq_true.1 h e he
          rw [hb] at h'
          have : e.on < i := by simpa using h'
          omega
        · intro t ht
          rw [put_other, h5 t ht]
          have := List.all_eq_true.1 ht ops[i] (List.mem_of_getElem? (by rw [hat i hik]; exact hoi))
          simpa using this
        · intro k hkl hk
          by_cases e : k = i
          · subst e
            exact ⟨v, _, _, hoi, hsi, fun t ht => by rw [ht, put_self (by rw [h4]; exact slots_lt hB hoi ht)], hp⟩
          · obtain ⟨v', o', s', ho', hs', ht', hp'⟩ := h6 k hkl (done_set hk (fun x => e x.symm))
            refine ⟨v', o', s', ho', hs', fun t ht => ?_, s'.up hp' hbl⟩
            rw [put_other (fun x => e (slots_ne hB ho' hoi ht x)), ht' t ht]
  · rintro L a w ⟨h1, _, hJ⟩ hr
    have hd := all_done hr h1 ho
    rcases hJ with ⟨j, hj1, hj2, hall, hnone, ht⟩ | ⟨hnl, _⟩
    · have e : j = ops.size := by
        rcases Nat.lt_or_ge j ops.size with h | h
        · exact absurd (hd j h) (hnone j (Nat.le_refl _))
        · omega
      subst e
      rw [List.drop_of_length_le (by simp)] at ht
      exact ht
    · exact absurd (hd _ hn) hnl
end
end Go.Proofs.YtmlpibdincfgbaaDoor
