/-
  The law FracTexts: its row, and its card, tied to the program's text.
-/
import Derived.Test.YthafhbogpfggjaaGreatDoorC5
import Derived.Test.YthafhbogpfggjaaGreatDoorY6
import Derived.Test.YthafhbogpfggjaaGreatDoorTie
import Derived.Test.YthafhbogpfggjaaGreatDoorCards
import Derived.SevenTiedAt
import Derived.Lay
namespace Go.Proofs.YthafhbogpfggjaaGreatDoor.fracTexts
open Go.ChangeShapes Go.WideShapes Go.ChangeAt Go.RowKit Go.Proofs.YthafhbogpfggjaaGreatDoor
set_option linter.unusedVariables false

theorem met (os : Os) (args : Array Value) : laidMetH Tryz.prog Rows.fracTextsRow.laid ((World.laidAll Tryz.prog os Rows.fracTextsRow.laid).forCall (fun _ _ => 0) ⟨#[], args, []⟩).memory := by
  rw [MakeChecks.laidMetH_plain _ _ _ (by kernel_rfl)]
  exact laidMet_laidAll _ (by kernel_rfl) (by kernel_rfl)

set_option maxRecDepth 100000 in
theorem lifted (os : Os) (started : os.Started) (H : Type) (enc : TypeId × Value → H) :
    ReturnsInHanded {} Tryz.checked os 17 .any (fun w args => (Rows.fracTextsSpec.pre enc Tryz.prog Tryz.f17 [] false w args ∧ laidMetH Tryz.prog Rows.fracTextsRow.laid w) ∧ sizedMet enc Tryz.prog Tryz.f17 (OpenSpec.ofChange Rows.fracTextsSpec) false w args)
      (Rows.fracTextsSpec.post enc Tryz.prog Tryz.f17 false true false false) := by
  refine returnsInHanded_of_change_and (C := Tryz.checked) (X := fun w _ => laidMetH Tryz.prog Rows.fracTextsRow.laid w) (fun _ _ _ hh h => h.of_heap hh) own_ started (by kernel_rfl) Tryz.func17
    (ChangeSpec.witness_shaped (enc := enc) (C := Tryz.checked) (os := os) (X := fun w _ => laidMetH Tryz.prog Rows.fracTextsRow.laid w) false (World.laidAll Tryz.prog os Rows.fracTextsRow.laid) #[.slice none 0 0, .string ⟨#[]⟩, .int .i64 0, .int .u8 0] 8 (World.laidAll_os _ _ _) (World.shaped_of_ZipB (by kernel_rfl) (by kernel_rfl)) (by kernel_rfl) (by kernel_rfl) (by kernel_rfl) (met os _)) ?_
  intro W base args ds gs before hval0 hW _ _ hL _
  have hval : ∀ (j : Nat) t v, Tryz.f17.params[j]? = some t → args[j]? = some v → Value.okWide Tryz.prog W .any base t v := hval0
  have hW' := hW
  obtain ⟨p, q, hA0, hV, rfl, hfz, hnd⟩ := hW
  have hA : DataW.TrodAll enc Tryz.prog W 0 (fun _ => true) true Tryz.f17.params.toList args.toList ds p := hA0
  rw [Tryz.params17] at hA hval
  obtain ⟨v0, vs0, d0, ds0, p0, q0, hargs, rfl, rfl, h0, r0⟩ := trodAll_cons hA
  obtain ⟨v1, vs1, d1, ds1, p1, q1, rfl, rfl, rfl, h1, r1⟩ := trodAll_cons r0
  obtain ⟨v2, vs2, d2, ds2, p2, q2, rfl, rfl, rfl, h2, r2⟩ := trodAll_cons r1
  obtain ⟨v3, vs3, d3, ds3, p3, q3, rfl, rfl, rfl, h3, r3⟩ := trodAll_cons r2
  obtain ⟨rfl, rfl, rfl⟩ := trodAll_nil r3
  obtain rfl : args = #[v0, v1, v2, v3] := by cases args; simp_all
  obtain ⟨rfl, rfl⟩ := trodVars_none hV
  obtain ⟨A0, l0, c0, rfl, k0⟩ := open_ints_ (hval 0 41 v0 rfl rfl) h0 (fun x hx => by simpa using hW'.lt x (by simp [hx]))
  obtain ⟨s1, rfl, rfl, rfl, z1⟩ := Go.ChangeMaps.open_string Tryz.underlying9 (hval 1 9 v1 rfl rfl) h1
  obtain ⟨a2, rfl, rfl, rfl, w2⟩ := open_int Tryz.underlying3 (hval 2 3 v2 rfl rfl) h2
  obtain ⟨a3, rfl, rfl, rfl, w3⟩ := open_int Tryz.underlying5 (hval 3 5 v3 rfl rfl) h3
  have hT : Tab W := tab_of_laid hL (by kernel_rfl)
  have b2 : in64 a2 := in64_of_wf w2
  clear hA0 hval0
  have hlt : ∀ x ∈ p0 ++ ([] ++ ([] ++ ([] ++ []))), x.block < W.heap.size := fun x hx => by simpa using hW'.lt x (by simpa using hx)
  refine (FracTexts_any k0 s1 (by have h9 := z1; unfold maxLen at h9; omega) a2 b2 a3 hT).mono fun e W' ⟨he, hg⟩ => ?_
  subst he
  exact ⟨_, rfl, post_of_below (pa := p0 ++ ([] ++ ([] ++ ([] ++ [])))) (pv := []) hW' (fun _ _ _ => trodAll_cons_mk (shut_bool Tryz.underlying4 _) trodAll_mk0) (fun sp hsp => (trodAll_cons_mk (Trod_back (by kernel_rfl) (of_decide_eq_true (by kernel_rfl)) h0 hg (fun x hx => hlt x (by simp [hx])) (fun x hx => hsp x (by simp [hx]))) (trodAll_cons_mk (Go.ChangeMaps.shut_string Tryz.underlying9 z1) (trodAll_cons_mk (shut_int Tryz.underlying3 w2) (trodAll_cons_mk (shut_int Tryz.underlying5 w3) trodAll_mk0))))) (fun _ _ => rfl) (by simp) hg
    (ok_one (by kernel_rfl) rfl (okWide_bool_mk Tryz.underlying4 _))⟩

set_option maxRecDepth 100000 in
theorem k_wf : Rows.fracTextsRow.wf (OpenSpec.ofChange Rows.fracTextsSpec) = true := by kernel_rfl
set_option maxRecDepth 100000 in
theorem k_par : (Tryz.f17.params.all (Tryz.prog.readableRec ·) && namedTie Tryz.prog Rows.fracTextsRow.named Rows.fracTextsSpec.vars) = true := by kernel_rfl
set_option maxRecDepth 100000 in
theorem k_inPlace : (Rows.fracTextsRow.inPlace == Tryz.prog.inPlace 17) = true := by kernel_rfl
set_option maxRecDepth 100000 in
theorem k_unf : (Rows.fracTextsRow.unfollowed == Tryz.prog.unfollowed 17) = true := by kernel_rfl
set_option maxRecDepth 100000 in
theorem k_rec : (Rows.fracTextsRow.recurses == Tryz.prog.recurses 17) = true := by kernel_rfl
set_option maxRecDepth 100000 in
theorem k_named : (Rows.fracTextsRow.named == Tryz.prog.varsNamed 17) = true := by kernel_rfl
set_option maxRecDepth 100000 in
theorem k_goes : false = Rows.fracTextsRow.goesBy Tryz.prog := by kernel_rfl
set_option maxRecDepth 100000 in
theorem k_func : Tryz.prog.funcNamed "meresman/meresmanlaw04.FracTexts" = some 17 := by kernel_rfl
set_option maxRecDepth 100000 in
theorem k_facts : joinedFacts Tryz.prog 17 Tryz.f17 Rows.fracTextsSpec Rows.fracTextsRow = true :=
  facts_of k_wf k_par (by kernel_rfl) (by kernel_rfl) k_inPlace k_unf k_rec k_named (by kernel_rfl) (by kernel_rfl) (by kernel_rfl) (by kernel_rfl) (by kernel_rfl) (by kernel_rfl) (by kernel_rfl) (by kernel_rfl) (by kernel_rfl) plain_keys (by kernel_rfl) made_so (by kernel_rfl) (by kernel_rfl) (by kernel_rfl) (by kernel_rfl)
theorem row : Rows.FracTextsSaid :=
  OpenClaim.holds_of_wide 17 Tryz.f17 rfl rfl rfl rfl rfl rfl rfl ⟨rfl, rfl, rfl, rfl, rfl⟩ rfl rfl rfl rfl rfl k_func Tryz.func17 k_facts
    (of_decide_eq_true (by kernel_rfl)) (by unfold Func.isWrapper; first | (rw [if_pos (by decide +kernel)]; kernel_rfl) | (rw [if_neg (by decide +kernel)]; exact ⟨rfl, rfl⟩))
    (fun os started H enc _ => lifted os started H enc)

theorem proved : Rows.FracTextsCardSaid :=
  Claim7.holds_tied_plain_at .later [] Rows.fracTextsCard.laidKinds true Rows.fracTextsCard.stood.harness Rows.fracTextsCard.stood.looks
    row (fun _ h => by cases h) (by kernel_rfl) (fun _ h => by cases h) fracTexts_row_tie rfl ⟨rfl, rfl⟩ main_is rfl
    (fun f fn hf hfn => by
      obtain rfl : f = 17 := Option.some.inj (k_func.symm.trans hf) |>.symm
      obtain rfl : fn = Tryz.f17 := (Option.some.inj (Tryz.func17.symm.trans hfn)).symm
      exact ⟨looks_so, fun j t ht => by
        rw [Tryz.params17] at ht
        have hm : t ∈ [41, 9, 3, 5] := by simpa using Array.mem_of_getElem? ht
        have hall : ([41, 9, 3, 5].all fun u => !Tryz.prog.wantsStandIn u) = true := by kernel_rfl
        exact (show Tryz.prog.wantsStandIn t = false by simpa using List.all_eq_true.1 hall t hm)⟩)
    k_goes
#print axioms proved
end Go.Proofs.YthafhbogpfggjaaGreatDoor.fracTexts

