/-
  The law FracWritten: its row, and its card, tied to the program's text.
-/
import Derived.Test.YthafhbogpfggjaaGreatDoorC5
import Derived.Test.YthafhbogpfggjaaGreatDoorY7
import Derived.Test.YthafhbogpfggjaaGreatDoorTie
import Derived.Test.YthafhbogpfggjaaGreatDoorCards
import Derived.SevenTiedAt
import Derived.Lay
namespace Go.Proofs.YthafhbogpfggjaaGreatDoor.fracWritten
open Go.ChangeShapes Go.WideShapes Go.ChangeAt Go.RowKit Go.Proofs.YthafhbogpfggjaaGreatDoor
set_option linter.unusedVariables false

theorem met (os : Os) (args : Array Value) : laidMetH Tryz.prog Rows.fracWrittenRow.laid ((World.laidAll Tryz.prog os Rows.fracWrittenRow.laid).forCall (fun _ _ => 0) ⟨#[], args, []⟩).memory := by
  rw [MakeChecks.laidMetH_plain _ _ _ (by kernel_rfl)]
  exact laidMet_laidAll _ (by kernel_rfl) (by kernel_rfl)

set_option maxRecDepth 100000 in
theorem lifted (os : Os) (started : os.Started) (H : Type) (enc : TypeId × Value → H) :
    ReturnsInHanded {} Tryz.checked os 19 .any (fun w args => (Rows.fracWrittenSpec.pre enc Tryz.prog Tryz.f19 [] false w args ∧ laidMetH Tryz.prog Rows.fracWrittenRow.laid w) ∧ sizedMet enc Tryz.prog Tryz.f19 (OpenSpec.ofChange Rows.fracWrittenSpec) false w args)
      (Rows.fracWrittenSpec.post enc Tryz.prog Tryz.f19 false true false false) := by
  refine returnsInHanded_of_change_and (C := Tryz.checked) (X := fun w _ => laidMetH Tryz.prog Rows.fracWrittenRow.laid w) (fun _ _ _ hh h => h.of_heap hh) own_ started (by kernel_rfl) Tryz.func19
    (ChangeSpec.witness_shaped (enc := enc) (C := Tryz.checked) (os := os) (X := fun w _ => laidMetH Tryz.prog Rows.fracWrittenRow.laid w) false (World.laidAll Tryz.prog os Rows.fracWrittenRow.laid) #[.slice none 0 0] 8 (World.laidAll_os _ _ _) (World.shaped_of_ZipB (by kernel_rfl) (by kernel_rfl)) (by kernel_rfl) (by kernel_rfl) (by kernel_rfl) (met os _)) ?_
  intro W base args ds gs before hval0 hW _ _ hL _
  have hval : ∀ (j : Nat) t v, Tryz.f19.params[j]? = some t → args[j]? = some v → Value.okWide Tryz.prog W .any base t v := hval0
  have hW' := hW
  obtain ⟨p, q, hA0, hV, rfl, hfz, hnd⟩ := hW
  have hA : DataW.TrodAll enc Tryz.prog W 0 (fun _ => true) true Tryz.f19.params.toList args.toList ds p := hA0
  rw [Tryz.params19] at hA hval
  obtain ⟨v0, vs0, d0, ds0, p0, q0, hargs, rfl, rfl, h0, r0⟩ := trodAll_cons hA
  obtain ⟨rfl, rfl, rfl⟩ := trodAll_nil r0
  obtain rfl : args = #[v0] := by cases args; simp_all
  obtain ⟨rfl, rfl⟩ := trodVars_none hV
  obtain ⟨A0, l0, c0, rfl, k0⟩ := open_ints_ (hval 0 41 v0 rfl rfl) h0 (fun x hx => by simpa using hW'.lt x (by simp [hx]))
  have hT : Tab W := tab_of_laid hL (by kernel_rfl)
  clear hA0 hval0
  have hlt : ∀ x ∈ p0 ++ [], x.block < W.heap.size := fun x hx => by simpa using hW'.lt x (by simpa using hx)
  refine (FracWritten_any k0 hT).mono fun e W' ⟨he, hg⟩ => ?_
  subst he
  exact ⟨_, rfl, post_of_below (pa := p0 ++ []) (pv := []) hW' (fun _ _ _ => trodAll_cons_mk (shut_bool Tryz.underlying4 _) trodAll_mk0) (fun sp hsp => (trodAll_cons_mk (Trod_back (by kernel_rfl) (of_decide_eq_true (by kernel_rfl)) h0 hg (fun x hx => hlt x (by simp [hx])) (fun x hx => hsp x (by simp [hx]))) trodAll_mk0)) (fun _ _ => rfl) (by simp) hg
    (ok_one (by kernel_rfl) rfl (okWide_bool_mk Tryz.underlying4 _))⟩

set_option maxRecDepth 100000 in
theorem k_wf : Rows.fracWrittenRow.wf (OpenSpec.ofChange Rows.fracWrittenSpec) = true := by kernel_rfl
set_option maxRecDepth 100000 in
theorem k_par : (Tryz.f19.params.all (Tryz.prog.readableRec ·) && namedTie Tryz.prog Rows.fracWrittenRow.named Rows.fracWrittenSpec.vars) = true := by kernel_rfl
set_option maxRecDepth 100000 in
theorem k_inPlace : (Rows.fracWrittenRow.inPlace == Tryz.prog.inPlace 19) = true := by kernel_rfl
set_option maxRecDepth 100000 in
theorem k_unf : (Rows.fracWrittenRow.unfollowed == Tryz.prog.unfollowed 19) = true := by kernel_rfl
set_option maxRecDepth 100000 in
theorem k_rec : (Rows.fracWrittenRow.recurses == Tryz.prog.recurses 19) = true := by kernel_rfl
set_option maxRecDepth 100000 in
theorem k_named : (Rows.fracWrittenRow.named == Tryz.prog.varsNamed 19) = true := by kernel_rfl
set_option maxRecDepth 100000 in
theorem k_goes : false = Rows.fracWrittenRow.goesBy Tryz.prog := by kernel_rfl
set_option maxRecDepth 100000 in
theorem k_func : Tryz.prog.funcNamed "meresman/meresmanlaw04.FracWritten" = some 19 := by kernel_rfl
set_option maxRecDepth 100000 in
theorem k_facts : joinedFacts Tryz.prog 19 Tryz.f19 Rows.fracWrittenSpec Rows.fracWrittenRow = true :=
  facts_of k_wf k_par (by kernel_rfl) (by kernel_rfl) k_inPlace k_unf k_rec k_named (by kernel_rfl) (by kernel_rfl) (by kernel_rfl) (by kernel_rfl) (by kernel_rfl) (by kernel_rfl) (by kernel_rfl) (by kernel_rfl) (by kernel_rfl) plain_keys (by kernel_rfl) made_so (by kernel_rfl) (by kernel_rfl) (by kernel_rfl) (by kernel_rfl)
theorem row : Rows.FracWrittenSaid :=
  OpenClaim.holds_of_wide 19 Tryz.f19 rfl rfl rfl rfl rfl rfl rfl ⟨rfl, rfl, rfl, rfl, rfl⟩ rfl rfl rfl rfl rfl k_func Tryz.func19 k_facts
    (of_decide_eq_true (by kernel_rfl)) (by unfold Func.isWrapper; first | (rw [if_pos (by decide +kernel)]; kernel_rfl) | (rw [if_neg (by decide +kernel)]; exact ⟨rfl, rfl⟩))
    (fun os started H enc _ => lifted os started H enc)

theorem proved : Rows.FracWrittenCardSaid :=
  Claim7.holds_tied_plain_at .later [] Rows.fracWrittenCard.laidKinds true Rows.fracWrittenCard.stood.harness Rows.fracWrittenCard.stood.looks
    row (fun _ h => by cases h) (by kernel_rfl) (fun _ h => by cases h) fracWritten_row_tie rfl ⟨rfl, rfl⟩ main_is rfl
    (fun f fn hf hfn => by
      obtain rfl : f = 19 := Option.some.inj (k_func.symm.trans hf) |>.symm
      obtain rfl : fn = Tryz.f19 := (Option.some.inj (Tryz.func19.symm.trans hfn)).symm
      exact ⟨looks_so, fun j t ht => by
        rw [Tryz.params19] at ht
        have hm : t ∈ [41] := by simpa using Array.mem_of_getElem? ht
        have hall : ([41].all fun u => !Tryz.prog.wantsStandIn u) = true := by kernel_rfl
        exact (show Tryz.prog.wantsStandIn t = false by simpa using List.all_eq_true.1 hall t hm)⟩)
    k_goes
#print axioms proved
end Go.Proofs.YthafhbogpfggjaaGreatDoor.fracWritten

