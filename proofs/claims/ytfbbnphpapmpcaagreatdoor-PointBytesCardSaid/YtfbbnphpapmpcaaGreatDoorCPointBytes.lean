/-
  The law PointBytes: its row, and its card, tied to the program's text.
-/
import Derived.Test.YtfbbnphpapmpcaaGreatDoorD5
import Derived.Test.YtfbbnphpapmpcaaGreatDoorN5
import Derived.Test.YtfbbnphpapmpcaaGreatDoorTie
import Derived.Test.YtfbbnphpapmpcaaGreatDoorCards
import Derived.SevenTiedAt
import Derived.Lay
namespace Go.Proofs.YtfbbnphpapmpcaaGreatDoor.pointBytes
open Go.ChangeShapes Go.WideShapes Go.ChangeAt Go.RowKit Go.Proofs.YtfbbnphpapmpcaaGreatDoor
set_option linter.unusedVariables false

theorem met (os : Os) (args : Array Value) : laidMetH Tryz.prog Rows.pointBytesRow.laid ((World.laidAll Tryz.prog os Rows.pointBytesRow.laid).forCall (fun _ _ => 0) ⟨#[], args, []⟩).memory := by
  rw [MakeChecks.laidMetH_plain _ _ _ (by kernel_rfl)]
  exact laidMet_laidAll _ (by kernel_rfl) (by kernel_rfl)

set_option maxRecDepth 100000 in
theorem lifted (os : Os) (started : os.Started) (H : Type) (enc : TypeId × Value → H) :
    ReturnsInHanded {} Tryz.checked os 4 .any (fun w args => (Rows.pointBytesSpec.pre enc Tryz.prog Tryz.f4 [] false w args ∧ laidMetH Tryz.prog Rows.pointBytesRow.laid w) ∧ sizedMet enc Tryz.prog Tryz.f4 (OpenSpec.ofChange Rows.pointBytesSpec) false w args)
      (Rows.pointBytesSpec.post enc Tryz.prog Tryz.f4 false true false false) := by
  refine returnsInHanded_of_change_and (C := Tryz.checked) (X := fun w _ => laidMetH Tryz.prog Rows.pointBytesRow.laid w) (fun _ _ _ hh h => h.of_heap hh) own_ started (by kernel_rfl) Tryz.func4
    (ChangeSpec.witness_shaped (enc := enc) (C := Tryz.checked) (os := os) (X := fun w _ => laidMetH Tryz.prog Rows.pointBytesRow.laid w) false (World.laidAll Tryz.prog os Rows.pointBytesRow.laid) #[.int .i64 0, .int .i64 0, .int .u8 0, .slice none 0 0] 8 (World.laidAll_os _ _ _) (World.shaped_of_ZipB (by kernel_rfl) (by kernel_rfl)) (by kernel_rfl) (by kernel_rfl) (by kernel_rfl) (met os _)) ?_
  intro W base args ds gs before hval0 hW _ _ hL _
  have hval : ∀ (j : Nat) t v, Tryz.f4.params[j]? = some t → args[j]? = some v → Value.okWide Tryz.prog W .any base t v := hval0
  have hW' := hW
  obtain ⟨p, q, hA0, hV, rfl, hfz, hnd⟩ := hW
  have hA : DataW.TrodAll enc Tryz.prog W 0 (fun _ => true) true Tryz.f4.params.toList args.toList ds p := hA0
  rw [Tryz.params4] at hA hval
  obtain ⟨v0, vs0, d0, ds0, p0, q0, hargs, rfl, rfl, h0, r0⟩ := trodAll_cons hA
  obtain ⟨v1, vs1, d1, ds1, p1, q1, rfl, rfl, rfl, h1, r1⟩ := trodAll_cons r0
  obtain ⟨v2, vs2, d2, ds2, p2, q2, rfl, rfl, rfl, h2, r2⟩ := trodAll_cons r1
  obtain ⟨v3, vs3, d3, ds3, p3, q3, rfl, rfl, rfl, h3, r3⟩ := trodAll_cons r2
  obtain ⟨rfl, rfl, rfl⟩ := trodAll_nil r3
  obtain rfl : args = #[v0, v1, v2, v3] := by cases args; simp_all
  obtain ⟨rfl, rfl⟩ := trodVars_none hV
  obtain ⟨a0, rfl, rfl, rfl, w0⟩ := open_int Tryz.underlying3 (hval 0 3 v0 rfl rfl) h0
  obtain ⟨a1, rfl, rfl, rfl, w1⟩ := open_int Tryz.underlying3 (hval 1 3 v1 rfl rfl) h1
  obtain ⟨a2, rfl, rfl, rfl, w2⟩ := open_int Tryz.underlying5 (hval 2 5 v2 rfl rfl) h2
  obtain ⟨A3, l3, c3, rfl, k3⟩ := open_bytes_ (hval 3 36 v3 rfl rfl) h3 (fun x hx => by simpa using hW'.lt x (by simp [hx]))
  have hT : Tab W := tab_of_laid hL (by kernel_rfl)
  have b0 : in64 a0 := in64_of_wf w0
  have b1 : in64 a1 := in64_of_wf w1
  clear hA0 hval0
  have hlt : ∀ x ∈ [] ++ ([] ++ ([] ++ (p3 ++ []))), x.block < W.heap.size := fun x hx => by simpa using hW'.lt x (by simpa using hx)
  refine (PointBytes_any a0 a1 a2 A3 l3 c3 W k3.1 k3.2.1 k3.2.2 b0 b1 (bounds_u8 w2).1 (bounds_u8 w2).2 hT).mono fun e W' ⟨he, hg⟩ => ?_
  subst he
  exact ⟨_, rfl, post_of_below (pa := [] ++ ([] ++ ([] ++ (p3 ++ [])))) (pv := []) hW' (fun _ _ _ => trodAll_cons_mk (shut_bool Tryz.underlying4 _) trodAll_mk0) (fun sp hsp => (trodAll_cons_mk (shut_int Tryz.underlying3 w0) (trodAll_cons_mk (shut_int Tryz.underlying3 w1) (trodAll_cons_mk (shut_int Tryz.underlying5 w2) (trodAll_cons_mk (Trod_back (by kernel_rfl) (of_decide_eq_true (by kernel_rfl)) h3 hg (fun x hx => hlt x (by simp [hx])) (fun x hx => hsp x (by simp [hx]))) trodAll_mk0))))) (fun _ _ => rfl) (by simp) hg
    (ok_one (by kernel_rfl) rfl (okWide_bool_mk Tryz.underlying4 _))⟩

set_option maxRecDepth 100000 in
theorem k_wf : Rows.pointBytesRow.wf (OpenSpec.ofChange Rows.pointBytesSpec) = true := by kernel_rfl
set_option maxRecDepth 100000 in
theorem k_par : (Tryz.f4.params.all (Tryz.prog.readableRec ·) && namedTie Tryz.prog Rows.pointBytesRow.named Rows.pointBytesSpec.vars) = true := by kernel_rfl
set_option maxRecDepth 100000 in
theorem k_inPlace : (Rows.pointBytesRow.inPlace == Tryz.prog.inPlace 4) = true := by kernel_rfl
set_option maxRecDepth 100000 in
theorem k_unf : (Rows.pointBytesRow.unfollowed == Tryz.prog.unfollowed 4) = true := by kernel_rfl
set_option maxRecDepth 100000 in
theorem k_rec : (Rows.pointBytesRow.recurses == Tryz.prog.recurses 4) = true := by kernel_rfl
set_option maxRecDepth 100000 in
theorem k_named : (Rows.pointBytesRow.named == Tryz.prog.varsNamed 4) = true := by kernel_rfl
set_option maxRecDepth 100000 in
theorem k_goes : false = Rows.pointBytesRow.goesBy Tryz.prog := by kernel_rfl
set_option maxRecDepth 100000 in
theorem k_func : Tryz.prog.funcNamed "meresman/meresmanlaw05.PointBytes" = some 4 := by kernel_rfl
set_option maxRecDepth 100000 in
theorem k_facts : joinedFacts Tryz.prog 4 Tryz.f4 Rows.pointBytesSpec Rows.pointBytesRow = true :=
  facts_of k_wf k_par (by kernel_rfl) (by kernel_rfl) k_inPlace k_unf k_rec k_named (by kernel_rfl) (by kernel_rfl) (by kernel_rfl) (by kernel_rfl) (by kernel_rfl) (by kernel_rfl) (by kernel_rfl) (by kernel_rfl) (by kernel_rfl) plain_keys (by kernel_rfl) made_so (by kernel_rfl) (by kernel_rfl) (by kernel_rfl) (by kernel_rfl)
theorem row : Rows.PointBytesSaid :=
  OpenClaim.holds_of_wide 4 Tryz.f4 rfl rfl rfl rfl rfl rfl rfl ⟨rfl, rfl, rfl, rfl, rfl⟩ rfl rfl rfl rfl rfl k_func Tryz.func4 k_facts
    (of_decide_eq_true (by kernel_rfl)) (by unfold Func.isWrapper; first | (rw [if_pos (by decide +kernel)]; kernel_rfl) | (rw [if_neg (by decide +kernel)]; exact ⟨rfl, rfl⟩))
    (fun os started H enc _ => lifted os started H enc)

theorem proved : Rows.PointBytesCardSaid :=
  Claim7.holds_tied_plain_at .later [] Rows.pointBytesCard.laidKinds true Rows.pointBytesCard.stood.harness Rows.pointBytesCard.stood.looks
    row (fun _ h => by cases h) (by kernel_rfl) (fun _ h => by cases h) pointBytes_row_tie rfl ⟨rfl, rfl⟩ main_is rfl
    (fun f fn hf hfn => by
      obtain rfl : f = 4 := Option.some.inj (k_func.symm.trans hf) |>.symm
      obtain rfl : fn = Tryz.f4 := (Option.some.inj (Tryz.func4.symm.trans hfn)).symm
      exact ⟨looks_so, fun j t ht => by
        rw [Tryz.params4] at ht
        have hm : t ∈ [3, 3, 5, 36] := by simpa using Array.mem_of_getElem? ht
        have hall : ([3, 3, 5, 36].all fun u => !Tryz.prog.wantsStandIn u) = true := by kernel_rfl
        exact (show Tryz.prog.wantsStandIn t = false by simpa using List.all_eq_true.1 hall t hm)⟩)
    k_goes
#print axioms proved
end Go.Proofs.YtfbbnphpapmpcaaGreatDoor.pointBytes

