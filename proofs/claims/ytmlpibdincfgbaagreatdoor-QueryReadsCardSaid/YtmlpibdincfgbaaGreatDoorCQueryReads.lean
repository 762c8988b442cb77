/-
  The law QueryReads: its row, and its card, tied to the program's text.
-/
import Derived.Test.YtmlpibdincfgbaaGreatDoorJB
import Derived.Test.YtmlpibdincfgbaaGreatDoorQS5
import Derived.Test.YtmlpibdincfgbaaGreatDoorTie
import Derived.Test.YtmlpibdincfgbaaGreatDoorCards
import Derived.SevenTiedAt
import Derived.Lay
import Derived.ChangeMaps5
namespace Go.Proofs.YtmlpibdincfgbaaGreatDoor.queryReads
open Go.ChangeShapes Go.WideShapes Go.ChangeAt Go.RowKit Go.Proofs.YtmlpibdincfgbaaGreatDoor
set_option linter.unusedVariables false

theorem met (os : Os) (args : Array Value) : laidMetH Tryz.prog Rows.queryReadsRow.laid ((World.laidAll Tryz.prog os Rows.queryReadsRow.laid).forCall (fun _ _ => 0) ⟨#[], args, []⟩).memory := by
 rw [MakeChecks.laidMetH_plain _ _ _ (by kernel_rfl)]
 exact laidMet_laidAll _ (by kernel_rfl) (by kernel_rfl)

set_option maxRecDepth 100000 in
theorem lifted (os : Os) (started : os.Started) (H : Type) (enc : TypeId × Value → H) :
  ReturnsInHanded {} Tryz.checked os 3 .any (fun w args => (Rows.queryReadsSpec.pre enc Tryz.prog Tryz.f3 [] false w args ∧ laidMetH Tryz.prog Rows.queryReadsRow.laid w) ∧ sizedMet enc Tryz.prog Tryz.f3 (OpenSpec.ofChange Rows.queryReadsSpec) false w args)
   (Rows.queryReadsSpec.post enc Tryz.prog Tryz.f3 false true false false) := by
 refine returnsInHanded_of_change_and (C := Tryz.checked) (X := fun w _ => laidMetH Tryz.prog Rows.queryReadsRow.laid w) (fun _ _ _ hh h => h.of_heap hh) own_ started (by kernel_rfl) Tryz.func3
  (ChangeSpec.witness_shaped (enc := enc) (C := Tryz.checked) (os := os) (X := fun w _ => laidMetH Tryz.prog Rows.queryReadsRow.laid w) false (World.laidAll Tryz.prog os Rows.queryReadsRow.laid) #[.slice none 0 0, .int .i64 0, .int .i64 0, .int .u8 0, .string ⟨#[]⟩, .int .i64 0] 8 (World.laidAll_os _ _ _) (World.shaped_of_ZipB (by kernel_rfl) (by kernel_rfl)) (by kernel_rfl) (by kernel_rfl) (by kernel_rfl) (met os _)) ?_
 intro W base args ds gs before hval0 hW _ _ hL _
 have hval : ∀ (j : Nat) t v, Tryz.f3.params[j]? = some t → args[j]? = some v → Value.okWide Tryz.prog W .any base t v := hval0
 have hW' := hW
 obtain ⟨p, q, hA0, hV, rfl, hfz, hnd⟩ := hW
 have hA : DataW.TrodAll enc Tryz.prog W 0 (fun _ => true) true Tryz.f3.params.toList args.toList ds p := hA0
 rw [Tryz.params3] at hA hval
 obtain ⟨v0, vs0, d0, ds0, p0, q0, hargs, rfl, rfl, h0, r0⟩ := trodAll_cons hA
 obtain ⟨v1, vs1, d1, ds1, p1, q1, rfl, rfl, rfl, h1, r1⟩ := trodAll_cons r0
 obtain ⟨v2, vs2, d2, ds2, p2, q2, rfl, rfl, rfl, h2, r2⟩ := trodAll_cons r1
 obtain ⟨v3, vs3, d3, ds3, p3, q3, rfl, rfl, rfl, h3, r3⟩ := trodAll_cons r2
 obtain ⟨v4, vs4, d4, ds4, p4, q4, rfl, rfl, rfl, h4, r4⟩ := trodAll_cons r3
 obtain ⟨v5, vs5, d5, ds5, p5, q5, rfl, rfl, rfl, h5, r5⟩ := trodAll_cons r4
 obtain ⟨rfl, rfl, rfl⟩ := trodAll_nil r5
 obtain rfl : args = #[v0, v1, v2, v3, v4, v5] := by cases args; simp_all
 obtain ⟨rfl, rfl⟩ := trodVars_none hV
 obtain ⟨A0, l0, c0, rfl, k0⟩ := open_ints_ (hval 0 22 v0 rfl rfl) h0 (fun x hx => by simpa using hW'.lt x (by simp [hx]))
 obtain ⟨a1, rfl, rfl, rfl, w1⟩ := open_int Tryz.underlying3 (hval 1 3 v1 rfl rfl) h1
 obtain ⟨a2, rfl, rfl, rfl, w2⟩ := open_int Tryz.underlying3 (hval 2 3 v2 rfl rfl) h2
 obtain ⟨a3, rfl, rfl, rfl, w3⟩ := open_int Tryz.underlying5 (hval 3 5 v3 rfl rfl) h3
 obtain ⟨s4, rfl, rfl, rfl, z4⟩ := Go.ChangeMaps.open_string Tryz.underlying9 (hval 4 9 v4 rfl rfl) h4
 obtain ⟨a5, rfl, rfl, rfl, w5⟩ := open_int Tryz.underlying3 (hval 5 3 v5 rfl rfl) h5
 have b1 : in64 a1 := in64_of_wf w1
 have b2 : in64 a2 := in64_of_wf w2
 have b5 : in64 a5 := in64_of_wf w5
 clear hA0 hval0
 have hlt : ∀ x ∈ p0 ++ ([] ++ ([] ++ ([] ++ ([] ++ ([] ++ []))))), x.block < W.heap.size := fun x hx => by simpa using hW'.lt x (by simpa using hx)
 refine (QueryReads_any k0 b1 b2 b5).mono fun e W' ⟨he, hg⟩ => ?_
 subst he
 exact ⟨_, rfl, post_of_below (pa := p0 ++ ([] ++ ([] ++ ([] ++ ([] ++ ([] ++ [])))))) (pv := []) hW' (fun _ _ _ => trodAll_cons_mk (shut_bool Tryz.underlying4 _) trodAll_mk0) (fun sp hsp => (trodAll_cons_mk (Trod_back (by kernel_rfl) (of_decide_eq_true (by kernel_rfl)) h0 hg (fun x hx => hlt x (by simp [hx])) (fun x hx => hsp x (by simp [hx]))) (trodAll_cons_mk (shut_int Tryz.underlying3 w1) (trodAll_cons_mk (shut_int Tryz.underlying3 w2) (trodAll_cons_mk (shut_int Tryz.underlying5 w3) (trodAll_cons_mk (Go.ChangeMaps.shut_string Tryz.underlying9 z4) (trodAll_cons_mk (shut_int Tryz.underlying3 w5) trodAll_mk0))))))) (fun _ _ => rfl) (by simp) hg
  (ok_one (by kernel_rfl) rfl (okWide_bool_mk Tryz.underlying4 _))⟩

set_option maxRecDepth 100000 in
theorem k_wf : Rows.queryReadsRow.wf (OpenSpec.ofChange Rows.queryReadsSpec) = true := by kernel_rfl
set_option maxRecDepth 100000 in
theorem k_par : (Tryz.f3.params.all (Tryz.prog.readableRec ·) && namedTie Tryz.prog Rows.queryReadsRow.named Rows.queryReadsSpec.vars) = true := by kernel_rfl
set_option maxRecDepth 100000 in
theorem k_inPlace : (Rows.queryReadsRow.inPlace == Tryz.prog.inPlace 3) = true := by kernel_rfl
set_option maxRecDepth 100000 in
theorem k_unf : (Rows.queryReadsRow.unfollowed == Tryz.prog.unfollowed 3) = true := by kernel_rfl
set_option maxRecDepth 100000 in
theorem k_rec : (Rows.queryReadsRow.recurses == Tryz.prog.recurses 3) = true := by kernel_rfl
set_option maxRecDepth 100000 in
theorem k_named : (Rows.queryReadsRow.named == Tryz.prog.varsNamed 3) = true := by kernel_rfl
set_option maxRecDepth 100000 in
theorem k_goes : false = Rows.queryReadsRow.goesBy Tryz.prog := by kernel_rfl
set_option maxRecDepth 100000 in
theorem k_func : Tryz.prog.funcNamed "meresman/meresmanlaw38.QueryReads" = some 3 := by kernel_rfl
set_option maxRecDepth 100000 in
theorem k_facts : joinedFacts Tryz.prog 3 Tryz.f3 Rows.queryReadsSpec Rows.queryReadsRow = true :=
 facts_of k_wf k_par (by kernel_rfl) (by kernel_rfl) k_inPlace k_unf k_rec k_named (by kernel_rfl) (by kernel_rfl) (by kernel_rfl) (by kernel_rfl) (by kernel_rfl) (by kernel_rfl) (by kernel_rfl) (by kernel_rfl) (by kernel_rfl) plain_keys (by kernel_rfl) made_so (by kernel_rfl) (by kernel_rfl) (by kernel_rfl) (by kernel_rfl)
theorem row : Rows.QueryReadsSaid :=
 OpenClaim.holds_of_wide 3 Tryz.f3 rfl rfl rfl rfl rfl rfl rfl ⟨rfl, rfl, rfl, rfl, rfl⟩ rfl rfl rfl rfl rfl k_func Tryz.func3 k_facts
  (of_decide_eq_true (by kernel_rfl)) (by unfold Func.isWrapper; first | (rw [if_pos (by decide +kernel)]; kernel_rfl) | (rw [if_neg (by decide +kernel)]; exact ⟨rfl, rfl⟩))
  (fun os started H enc _ => lifted os started H enc)

theorem proved : Rows.QueryReadsCardSaid :=
 Claim7.holds_tied_plain_at .later [] Rows.queryReadsCard.laidKinds true Rows.queryReadsCard.stood.harness Rows.queryReadsCard.stood.looks
  row (fun _ h => by cases h) (by kernel_rfl) (fun _ h => by cases h) queryReads_row_tie rfl ⟨rfl, rfl⟩ main_is rfl
  (fun f fn hf hfn => by
   obtain rfl : f = 3 := Option.some.inj (k_func.symm.trans hf) |>.symm
   obtain rfl : fn = Tryz.f3 := (Option.some.inj (Tryz.func3.symm.trans hfn)).symm
   exact ⟨looks_so, fun j t ht => by
    rw [Tryz.params3] at ht
    have hm : t ∈ [22, 3, 3, 5, 9, 3] := by simpa using Array.mem_of_getElem? ht
    have hall : ([22, 3, 3, 5, 9, 3].all fun u => !Tryz.prog.wantsStandIn u) = true := by kernel_rfl
    exact (show Tryz.prog.wantsStandIn t = false by simpa using List.all_eq_true.1 hall t hm)⟩)
  k_goes
#print axioms proved
end Go.Proofs.YtmlpibdincfgbaaGreatDoor.queryReads

