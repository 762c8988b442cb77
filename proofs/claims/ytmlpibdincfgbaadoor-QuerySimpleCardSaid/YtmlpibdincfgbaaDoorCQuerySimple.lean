/-
  The law QuerySimple: its row, and its card, tied to the program's text.
-/
import Derived.Test.YtmlpibdincfgbaaDoorJB
import Derived.Test.YtmlpibdincfgbaaDoorM52
import Derived.Test.YtmlpibdincfgbaaDoorTie
import Derived.Test.YtmlpibdincfgbaaDoorCards
import Derived.SevenTiedAt
import Derived.Lay
namespace Go.Proofs.YtmlpibdincfgbaaDoor.querySimple
open Go.ChangeShapes Go.WideShapes Go.ChangeAt Go.RowKit Go.Proofs.YtmlpibdincfgbaaDoor
set_option linter.unusedVariables false
theorem met (os:Os) (args:Array Value):laidMetH Tryd.prog Rows.querySimpleRow.laid ((World.laidAll Tryd.prog os Rows.querySimpleRow.laid).forCall (fun _ _=>0) ⟨#[],args,[]⟩).memory:=by
 rw [MakeChecks.laidMetH_plain _ _ _ (by kernel_rfl)]
 exact laidMet_laidAll _ (by kernel_rfl) (by kernel_rfl)
set_option maxRecDepth 100000 in
theorem lifted (os:Os) (started:os.Started) (H:Type) (enc:TypeId × Value→H) :
 ReturnsInHanded {} Tryd.checked os 6 .any (fun w args=>(Rows.querySimpleSpec.pre enc Tryd.prog Tryd.f6 [] false w args∧laidMetH Tryd.prog Rows.querySimpleRow.laid w)∧sizedMet enc Tryd.prog Tryd.f6 (OpenSpec.ofChange Rows.querySimpleSpec) false w args)
  (Rows.querySimpleSpec.post enc Tryd.prog Tryd.f6 false true false false):=by
 refine returnsInHanded_of_change_and (C:=Tryd.checked) (X:=fun w _=>laidMetH Tryd.prog Rows.querySimpleRow.laid w) (fun _ _ _ hh h=>h.of_heap hh) own_ started (by kernel_rfl) Tryd.func6
  (ChangeSpec.witness_shaped (enc:=enc) (C:=Tryd.checked) (os:=os) (X:=fun w _=>laidMetH Tryd.prog Rows.querySimpleRow.laid w) false (World.laidAll Tryd.prog os Rows.querySimpleRow.laid) #[.slice none 0 0,.int .i64 0,.slice none 0 0] 8 (World.laidAll_os _ _ _) (World.shaped_of_ZipB (by kernel_rfl) (by kernel_rfl)) (by kernel_rfl) (by kernel_rfl) (by kernel_rfl) (met os _)) ?_
 intro W base args ds gs before hval0 hW _ _ hL _
 have hval:∀ (j:Nat) t v,Tryd.f6.params[j]? = some t→args[j]? = some v→Value.okWide Tryd.prog W .any base t v:=hval0
 have hW':=hW
 obtain ⟨p,q,hA0,hV,rfl,hfz,hnd⟩:=hW
 have hA:DataW.TrodAll enc Tryd.prog W 0 (fun _=>true) true Tryd.f6.params.toList args.toList ds p:=hA0
 rw [Tryd.params6] at hA hval
 obtain ⟨v0,vs0,d0,ds0,p0,q0,hargs,rfl,rfl,h0,r0⟩:=trodAll_cons hA
 obtain ⟨v1,vs1,d1,ds1,p1,q1,rfl,rfl,rfl,h1,r1⟩:=trodAll_cons r0
 obtain ⟨v2,vs2,d2,ds2,p2,q2,rfl,rfl,rfl,h2,r2⟩:=trodAll_cons r1
 obtain ⟨rfl,rfl,rfl⟩:=trodAll_nil r2
 obtain rfl:args=#[v0,v1,v2]:=by cases args;simp_all
 obtain ⟨rfl,rfl⟩:=trodVars_none hV
 obtain ⟨A0,l0,c0,rfl,k0⟩:=open_ints_ (hval 0 24 v0 rfl rfl) h0 (fun x hx=>by simpa using hW'.lt x (by simp [hx]))
 obtain ⟨a1,rfl,rfl,rfl,w1⟩:=open_int Tryd.underlying3 (hval 1 3 v1 rfl rfl) h1
 obtain ⟨A2,l2,c2,rfl,k2⟩:=open_ints_ (hval 2 24 v2 rfl rfl) h2 (fun x hx=>by simpa using hW'.lt x (by simp [hx]))
 have b1:in64 a1:=in64_of_wf w1
 clear hA0 hval0
 have hlt:∀ x∈p0++([]++(p2++[])),x.block<W.heap.size:=fun x hx=>by simpa using hW'.lt x (by simpa using hx)
 refine (QuerySimple_any k0 b1 k2).mono fun e W' ⟨he,hg⟩=>?_
 subst he
 exact ⟨_,rfl,post_of_below (pa:=p0++([]++(p2++[]))) (pv:=[]) hW' (fun _ _ _=>trodAll_cons_mk (shut_bool Tryd.underlying4 _) trodAll_mk0) (fun sp hsp=>(trodAll_cons_mk (Trod_back (by kernel_rfl) (of_decide_eq_true (by kernel_rfl)) h0 hg (fun x hx=>hlt x (by simp [hx])) (fun x hx=>hsp x (by simp [hx]))) (trodAll_cons_mk (shut_int Tryd.underlying3 w1) (trodAll_cons_mk (Trod_back (by kernel_rfl) (of_decide_eq_true (by kernel_rfl)) h2 hg (fun x hx=>hlt x (by simp [hx])) (fun x hx=>hsp x (by simp [hx]))) trodAll_mk0)))) (fun _ _=>rfl) (by simp) hg
  (ok_one (by kernel_rfl) rfl (okWide_bool_mk Tryd.underlying4 _))⟩
set_option maxRecDepth 100000 in
theorem k_wf:Rows.querySimpleRow.wf (OpenSpec.ofChange Rows.querySimpleSpec)=true:=by kernel_rfl
set_option maxRecDepth 100000 in
theorem k_par:(Tryd.f6.params.all (Tryd.prog.readableRec ·)&&namedTie Tryd.prog Rows.querySimpleRow.named Rows.querySimpleSpec.vars)=true:=by kernel_rfl
set_option maxRecDepth 100000 in
theorem k_inPlace:(Rows.querySimpleRow.inPlace==Tryd.prog.inPlace 6)=true:=by kernel_rfl
set_option maxRecDepth 100000 in
theorem k_unf:(Rows.querySimpleRow.unfollowed==Tryd.prog.unfollowed 6)=true:=by kernel_rfl
set_option maxRecDepth 100000 in
theorem k_rec:(Rows.querySimpleRow.recurses==Tryd.prog.recurses 6)=true:=by kernel_rfl
set_option maxRecDepth 100000 in
theorem k_named:(Rows.querySimpleRow.named==Tryd.prog.varsNamed 6)=true:=by kernel_rfl
set_option maxRecDepth 100000 in
theorem k_goes:false=Rows.querySimpleRow.goesBy Tryd.prog:=by kernel_rfl
set_option maxRecDepth 100000 in
theorem k_func:Tryd.prog.funcNamed "meresman/meresmanlaw38.QuerySimple" = some 6:=by kernel_rfl
set_option maxRecDepth 100000 in
theorem k_facts:joinedFacts Tryd.prog 6 Tryd.f6 Rows.querySimpleSpec Rows.querySimpleRow=true:=
 facts_of k_wf k_par (by kernel_rfl) (by kernel_rfl) k_inPlace k_unf k_rec k_named (by kernel_rfl) (by kernel_rfl) (by kernel_rfl) (by kernel_rfl) (by kernel_rfl) (by kernel_rfl) (by kernel_rfl) (by kernel_rfl) (by kernel_rfl) plain_keys (by kernel_rfl) made_so (by kernel_rfl) (by kernel_rfl) (by kernel_rfl) (by kernel_rfl)
theorem row:Rows.QuerySimpleSaid:=
 OpenClaim.holds_of_wide 6 Tryd.f6 rfl rfl rfl rfl rfl rfl rfl ⟨rfl,rfl,rfl,rfl,rfl⟩ rfl rfl rfl rfl rfl k_func Tryd.func6 k_facts
  (of_decide_eq_true (by kernel_rfl)) (by unfold Func.isWrapper;first | (rw [if_pos (by decide +kernel)];kernel_rfl) | (rw [if_neg (by decide +kernel)];exact ⟨rfl,rfl⟩))
  (fun os started H enc _=>lifted os started H enc)
theorem proved:Rows.QuerySimpleCardSaid:=
 Claim7.holds_tied_plain_at .later [] Rows.querySimpleCard.laidKinds true Rows.querySimpleCard.stood.harness Rows.querySimpleCard.stood.looks
  row (fun _ h=>by cases h) (by kernel_rfl) (fun _ h=>by cases h) querySimple_row_tie rfl ⟨rfl,rfl⟩ main_is rfl
  (fun f fn hf hfn=>by
   obtain rfl:f=6:=Option.some.inj (k_func.symm.trans hf) |>.symm
   obtain rfl:fn=Tryd.f6:=(Option.some.inj (Tryd.func6.symm.trans hfn)).symm
   exact ⟨looks_so,fun j t ht=>by
    rw [Tryd.params6] at ht
    have hm:t∈[24,3,24]:=by simpa using Array.mem_of_getElem? ht
    have hall:([24,3,24].all fun u=>!Tryd.prog.wantsStandIn u)=true:=by kernel_rfl
    exact (show Tryd.prog.wantsStandIn t=false by simpa using List.all_eq_true.1 hall t hm)⟩)
  k_goes
#print axioms proved
end Go.Proofs.YtmlpibdincfgbaaDoor.querySimple
