/-
  Facts of the translation that rows ask for; how they make the facts of a row.
-/
import Derived.Test.YtfbbnphpapmpcaaGreatDoorD2
import Derived.Test.YtfbbnphpapmpcaaGreatDoorD3
import Derived.Test.YtfbbnphpapmpcaaGreatDoorD4
import Derived.Test.YtfbbnphpapmpcaaGreatDoorD1
namespace Go.Proofs.YtfbbnphpapmpcaaGreatDoor
set_option maxRecDepth 100000 in
theorem maps_rowed : mapsRowed Tryz.prog = true := by kernel_rfl
set_option maxRecDepth 100000 in
theorem no_stops : (Tryz.prog.stops == []) = true := by kernel_rfl
set_option maxRecDepth 100000 in
theorem no_stopKnobs : (Tryz.prog.stopKnobs == []) = true := by kernel_rfl
set_option maxRecDepth 100000 in
theorem plain_keys : (Rows.pointOrderRow.plainKeys == Tryz.prog.plainKeys) = true := by kernel_rfl
set_option maxRecDepth 100000 in
theorem stops_heard : Tryz.prog.stopsHeard = true := by kernel_rfl
set_option maxRecDepth 100000 in
theorem looks_so : Rows.pointOrderCard.stood.looks = Tryz.prog.looks [] := by kernel_rfl
theorem and_ {a b : Bool} (ha : a = true) (hb : b = true) : (a && b) = true := by rw [ha, hb]; rfl
theorem and_l {a b : Bool} (h : (a && b) = true) : a = true := by cases a <;> simp_all
theorem and_r {a b : Bool} (h : (a && b) = true) : b = true := by cases a <;> simp_all
set_option maxRecDepth 100000 in
/-- A row's facts, out of those that are of the translation alone and of those that are the row's. -/
theorem facts_of {f : FuncId} {fn : Func} {s : ChangeSpec} {c : OpenClaim}
    (h1 : c.wf (OpenSpec.ofChange s) = true) (h2 : (fn.params.all (Tryz.prog.readableRec ·) && namedTie Tryz.prog c.named s.vars) = true) (h3 : (c.stops == []) = true) (h4 : (c.knobs == []) = true)
    (h5 : (c.inPlace == Tryz.prog.inPlace f) = true) (h6 : (c.unfollowed == Tryz.prog.unfollowed f) = true) (h7 : (c.recurses == Tryz.prog.recurses f) = true) (h8 : (c.named == Tryz.prog.varsNamed f) = true)
    (h9 : (c.maps == (fn.params.toList ++ s.plain.varTypes Tryz.prog).any (Tryz.prog.mapsRec ·)) = true) (h10 : (c.ifaces == (fn.params.toList ++ s.plain.varTypes Tryz.prog).any (Tryz.prog.ifacesRec ·)) = true) (h11 : (c.mapsOut == Tryz.prog.mapsAmong fn.resultTypes.toList) = true)
    (h12 : (c.loops == (fn.params.toList ++ s.plain.varTypes Tryz.prog).any (Tryz.prog.loopsFrom ·)) = true) (h13 : (c.wideKeys == (fn.params.toList ++ s.plain.varTypes Tryz.prog ++ fn.resultTypes.toList).any (Tryz.prog.wideKeysFrom ·)) = true)
    (h14 : s.vars.all (Tryz.prog.varReadable ·) = true) (h15 : fn.resultTypes.all (fun t => Tryz.prog.readableRec t && decide (t < Tryz.prog.types.size)) = true) (h16 : (c.ifacesOut == fn.resultTypes.toList.any (Tryz.prog.ifacesRec ·)) = true) (h17 : (c.loopsOut == fn.resultTypes.toList.any (Tryz.prog.loopsFrom ·)) = true)
    (h18 : (c.plainKeys == Tryz.prog.plainKeys) = true) (h19 : c.shortTexts.isNone = true) (h20 : ((c.lifted == Tryz.prog.liftsFinal) && (Tryz.prog.make == some c.make)) = true)
    (h21 : (c.kinds == (if c.domain.isEmpty then [] else fn.params.toList.map fun t => match Tryz.prog.underlying t with | some (.int k) => some k | _ => none)) = true) (h22 : (c.pinned == c.pinnedBy) = true)
    (h23 : (c.veiled == (fn.params.toList ++ s.plain.varTypes Tryz.prog ++ fn.resultTypes.toList).any (Tryz.prog.veiledRec ·)) = true) (h24 : c.veiledFits Tryz.prog fn.params.toList (fn.params.toList ++ s.plain.varTypes Tryz.prog ++ fn.resultTypes.toList) = true) :
    joinedFacts Tryz.prog f fn s c = true := by
  unfold joinedFacts
  exact (and_ (and_ (and_ (and_ (and_ (and_ (and_ (and_ (and_ (and_ (and_ (and_ (and_ (and_ (and_ (and_ (and_ (and_ (and_ (and_ (and_ (and_ (and_ (and_ (and_ (and_ (and_ (and_ (and_ (and_ (and_ h1 laid_out) maps_rowed) (and_l h2)) (and_r h2)) h3) no_stops) h4) no_stopKnobs) h5) h6) h7) h8) h9) h10) h11) h12) h13) h14) h15) h16) h17) h18) h19) stops_heard) may_enter) (and_l h20)) (and_r h20)) h21) h22) h23) h24)
end Go.Proofs.YtfbbnphpapmpcaaGreatDoor
