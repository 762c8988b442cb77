/-
  From 'Below' to the post of a law; arguments that are slices of ints.
  Facts of the translation that rows ask for; how they make the facts of a row.
-/
import Derived.Test.YtmlpibdincfgbaaDoorRows
import Derived.Test.YtmlpibdincfgbaaDoorA4
import Derived.ProofKit
import Derived.OpenShut
import Derived.LaidMore
import Derived.LaidSub
import Derived.Lib.LaidTab
import Derived.Stop.Joined
import Derived.ChangeSame
import Derived.Carry
import Derived.Test.YtmlpibdincfgbaaDoorJA
namespace Go.Proofs.YtmlpibdincfgbaaDoor
open Go.ChangeShapes Go.WideShapes Go.ChangeAt Go.RowKit
theorem own_:ownKnob Tryd.prog.godebug=none:=by kernel_rfl
theorem in64_of_wf {a:Int} (h:(Lit.int .i64 a).wf=true):in64 a:=by
 have:=bounds_i64 h
 unfold in64
 omega
theorem cells_int:Tryd.prog.cellsOf 3=1:=by kernel_rfl
theorem laid_out:laidOutB Tryd.prog=true:=by kernel_rfl
theorem Trod_back {H:Type} {enc:TypeId × Value→H} {t:TypeId} (hr:Tryd.prog.readableRec t=true) (hrow:t<Tryd.prog.types.size) {W W':World} {v:Value} {d:DataW H} {ps:List MemPlace}
 (h:DataW.Trod enc Tryd.prog W 0 (fun _=>true) true t v d ps) (hb:Below W.heap.size W W') (hlt:∀ x∈ps,x.block<W.heap.size) {sp:Nat→Bool} (hsp:∀ x∈ps,sp x.block=true) :
 DataW.Trod enc Tryd.prog W' 0 sp true t v d ps:=
 WideElems.Trod_stays laid_out hr hrow h (fun x hx=>hb.same (hlt x hx)) hsp
set_option maxRecDepth 100000 in
theorem open_ints_ {H:Type} {enc:TypeId × Value→H} {W:World} {base:Nat} {v:Value} {d:DataW H} {ps:List MemPlace} (hval:Value.okWide Tryd.prog W .any base 24 v)
 (h:DataW.Trod enc Tryd.prog W 0 (fun _=>true) true 24 v d ps) (hlt:∀ x∈ps,x.block<W.heap.size):∃ A l c,v=.slice A (List.length l) c∧IntsIs W A l c:=by
 obtain ⟨a0,len,cap,rfl⟩:=okWide_slice Tryd.underlying24 hval
 obtain ⟨fuel,hf⟩:=h
 rcases open_ints Tryd.underlying24 Tryd.underlying3 cells_int hf with ⟨hcs,hx⟩ | ⟨a,len',cap',zs,hcs,_,hl,hm,hz,hx,hcell,hwz⟩
 ·simp [Value.cells] at hcs
  obtain ⟨rfl,rfl,rfl⟩:=hcs
  exact ⟨none,[],0,rfl,⟨Sl.nil_,by simp,by simp,by unfold maxLen;omega⟩⟩
 ·simp [Value.cells] at hcs
  obtain ⟨rfl,rfl,rfl⟩:=hcs
  simp only [Prod.mk.injEq] at hx
  obtain ⟨-,rfl⟩:=hx
  simp only [if_true] at hz
  have hlen:(zs.take len).length=len:=by rw [List.length_take];omega
  refine ⟨some a,zs.take len,cap,by rw [hlen],?_,?_,by omega,hm⟩
  ·intro hn
   have hp:0<zs.length:=by
    rcases Nat.eq_zero_or_pos zs.length with h0 | h0
    ·exact absurd (by simp [List.eq_nil_of_length_eq_zero h0]) hn
    ·exact h0
   obtain ⟨b,off,rfl,hc⟩:=ints_at hcell hp
   refine ⟨b,off,rfl,hlt (.cell b off) (MemPlace.mem_row.2 ⟨0,hp,by simp⟩),fun j x hj=>?_⟩
   rw [List.getElem?_map] at hj
   have hjl:j<(zs.take len).length:=by
    rcases Nat.lt_or_ge j (zs.take len).length with h1 | h1
    ·exact h1
    ·rw [List.getElem?_eq_none h1] at hj;cases hj
   rw [List.getElem?_eq_getElem hjl] at hj
   have e:x=.int .i64 (zs.getD j 0):=by
    simp at hj
    rw [← hj,i64,List.getD_eq_getElem?_getD,List.getElem?_eq_getElem (by omega)]
    rfl
   rw [hc j (by omega),e]
  ·intro x hx
   exact bounds_i64 (hwz x (List.mem_of_mem_take hx))
section
variable {H:Type} {enc:TypeId × Value→H} {P:Program}
theorem post_of_below {f:Func} {s:ChangeSpec} {apart fresh handsOn again:Bool} {W W':World} {args:Array Value} {v:Value} {ds gs:List (DataW H)} {before pa pv:List MemPlace}
 (hW:DataW.Whole enc P f.params.toList s.vars apart W args.toList ds gs before)
 (hres:∀ (b:Nat) (sp:Nat→Bool) (hd:Bool),DataW.TrodAll enc P W' b sp hd f.resultTypes.toList (v.resultList f.resultTypes.size) (s.fn H (ds++gs)).results [])
 (hargs:∀ sp:Nat→Bool,(∀ p∈before,sp p.block=true)→DataW.TrodAll enc P W' 0 sp true f.params.toList args.toList (s.fn H (ds++gs)).args pa)
 (hvars:∀ sp:Nat→Bool,(∀ p∈before,sp p.block=true)→DataW.TrodVars enc P W' sp s.vars (s.fn H (ds++gs)).vars pv)
 (hps:before=pa++pv) (hb:Below W.heap.size W W')
 (hok:∀ (j:Nat) (t:TypeId) (r:Value),f.resultTypes[j]? = some t→(v.resultList f.resultTypes.size)[j]? = some r→Value.okWide P W' .any 0 t r) :
 s.post enc P f apart fresh handsOn again W args v W':=by
 have hlt:∀ p∈before,p.block<W.heap.size:=fun p hp=>hW.lt p hp
 have hold:∀ p∈before,(fun b=>decide (b<W.heap.size)) p.block=true:=fun p hp=>by simpa using hlt p hp
 refine ⟨ds,gs,before,[],pa,pv,hW,hres _ _ _,hargs _ hold,hvars _ hold,World.keptBut_mono (fun p hp=>⟨hp,?_⟩) (hb.frame (·∈before)),fun _=>?_⟩
 ·rw [hps,List.mem_append] at hp
  exact Or.inr hp
 ·obtain ⟨_,_,_,_,_,hz,hn⟩:=hW
  refine ⟨hok,_,_,([]++pa)++pv,⟨[]++pa,pv,trodAll_append (hargs _ (fun _ _=>rfl)) (hres _ _ _),hvars _ (fun _ _=>rfl),rfl,?_,?_⟩,?_⟩
  ·intro b off hp
   have hin:MemPlace.cell b off∈before:=by rw [hps];simpa using hp
   rw [hb.frozen (hlt _ hin)]
   exact hz b off hin
  ·intro ha
   have:=hn ha
   rw [hps] at this
   simpa using this
  ·intro p hp _
   rw [hps]
   simpa using hp
end
end Go.Proofs.YtmlpibdincfgbaaDoor
namespace Go.Proofs.YtmlpibdincfgbaaDoor
set_option maxRecDepth 100000 in
theorem maps_rowed:mapsRowed Tryd.prog=true:=by kernel_rfl
set_option maxRecDepth 100000 in
theorem no_stops:(Tryd.prog.stops==[])=true:=by kernel_rfl
set_option maxRecDepth 100000 in
theorem no_stopKnobs:(Tryd.prog.stopKnobs==[])=true:=by kernel_rfl
set_option maxRecDepth 100000 in
theorem plain_keys:(Rows.queryLimitsRow.plainKeys==Tryd.prog.plainKeys)=true:=by kernel_rfl
set_option maxRecDepth 100000 in
theorem stops_heard:Tryd.prog.stopsHeard=true:=by kernel_rfl
set_option maxRecDepth 100000 in
theorem looks_so:Rows.queryLimitsCard.stood.looks=Tryd.prog.looks []:=by kernel_rfl
theorem and_ {a b:Bool} (ha:a=true) (hb:b=true):(a&&b)=true:=by rw [ha,hb];rfl
theorem and_l {a b:Bool} (h:(a&&b)=true):a=true:=by cases a <;> simp_all
theorem and_r {a b:Bool} (h:(a&&b)=true):b=true:=by cases a <;> simp_all
set_option maxRecDepth 100000 in
theorem facts_of {f:FuncId} {fn:Func} {s:ChangeSpec} {c:OpenClaim}
 (h1:c.wf (OpenSpec.ofChange s)=true) (h2:(fn.params.all (Tryd.prog.readableRec ·)&&namedTie Tryd.prog c.named s.vars)=true) (h3:(c.stops==[])=true) (h4:(c.knobs==[])=true)
 (h5:(c.inPlace==Tryd.prog.inPlace f)=true) (h6:(c.unfollowed==Tryd.prog.unfollowed f)=true) (h7:(c.recurses==Tryd.prog.recurses f)=true) (h8:(c.named==Tryd.prog.varsNamed f)=true)
 (h9:(c.maps==(fn.params.toList++s.plain.varTypes Tryd.prog).any (Tryd.prog.mapsRec ·))=true) (h10:(c.ifaces==(fn.params.toList++s.plain.varTypes Tryd.prog).any (Tryd.prog.ifacesRec ·))=true) (h11:(c.mapsOut==Tryd.prog.mapsAmong fn.resultTypes.toList)=true)
 (h12:(c.loops==(fn.params.toList++s.plain.varTypes Tryd.prog).any (Tryd.prog.loopsFrom ·))=true) (h13:(c.wideKeys==(fn.params.toList++s.plain.varTypes Tryd.prog++fn.resultTypes.toList).any (Tryd.prog.wideKeysFrom ·))=true)
 (h14:s.vars.all (Tryd.prog.varReadable ·)=true) (h15:fn.resultTypes.all (fun t=>Tryd.prog.readableRec t&&decide (t<Tryd.prog.types.size))=true) (h16:(c.ifacesOut==fn.resultTypes.toList.any (Tryd.prog.ifacesRec ·))=true) (h17:(c.loopsOut==fn.resultTypes.toList.any (Tryd.prog.loopsFrom ·))=true)
 (h18:(c.plainKeys==Tryd.prog.plainKeys)=true) (h19:c.shortTexts.isNone=true) (h20:((c.lifted==Tryd.prog.liftsFinal)&&(Tryd.prog.make==some c.make))=true)
 (h21:(c.kinds==(if c.domain.isEmpty then [] else fn.params.toList.map fun t=>match Tryd.prog.underlying t with | some (.int k)=>some k | _=>none))=true) (h22:(c.pinned==c.pinnedBy)=true)
 (h23:(c.veiled==(fn.params.toList++s.plain.varTypes Tryd.prog++fn.resultTypes.toList).any (Tryd.prog.veiledRec ·))=true) (h24:c.veiledFits Tryd.prog fn.params.toList (fn.params.toList++s.plain.varTypes Tryd.prog++fn.resultTypes.toList)=true) :
 joinedFacts Tryd.prog f fn s c=true:=by
 unfold joinedFacts
 exact (and_ (and_ (and_ (and_ (and_ (and_ (and_ (and_ (and_ (and_ (and_ (and_ (and_ (and_ (and_ (and_ (and_ (and_ (and_ (and_ (and_ (and_ (and_ (and_ (and_ (and_ (and_ (and_ (and_ (and_ (and_ h1 laid_out) maps_rowed) (and_l h2)) (and_r h2)) h3) no_stops) h4) no_stopKnobs) h5) h6) h7) h8) h9) h10) h11) h12) h13) h14) h15) h16) h17) h18) h19) stops_heard) may_enter) (and_l h20)) (and_r h20)) h21) h22) h23) h24)
end Go.Proofs.YtmlpibdincfgbaaDoor
