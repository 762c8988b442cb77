/-
  Regions that draw, in a round of a range over a function.
-/
import Derived.Test.YtmlpibdincfgbaaDoorK14
import Derived.RangeFuncCalls
import Derived.OrdersIn
import Derived.TacticsIn
namespace Go.Proofs.YtmlpibdincfgbaaDoor
open Go.RowKit
theorem rows_in {n:Nat} {P:Program} {row:String} {args:Array Value} {w:World} {R:Value→World→Prop} (l:Nat) (h:Rows P row args w R):RowsIn (Fence.wide.inRound l) n P row args w R:=by
 intro c cs _
 obtain ⟨v,w',r,s⟩:=h c cs
 exact ⟨v,w',r,stepsIn_wide.2 s⟩
theorem oper_round {n:Nat} {P:Program} {o:Oper} {a:Act} {w:World} {K:Act→World→Prop} {Q:Exit→Act→World→Prop} (l:Nat) (hd:∀ c,o.op≠.defer c) (h:o.wp P a w K Q):o.wpIn (Fence.wide.inRound l) n P a w K Q:=by
 refine ⟨fun _ _=>trivial,?_⟩
 rw [show (Fence.wide.inRound l).round=some l from rfl,Oper.semAt_some l a.eval o hd]
 unfold Oper.wp at h
 revert h
 cases (execOp a.eval o).run P w with
 | halt hh w'=>cases hh <;> exact fun h=>h
 | ok x w'=>
  cases x
  all_goals first | exact fun h=>h | exact fun h=>h.elim | exact fun h=>⟨fun e=>(by cases e),CallsIn.inRound l (callsIn_wide.2 h)⟩ | exact fun h=>⟨fun e=>(by cases e),rows_in l h⟩
theorem op_round {n:Nat} {P:Program} {ops:Array Oper} {Q:Exit→Act→World→Prop} {i:Nat} {K:Act→World→Prop} {a:Act} {w:World} (l:Nat) (hL:¬ LetsOut Q) (hd:∀ (i:Nat) (o:Oper),ops[i]? = some o→∀ c,o.op≠.defer c) (h:wpOp P ops Q i K a w):wpOpIn (Fence.wide.inRound l) n P ops Q i K a w:=by
 unfold wpOpIn
 unfold wpOp at h
 cases ho:ops[i]? with
 | none=>rw [ho] at h;exact h
 | some o=>
  rw [ho] at h
  simp only at h ⊢
  split
  ·rename_i hw
   rw [if_pos hw] at h
   exact oper_round l (hd i o ho) (h.resolve_right fun k=>hL k.2)
  ·rename_i hw
   rw [if_neg hw] at h
   exact ⟨fun _ _=>trivial,h⟩
theorem any_round {n:Nat} {P:Program} {ops:Array Oper} {Q:Exit→Act→World→Prop} (l:Nat) (hL:¬ LetsOut Q) (hd:∀ (i:Nat) (o:Oper),ops[i]? = some o→∀ c,o.op≠.defer c):∀ (fuel:Nat) (L:Array Bool) (a:Act) (w:World),wpAny P .any ops Q fuel L a w→wpAnyIn (Fence.wide.inRound l) n P .any ops Q fuel L a w:=by
 intro fuel
 induction fuel with
 | zero=>exact fun L a w h=>h
 | succ fuel ih=>exact fun L a w h=>⟨h.1,fun i hi=>op_round l hL hd (wpOp_mono (fun a w h=>ih _ a w h) (h.2 i hi))⟩
theorem region_round {n:Nat} {P:Program} {ops:Array Oper} {Q:Exit→Act→World→Prop} {a:Act} {w:World} {id:Nat} (l:Nat) (hL:¬ LetsOut Q) (hm:P.follows .mixedOrders=true) (hd:(ops.toList.all fun o=>match o.op with | .defer _=>false | _=>true)=true)
 (h:wpAny P .any ops Q ops.size (Array.replicate ops.size false) a w.drew):(Code.region id ops true).wpIn (Fence.wide.inRound l) n P Q a w:=by
 refine wpIn_region_any hm (any_round l hL (fun i o ho c e=>?_) _ _ _ _ h)
 have:=List.all_eq_true.1 hd o (List.mem_of_getElem? (by rw [Array.getElem?_toList];exact ho))
 rw [e] at this
 cases this
end Go.Proofs.YtmlpibdincfgbaaDoor
