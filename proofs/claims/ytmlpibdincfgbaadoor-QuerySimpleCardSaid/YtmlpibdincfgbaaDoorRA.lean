/-
  Regions that draw: all operations float.
-/
import Derived.Test.YtmlpibdincfgbaaDoorK14
namespace Go.Proofs.YtmlpibdincfgbaaDoor
open Go.RowKit
/-
 The law of regions that draw,with an invariant J of the world and of the set of operations that are done: all operations float.
-/
section
variable {P:Program} {ops:Array Oper} {Q:Exit→Act→World→Prop} {a0 a:Act} {w:World} {J:(Nat→Prop)→World→Prop} {S:List SpecE} {fr:List Oper}
def StepOKA (fr:List Oper) (P:Program) (ops:Array Oper) (Q:Exit→Act→World→Prop) (J:(Nat→Prop)→World→Prop) (S:List SpecE) (a0:Act) (i:Nat) (o:Oper) (s:SpecE):Prop:=
 ∀ D a w,ClosedD ops D→(∀ m,waits o m=true→D m)→¬ D i→J D w→a.defers=a0.defers→FrameOK fr a0 a→DepsGot S ops a w o.after.toList→∀ K:Act→World→Prop,
  (∀ v w',J (fun k=>D k∨k=i) w'→UpD S D w w'→s.p v w'→K (a.put o.dst v) w')→
  if Region.wanted o (yielded ops a.tmps)=true then Oper.wp P o a w K Q else K (a.put o.dst undef) w
def RegStepsA (fr:List Oper) (P:Program) (ops:Array Oper) (Q:Exit→Act→World→Prop) (J:(Nat→Prop)→World→Prop) (S:List SpecE) (a0:Act):Nat→List Oper→List SpecE→Prop
 | _,[],_=>True
 | _,_ :: _,[]=>False
 | i,o :: os,s :: ss=>StepOKA fr P ops Q J S a0 i o s∧RegStepsA fr P ops Q J S a0 (i+1) os ss
theorem RegStepsA.cons {i:Nat} {o:Oper} {os:List Oper} {s:SpecE} {ss:List SpecE} (h:StepOKA fr P ops Q J S a0 i o s) (k:RegStepsA fr P ops Q J S a0 (i+1) os ss):RegStepsA fr P ops Q J S a0 i (o :: os) (s :: ss):=⟨h,k⟩
theorem RegStepsA.nil {i:Nat} {ss:List SpecE}:RegStepsA fr P ops Q J S a0 i [] ss:=trivial
theorem RegStepsA.at_:∀ {os:List Oper} {ss:List SpecE} {n i:Nat} {o:Oper},RegStepsA fr P ops Q J S a0 n os ss→os[i]? = some o→∃ s,ss[i]? = some s∧StepOKA fr P ops Q J S a0 (n+i) o s
 | [],_,_,i,o,_,h=>by cases h
 | _ :: _,[],_,_,_,h,_=>h.elim
 | o :: os,s :: ss,n,0,o',h,h'=>by
  injection h' with h'
  subst h'
  exact ⟨s,rfl,h.1⟩
 | o :: os,s :: ss,n,i+1,o',h,h'=>by
  obtain ⟨s',h1,h2⟩:=RegStepsA.at_ (i:=i) h.2 h'
  rw [Nat.add_right_comm,Nat.add_assoc] at h2
  exact ⟨s',h1,h2⟩
theorem any_allA (J:(Nat→Prop)→World→Prop) (S:List SpecE) (hB:slotsB a0.tmps.size ops=true) (hl:ops.toList.length=S.length)
 (ho:((List.range ops.size).all fun k=>((ops[k]?).map fun o=>o.after.toList.all fun e=>!Region.binds .any e||decide (e.on<k)).getD true)=true)
 (hC:J (fun _=>False) w.drew) (hs:RegStepsA ops.toList P ops Q J S a0 0 ops.toList S)
 (he:∀ w',J (fun k=>k<ops.size) w'→FinOK Q ops.toList S a0 w'):wpAny P .any ops Q ops.size (Array.replicate ops.size false) a0 w.drew:=by
 refine any_inv (fun L a w=>L.size=ops.size∧(∀ k o,ops[k]? = some o→done L k→∀ m,waits o m=true→done L m)∧
  J (done L) w∧a.defers=a0.defers∧a.tmps.size=a0.tmps.size∧(∀ t,(ops.toList.all fun o=>o.dst != some t)=true→a.tmps[t]? = a0.tmps[t]?)∧∀ k,done L k→Got S ops a w k) ?_ ?_ ?_
 ·exact ⟨by simp,fun k o _ hd=>absurd hd (done_none _ _),(funext fun k=>propext ⟨fun h=>absurd h (done_none _ _),False.elim⟩:done (Array.replicate ops.size false)=fun _=>False)▸hC,rfl,rfl,fun _ _=>rfl,fun k hd=>absurd hd (done_none _ _)⟩
 ·rintro L a w i ⟨h1,hcl,h2,h3,h4,h5,h6⟩ hi
  obtain ⟨hlt,hnd,hdep⟩:=ready_spec hi
  have hoi:ops[i]? = some ops[i]:=Array.getElem?_eq_getElem hlt
  have hw:∀ k,waits ops[i] k=true→done L k:=by
   intro k hk
   unfold waits at hk
   rw [List.any_eq_true] at hk
   obtain ⟨e,he,hk⟩:=hk
   rw [Bool.and_eq_true] at hk
   have hek:e.on=k:=by simpa using hk.1
   rw [← hek]
   exact hdep _ hoi e (by simpa using he) hk.2
  have hself:done (L.setIfInBounds i true) i:=by
   unfold done
   rw [Array.getD_eq_getD_getElem?,Array.getElem?_setIfInBounds_self,if_pos (by omega)]
   rfl
  have hcl':∀ k o,ops[k]? = some o→done (L.setIfInBounds i true) k→∀ m,waits o m=true→done (L.setIfInBounds i true) m:=by
   intro k o hok hd m hwm
   by_cases e:k=i
   ·subst e
    rw [hoi] at hok
    injection hok with hok
    subst hok
    exact done_up (hw m hwm)
   ·exact done_up (hcl k o hok (done_set hd (Ne.symm e)) m hwm)
  have hDD:(fun k=>done L k∨k=i)=done (L.setIfInBounds i true):=funext fun k=>propext ⟨fun h=>by
   rcases h with h | h
   ·exact done_up h
   ·exact h▸hself,fun h=>by
   by_cases e:k=i
   ·exact .inr e
   ·exact .inl (done_set h (Ne.symm e))⟩
  obtain ⟨s,hsi,hst⟩:=hs.at_ (i:=i) (o:=ops[i]) (by rw [Array.getElem?_toList];exact hoi)
  rw [Nat.zero_add] at hst
  refine wpOp_step hoi fun K hK=>hst (done L) a w hcl hw hnd h2 h3 h5 (DepsGot.mk _ fun e he hb=>h6 _ (hdep _ hoi e (by simpa using he) hb)) K fun v w' hC' hbl hp=>hK _ _ ⟨by simp [h1],hcl',hDD▸hC',by rw [put_defers];exact h3,by rw [put_size];exact h4,?_,?_⟩
  ·intro t ht
   rw [put_other,h5 t ht]
   have:=List.all_eq_true.1 ht ops[i] (List.mem_of_getElem? (by rw [Array.getElem?_toList];exact hoi))
   simpa using this
  ·intro k hk
   by_cases e:k=i
   ·subst e
    exact ⟨v,_,_,hoi,hsi,fun t ht=>by rw [ht,put_self (by rw [h4];exact slots_lt hB hoi ht)],hp⟩
   ·obtain ⟨v',o',s',ho',hs',ht',hp'⟩:=h6 k (done_set hk (fun x=>e x.symm))
    refine ⟨v',o',s',ho',hs',fun t ht=>?_,hbl k s' (done_set hk (fun x=>e x.symm)) hs' v' hp'⟩
    rw [put_other (fun x=>e (slots_ne hB ho' hoi ht x)),ht' t ht]
 ·rintro L a w ⟨h1,_,h2,h3,h4,h5,h6⟩ hr
  have hd:=all_done hr h1 ho
  have e:done L=fun k=>k<ops.size:=funext fun k=>propext ⟨fun hdk=>by
   rcases Nat.lt_or_ge k ops.size with h | h
   ·exact h
   ·unfold done at hdk
    rw [Array.getD_eq_getD_getElem?,Array.getElem?_eq_none (by omega)] at hdk
    simp at hdk,fun hk=>hd k hk⟩
  refine FinOK.out (a:=a) hl (he w (e▸h2)) h5 h4 h3 (fun k o s hok hsk=>?_) (fun o ho t ht=>?_)
  ·have hk:k<ops.size:=by
    rcases Nat.lt_or_ge k ops.size with h | h
    ·exact h
    ·rw [List.getElem?_eq_none (by simpa using h)] at hok;cases hok
   obtain ⟨v,o',s',ho',hs',ht',hp'⟩:=h6 k (hd k hk)
   rw [Array.getElem?_toList] at hok
   rw [hok] at ho'
   rw [hsk] at hs'
   injection ho' with ho'
   injection hs' with hs'
   subst ho' hs'
   exact ⟨v,ht',hp'⟩
  ·obtain ⟨k,hk⟩:=List.mem_iff_getElem?.1 ho
   rw [Array.getElem?_toList] at hk
   exact slots_lt hB hk ht
theorem wp_region_allA {id:Nat} (J:(Nat→Prop)→World→Prop) (S:List SpecE) (hm:P.follows .mixedOrders=true) (hB:slotsB a0.tmps.size ops=true) (hl:ops.toList.length=S.length)
 (ho:((List.range ops.size).all fun k=>((ops[k]?).map fun o=>o.after.toList.all fun e=>!Region.binds .any e||decide (e.on<k)).getD true)=true)
 (hC:J (fun _=>False) w.drew) (hs:RegStepsA ops.toList P ops Q J S a0 0 ops.toList S)
 (he:∀ w',J (fun k=>k<ops.size) w'→FinOK Q ops.toList S a0 w'):(Code.region id ops true).wp P Q a0 w:=
 wp_region_any hm (any_allA J S hB hl ho hC hs he)
end
end Go.Proofs.YtmlpibdincfgbaaDoor
