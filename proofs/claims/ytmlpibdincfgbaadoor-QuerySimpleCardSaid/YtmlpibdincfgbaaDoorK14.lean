/-
  The law of regions that draw, with an invariant J of the world and of the set of operations that are done.
-/
import Derived.Test.YtmlpibdincfgbaaDoorReg
import Derived.Test.YtmlpibdincfgbaaDoorK13
namespace Go.Proofs.YtmlpibdincfgbaaDoor
open Go.RowKit
abbrev SpecE:=Spec fun a b:World=>a=b
def sE (p:Value→World→Prop):SpecE:=⟨p,fun h e=>e▸h⟩
def ClosedD (ops:Array Oper) (D:Nat→Prop):Prop:=∀ k o,ops[k]? = some o→D k→∀ m,waits o m=true→D m
def UpD (S:List SpecE) (D:Nat→Prop) (w w':World):Prop:=∀ k s,D k→S[k]? = some s→∀ x,s.p x w→s.p x w'
theorem UpD.refl {S:List SpecE} {D:Nat→Prop} {w:World}:UpD S D w w:=fun _ _ _ _ _ h=>h
section
variable {P:Program} {ops:Array Oper} {Q:Exit→Act→World→Prop} {a0 a:Act} {w:World} {J:(Nat→Prop)→World→Prop} {S:List SpecE} {fr:List Oper}
def StepOKK (fr:List Oper) (P:Program) (ops:Array Oper) (Q:Exit→Act→World→Prop) (J:(Nat→Prop)→World→Prop) (S:List SpecE) (a0:Act) (i:Nat) (o:Oper) (s:SpecE):Prop:=
 ∀ D a w,ClosedD ops D→¬ D i→J D w→a.defers=a0.defers→FrameOK fr a0 a→DepsGot S ops a w o.after.toList→∀ K:Act→World→Prop,
  (∀ v w',J (fun k=>D k∨k=i) w'→UpD S D w w'→s.p v w'→K (a.put o.dst v) w')→
  if Region.wanted o (yielded ops a.tmps)=true then Oper.wp P o a w K Q else K (a.put o.dst undef) w
def RegStepsK (fr:List Oper) (P:Program) (ops:Array Oper) (Q:Exit→Act→World→Prop) (J:(Nat→Prop)→World→Prop) (S:List SpecE) (a0:Act):Nat→List Oper→List SpecE→Prop
 | _,[],_=>True
 | _,_ :: _,[]=>False
 | i,o :: os,s :: ss=>StepOKK fr P ops Q J S a0 i o s∧RegStepsK fr P ops Q J S a0 (i+1) os ss
theorem RegStepsK.cons {i:Nat} {o:Oper} {os:List Oper} {s:SpecE} {ss:List SpecE} (h:StepOKK fr P ops Q J S a0 i o s) (k:RegStepsK fr P ops Q J S a0 (i+1) os ss):RegStepsK fr P ops Q J S a0 i (o :: os) (s :: ss):=⟨h,k⟩
theorem RegStepsK.nil {i:Nat} {ss:List SpecE}:RegStepsK fr P ops Q J S a0 i [] ss:=trivial
theorem RegStepsK.at_:∀ {os:List Oper} {ss:List SpecE} {n i:Nat} {o:Oper},RegStepsK fr P ops Q J S a0 n os ss→os[i]? = some o→∃ s,ss[i]? = some s∧StepOKK fr P ops Q J S a0 (n+i) o s
 | [],_,_,i,o,_,h=>by cases h
 | _ :: _,[],_,_,_,h,_=>h.elim
 | o :: os,s :: ss,n,0,o',h,h'=>by
  injection h' with h'
  subst h'
  exact ⟨s,rfl,h.1⟩
 | o :: os,s :: ss,n,i+1,o',h,h'=>by
  obtain ⟨s',h1,h2⟩:=RegStepsK.at_ (i:=i) h.2 h'
  rw [Nat.add_right_comm,Nat.add_assoc] at h2
  exact ⟨s',h1,h2⟩
theorem any_inv {a:Act} {w:World} (J:Array Bool→Act→World→Prop)
 (h0:J (Array.replicate ops.size false) a w.drew)
 (hs:∀ L a w i,J L a w→i∈Region.ready .any ops L→wpOp P ops Q i (J (L.setIfInBounds i true)) a w)
 (he:∀ L a w,J L a w→Region.ready .any ops L=[]→Q .normal a w):wpAny P .any ops Q ops.size (Array.replicate ops.size false) a w.drew:=by
 have key:∀ fuel L a w,left L≤fuel→L.size=ops.size→J L a w→wpAny P .any ops Q fuel L a w:=by
  intro fuel
  induction fuel with
  | zero=>
   intro L a w hl hsz hJ
   have hr:Region.ready .any ops L=[]:=by
    apply List.eq_nil_iff_forall_not_mem.2
    intro i hi
    obtain ⟨h1,h2,_⟩:=ready_spec hi
    have:=left_set (L:=L) (i:=i) (by omega) h2
    omega
   exact ⟨hr,he L a w hJ hr⟩
  | succ fuel ih=>
   intro L a w hl hsz hJ
   refine ⟨he L a w hJ,fun i hi=>?_⟩
   obtain ⟨h1,h2,_⟩:=ready_spec hi
   have h3:=left_set (L:=L) (i:=i) (by omega) h2
   exact wpOp_mono (fun a' w' hJ'=>ih _ a' w' (by omega) (by simp [hsz]) hJ') (hs L a w i hJ hi)
 exact key ops.size _ a w.drew (by unfold left;simp) (by simp) h0
theorem any_suffixK (J:(Nat→Prop)→World→Prop) (n:Nat) (S:List SpecE) (hB:slotsB a0.tmps.size ops=true) (hl:(ops.toList.take n).length=S.length)
 (ho:((List.range ops.size).all fun k=>((ops[k]?).map fun o=>o.after.toList.all fun e=>!Region.binds .any e||decide (e.on<k)).getD true)=true) (hch:suffixB ops n=true)
 (hC:J (fun _=>False) w.drew) (hs:RegStepsK (ops.toList.take n) P ops Q J S a0 0 (ops.toList.take n) S)
 (he:∀ w',J (fun k=>k<n) w'→FinOK (fun _ a w=>TailOK P ops Q (ops.toList.drop n) a w) (ops.toList.take n) S a0 w'):wpAny P .any ops Q ops.size (Array.replicate ops.size false) a0 w.drew:=by
 obtain ⟨hn,hc1,hc2⟩:=suffix_chain hch
 have hat:∀ i,i<n→(ops.toList.take n)[i]? = ops[i]?:=fun i hi=>by
  rw [List.getElem?_take_of_lt hi,Array.getElem?_toList]
 refine any_inv (fun L a w=>L.size=ops.size∧(∀ k o,ops[k]? = some o→done L k→∀ m,waits o m=true→done L m)∧
  ((∃ j,n<j∧j≤ops.size∧(∀ k,k<j→done L k)∧(∀ k,j≤k→¬ done L k)∧TailOK P ops Q (ops.toList.drop j) a w)∨
   (¬ done L n∧J (done L) w∧a.defers=a0.defers∧a.tmps.size=a0.tmps.size∧(∀ t,((ops.toList.take n).all fun o=>o.dst != some t)=true→a.tmps[t]? = a0.tmps[t]?)∧∀ k,k<n→done L k→Got S ops a w k))) ?_ ?_ ?_
 ·exact ⟨by simp,fun k o _ hd=>absurd hd (done_none _ _),.inr ⟨done_none _ _,(funext fun k=>propext ⟨fun h=>absurd h (done_none _ _),False.elim⟩:done (Array.replicate ops.size false)=fun _=>False)▸hC,rfl,rfl,fun _ _=>rfl,fun k _ hd=>absurd hd (done_none _ _)⟩⟩
 ·rintro L a w i ⟨h1,hcl,hJ⟩ hi
  obtain ⟨hlt,hnd,hdep⟩:=ready_spec hi
  have hoi:ops[i]? = some ops[i]:=Array.getElem?_eq_getElem hlt
  have hw:∀ k,waits ops[i] k=true→done L k:=by
   intro k hk
   unfold waits at hk
   rw [List.any_eq_true] at hk
   obtain ⟨e,he,hk⟩:=hk
   rw [Bool.and_eq_true] at hk
   have hek:e.on=k:=by simpa using hk.1
   rw [← hek]
   exact hdep _ hoi e (by simpa using he) hk.2
  have hcl':∀ k o,ops[k]? = some o→done (L.setIfInBounds i true) k→∀ m,waits o m=true→done (L.setIfInBounds i true) m:=by
   intro k o hok hd m hwm
   by_cases e:k=i
   ·subst e
    rw [hoi] at hok
    injection hok with hok
    subst hok
    exact done_up (hw m hwm)
   ·exact done_up (hcl k o hok (done_set hd (Ne.symm e)) m hwm)
  have hself:done (L.setIfInBounds i true) i:=by
   unfold done
   rw [Array.getD_eq_getD_getElem?,Array.getElem?_setIfInBounds_self,if_pos (by omega)]
   rfl
  have hback:∀ d k,k=n+d→k<ops.size→done L k→done L n:=by
   intro d
   induction d with
   | zero=>intro k hk _ hd;rw [← (by omega:k=n)];exact hd
   | succ d ih=>
    intro k hk hks hd
    have hok:ops[k]? = some ops[k]:=Array.getElem?_eq_getElem hks
    exact ih (k - 1) (by omega) (by omega) (hcl k _ hok hd _ (hc2 k _ (by omega) hok))
  rcases hJ with ⟨j,hj1,hj2,hall,hnone,ht⟩ | ⟨hnl,h2,h3,h4,h5,h6⟩
  ·have hij:i=j:=by
    rcases Nat.lt_trichotomy i j with h | h | h
    ·exact absurd (hall i h) hnd
    ·exact h
    ·exact absurd (hw _ (hc2 i _ (by omega) hoi)) (hnone (i - 1) (by omega))
   subst hij
   have hd:ops.toList.drop i=ops[i] :: ops.toList.drop (i+1):=by
    rw [List.drop_eq_getElem_cons (by simpa using hlt)]
    simp
   rw [hd] at ht
   refine wpOp_step hoi fun K hK=>ht K fun a' w' hq=>hK _ _ ⟨by simp [h1],hcl',.inl ⟨i+1,by omega,by omega,fun k hk=>?_,fun k hk hdk=>?_,hq⟩⟩
   ·by_cases e:k=i
    ·rw [e];exact hself
    ·exact done_up (hall k (by omega))
   ·exact hnone k (by omega) (done_set hdk (by omega))
  ·by_cases hil:i=n
   ·subst hil
    have hall:∀ d k,k+d+1=i→done L k:=by
     intro d
     induction d using Nat.strongRecOn with
     | ind d ih=>
      intro k hk
      obtain ⟨m,hm1,hm2,o,hom,hwm⟩:=hc1 k (by omega)
      by_cases e:m=i
      ·subst e
       rw [hoi] at hom
       injection hom with hom
       subst hom
       exact hw k hwm
      ·exact hcl m o hom (ih (i - m - 1) (by omega) m (by omega)) k hwm
    have hlt2:J (fun k=>k<i) w:=by
     have e:done L=fun k=>k<i:=funext fun k=>propext ⟨fun hd=>by
      rcases Nat.lt_or_ge k i with h | h
      ·exact h
      ·rcases Nat.lt_or_ge k ops.size with hks | hks
       ·exact absurd (hback (k - i) k (by omega) hks hd) hnl
       ·unfold done at hd
        rw [Array.getD_eq_getD_getElem?,Array.getElem?_eq_none (by omega)] at hd
        simp at hd,fun hk=>hall (i - k - 1) k (by omega)⟩
     exact e▸h2
    have hfin:=FinOK.out (a:=a) hl (he w hlt2) h5 h4 h3 (fun k o s hok hsk=>by
     have hk:k<i:=by
      rcases Nat.lt_or_ge k i with h | h
      ·exact h
      ·rw [List.getElem?_eq_none (by rw [List.length_take];omega)] at hok;cases hok
     obtain ⟨v,o',s',ho',hs',ht',hp'⟩:=h6 k hk (hall (i - k - 1) k (by omega))
     rw [← hat k hk,hok] at ho'
     rw [hsk] at hs'
     injection ho' with ho'
     injection hs' with hs'
     subst ho' hs'
     exact ⟨v,ht',hp'⟩) (fun o ho t ht=>by
     obtain ⟨k,hk⟩:=List.mem_iff_getElem?.1 ho
     have hkl:k<i:=by
      rcases Nat.lt_or_ge k i with h | h
      ·exact h
      ·rw [List.getElem?_eq_none (by rw [List.length_take];omega)] at hk;cases hk
     exact slots_lt hB (by rw [← hat k hkl];exact hk) ht)
    have hd:ops.toList.drop i=ops[i] :: ops.toList.drop (i+1):=by
     rw [List.drop_eq_getElem_cons (by simpa using hlt)]
     simp
    rw [hd] at hfin
    refine wpOp_step hoi fun K hK=>hfin K fun a' w' hq=>hK _ _ ⟨by simp [h1],hcl',.inl ⟨i+1,by omega,by omega,fun k hk=>?_,fun k hk hdk=>?_,hq⟩⟩
    ·by_cases e:k=i
     ·rw [e];exact hself
     ·exact done_up (hall (i - k - 1) k (by omega))
    ·have hdk':=done_set hdk (by omega)
     rcases Nat.lt_or_ge k ops.size with hks | hks
     ·exact hnl (hback (k - i) k (by omega) hks hdk')
     ·unfold done at hdk'
      rw [Array.getD_eq_getD_getElem?,Array.getElem?_eq_none (by omega)] at hdk'
      simp at hdk'
   ·have hik:i<n:=by
     rcases Nat.lt_or_ge i n with h | h
     ·exact h
     ·exact absurd (hback (i - 1 - n) (i - 1) (by omega) (by omega) (hw _ (hc2 i _ (by omega) hoi))) hnl
    have hDD:(fun k=>done L k∨k=i)=done (L.setIfInBounds i true):=funext fun k=>propext ⟨fun h=>by
     rcases h with h | h
     ·exact done_up h
     ·exact h▸hself,fun h=>by
     by_cases e:k=i
     ·exact .inr e
     ·exact .inl (done_set h (Ne.symm e))⟩
    obtain ⟨s,hsi,hst⟩:=hs.at_ (i:=i) (o:=ops[i]) (by rw [hat i hik];exact hoi)
    rw [Nat.zero_add] at hst
    refine wpOp_step hoi fun K hK=>hst (done L) a w hcl hnd h2 h3 h5 (DepsGot.mk _ fun e he hb=>h6 _ ?_ (hdep _ hoi e (by simpa using he) hb)) K fun v w' hC' hbl hp=>hK _ _ ⟨by simp [h1],hcl',.inr ⟨fun hd=>hnl (done_set hd hil),hDD▸hC',by rw [put_defers];exact h3,by rw [put_size];exact h4,?_,?_⟩⟩
    ·have h:=List.all_eq_true.1 ho i (List.mem_range.2 hlt)
     rw [hoi] at h
     simp only [Option.map_some,Option.getD_some] at h
     have h':=List.all_eq_true.1 h e he
     rw [hb] at h'
     have:e.on<i:=by simpa using h'
     omega
    ·intro t ht
     rw [put_other,h5 t ht]
     have:=List.all_eq_true.1 ht ops[i] (List.mem_of_getElem? (by rw [hat i hik];exact hoi))
     simpa using this
    ·intro k hkl hk
     by_cases e:k=i
     ·subst e
      exact ⟨v,_,_,hoi,hsi,fun t ht=>by rw [ht,put_self (by rw [h4];exact slots_lt hB hoi ht)],hp⟩
     ·obtain ⟨v',o',s',ho',hs',ht',hp'⟩:=h6 k hkl (done_set hk (fun x=>e x.symm))
      refine ⟨v',o',s',ho',hs',fun t ht=>?_,hbl k s' (done_set hk (fun x=>e x.symm)) hs' v' hp'⟩
      rw [put_other (fun x=>e (slots_ne hB ho' hoi ht x)),ht' t ht]
 ·rintro L a w ⟨h1,_,hJ⟩ hr
  have hd:=all_done hr h1 ho
  rcases hJ with ⟨j,hj1,hj2,hall,hnone,ht⟩ | ⟨hnl,_⟩
  ·have e:j=ops.size:=by
    rcases Nat.lt_or_ge j ops.size with h | h
    ·exact absurd (hd j h) (hnone j (Nat.le_refl _))
    ·omega
   subst e
   rw [List.drop_of_length_le (by simp)] at ht
   exact ht
  ·exact absurd (hd _ hn) hnl
theorem wp_region_suffixK {id:Nat} (J:(Nat→Prop)→World→Prop) (n:Nat) (S:List SpecE) (hm:P.follows .mixedOrders=true) (hB:slotsB a0.tmps.size ops=true) (hl:(ops.toList.take n).length=S.length)
 (ho:((List.range ops.size).all fun k=>((ops[k]?).map fun o=>o.after.toList.all fun e=>!Region.binds .any e||decide (e.on<k)).getD true)=true) (hch:suffixB ops n=true)
 (hC:J (fun _=>False) w.drew) (hs:RegStepsK (ops.toList.take n) P ops Q J S a0 0 (ops.toList.take n) S)
 (he:∀ w',J (fun k=>k<n) w'→FinOK (fun _ a w=>TailOK P ops Q (ops.toList.drop n) a w) (ops.toList.take n) S a0 w'):(Code.region id ops true).wp P Q a0 w:=
 wp_region_any hm (any_suffixK J n S hB hl ho hch hC hs he)
end
end Go.Proofs.YtmlpibdincfgbaaDoor
/-
 (second part)
-/
namespace Go.Proofs.YtmlpibdincfgbaaDoor
open Go.RowKit
theorem word_ne (t s:Qy.Bs) (b:Bool) (h:decide (t=s)=b):((bs t).toList==s)=b:=by
 rw [bs_toList,← h]
 by_cases e:t=s <;> simp [e]
theorem Ends.cases {α:Type} {B r:Nat} {w w':World} {res:Qy.Res α} {val:α→Value→World→Prop} {e:Ending} (h:Ends B r w res val e w'):(∃ a l v,res=.ok a l∧e=.returned v∧val a v w'∧RdAt B r l w'∧At1 r w w')∨(∃ x er,res=.bad x er∧e=.panicked (prob x er)∧At1 r w w'):=by
 obtain ⟨h1,h2⟩:=h
 cases res with
 | ok a l=>
  obtain ⟨⟨v,h3,h4⟩,h5⟩:=h2
  exact .inl ⟨a,l,v,rfl,h3,h4,h5,h1⟩
 | bad x er=>exact .inr ⟨x,er,rfl,h2,h1⟩
theorem regV.old {wi w w':World} {R:Qy.Reg} {v:Value} (h:regV w R v w') (hz:wi.heap.size≤w.heap.size):regV wi R v w':=by
 obtain ⟨cs,h1,h2⟩:=h
 exact ⟨cs,h1,RegAt.keep (Nat.le_refl _) (fun g hg _=>⟨Nat.le_trans hz hg,rfl⟩) _ _ h2⟩
theorem KRow.slice {T:TypeId} {N:Nat→Prop} {w:World} {v:Value} {l:List Qy.Reg} (h:KRow T N w v l):∃ A c,v=.slice A l.length c:=by
 obtain ⟨css,h1,h2,h3,h4⟩:=h
 rcases h2.2 with ⟨rfl,h0⟩ | ⟨g,cap,cur,rfl,_⟩
 ·exact ⟨none,0,by rw [h0]⟩
 ·exact ⟨_,_,rfl⟩
def sReg3 (wi:World) (RI:Qy.Res Qy.Reg):SpecE:=sE fun v w=>∃ cs:List Value,v=.agg cs.toArray∧∃ R l3,RI=.ok R l3∧regV wi R (.agg cs.toArray) w
def sReg4 (wi:World) (RI:Qy.Res Qy.Reg):SpecE:=sE fun v w=>∃ a:Nat,v=.slice (some ⟨a,0,none⟩) 1 1∧wi.heap.size≤a∧a<w.heap.size∧∃ R l3 y0 y1 y2 y3 y4 y5 y6 y7 y8,RI=.ok R l3∧(∀ u∈[y0,y1,y2,y3,y4,y5,y6,y7,y8],u.oneCell'=true)∧(∀ j u,[y0,y1,y2,y3,y4,y5,y6,y7,y8][j]? = some u→w.cell? ((⟨a,0,none⟩:Addr).add j)=some u)∧RegAt w (New wi) [y0,y1,y2,y3,y4,y5,y6,y7,y8] R
def sReg5 (N:Nat→Prop) (acc:List Qy.Reg) (RI:Qy.Res Qy.Reg):SpecE:=sE fun v w=>∃ x:Value,v=x∧∃ R l3 A c,x=.slice A (acc.length+1) c∧RI=.ok R l3∧KRow 32 N w x (acc++[R])
theorem sReg3_on {wi w w':World} {RI:Qy.Res Qy.Reg} {x:Value} (h:(sReg3 wi RI).p x w) (k:Below w.heap.size w w'):(sReg3 wi RI).p x w':=by
 obtain ⟨cs,h1,R,l3,h2,cs2,h3,h4⟩:=h
 exact ⟨cs,h1,R,l3,h2,cs2,h3,RegAt.keep k.size (fun g hg hl=>⟨hg,k.block g hl⟩) _ _ h4⟩
theorem sReg3_row {wi w w':World} {RI:Qy.Res Qy.Reg} {x v:Value} (h:(sReg3 wi RI).p x w) (k:w.grownBy w' v.ownBlock) (hv:∀ g,v.ownBlock=some g→g<wi.heap.size):(sReg3 wi RI).p x w':=by
 obtain ⟨cs,h1,R,l3,h2,cs2,h3,h4⟩:=h
 exact ⟨cs,h1,R,l3,h2,cs2,h3,RegAt.keep k.size (fun g hg hl=>⟨hg,k.block g hl (fun e=>by have:=hv g e.symm;unfold New at hg;omega)⟩) _ _ h4⟩
theorem sReg4_row {wi w w':World} {RI:Qy.Res Qy.Reg} {x v:Value} (h:(sReg4 wi RI).p x w) (k:w.grownBy w' v.ownBlock) (hv:∀ g,v.ownBlock=some g→g<wi.heap.size):(sReg4 wi RI).p x w':=by
 obtain ⟨a,h1,h2,h3,R,l3,y0,y1,y2,y3,y4,y5,y6,y7,y8,h4,h5,h6,h7⟩:=h
 have ha:w'.heap[a]? = w.heap[a]?:=k.block a h3 (fun e=>by have:=hv a e.symm;omega)
 refine ⟨a,h1,h2,Nat.lt_of_lt_of_le h3 k.size,R,l3,y0,y1,y2,y3,y4,y5,y6,y7,y8,h4,h5,fun j u hj=>?_,RegAt.keep k.size (fun g hg hl=>⟨hg,k.block g hl (fun e=>by have:=hv g e.symm;unfold New at hg;omega)⟩) _ _ h7⟩
 rw [← h6 j u hj]
 refine World.cell?_of_block ?_
 rw [Addr.add_lit]
 exact ha
theorem UpD7 {a0 a1 a2 a6:Value} {s3 s4 s5:SpecE} {D:Nat→Prop} {w w':World} (u3:D 3→∀ x,s3.p x w→s3.p x w') (u4:D 4→∀ x,s4.p x w→s4.p x w') (u5:D 5→∀ x,s5.p x w→s5.p x w') :
 UpD [Spec.eq a0,Spec.eq a1,Spec.eq a2,s3,s4,s5,Spec.eq a6] D w w':=by
 intro k s hD hs
 match k,hD,hs with
 | 0,_,hs=>cases hs;exact fun _ h=>h
 | 1,_,hs=>cases hs;exact fun _ h=>h
 | 2,_,hs=>cases hs;exact fun _ h=>h
 | 3,hD,hs=>cases hs;exact u3 hD
 | 4,hD,hs=>cases hs;exact u4 hD
 | 5,hD,hs=>cases hs;exact u5 hD
 | 6,_,hs=>cases hs;exact fun _ h=>h
 | k+7,_,hs=>cases hs
structure JR (B r g2 g5:Nat) (KK:Int) (N:Nat→Prop) (w wi:World) (A:Option Addr) (c:Nat) (acc:List Qy.Reg) (l2:List Qy.Tok) (RI:Qy.Res Qy.Reg) (D:Nat→Prop) (wz:World):Prop where
 at1:At1 r w wz
 sz:wi.heap.size≤wz.heap.size
 o2:Own wz g2 32 [.int .i64 0,.string ⟨#[]⟩,.int .i64 0,.int .i64 0,.int .i64 0,.int .i64 0,.int .i64 0,.int .i64 0,.slice none 0 0]
 o5:Own wz g5 32 [.int .i64 KK,.string ⟨#[]⟩,.int .i64 0,.int .i64 0,.int .i64 0,.int .i64 0,.int .i64 0,.int .i64 0,.slice A acc.length c]
 row:¬ D 5→KRow 32 N wz (.slice A acc.length c) acc
 rd:¬ D 3→RdAt B r l2 wz
 rd3:D 3→∃ R l3,RI=.ok R l3∧RdAt B r l3 wz
section
variable {B r g2 g5:Nat} {KK:Int} {N:Nat→Prop} {w wi:World} {A:Option Addr} {c:Nat} {acc:List Qy.Reg} {l2 l3:List Qy.Tok} {RI:Qy.Res Qy.Reg} {R:Qy.Reg} {D:Nat→Prop} {wz wy:World} {i:Nat}
theorem JR.on (h:JR B r g2 g5 KK N w wi A c acc l2 RI D wz) (k:Below wz.heap.size wz wy) (h3:i≠3) (_:i≠5):JR B r g2 g5 KK N w wi A c acc l2 RI (fun k=>D k∨k=i) wy:=
 ⟨h.at1.trans (At1.of_below k),Nat.le_trans h.sz k.size,h.o2.on k,h.o5.on k,fun hn=>(h.row fun hd=>hn (.inl hd)).on k,fun hn=>(h.rd fun hd=>hn (.inl hd)).on k,fun hd=>by
  rcases hd with hd | hd
  ·obtain ⟨R,l3,h1,h2⟩:=h.rd3 hd
   exact ⟨R,l3,h1,h2.on k⟩
  ·exact absurd hd.symm h3⟩
theorem JR.pure (h:JR B r g2 g5 KK N w wi A c acc l2 RI D wz) (h3:i≠3) (h5:i≠5):JR B r g2 g5 KK N w wi A c acc l2 RI (fun k=>D k∨k=i) wz:=h.on (Below.refl _ _) h3 h5
theorem JR.call (h:JR B r g2 g5 KK N w wi A c acc l2 RI D wz) (k:At1 r wz wy) (hri:RI=.ok R l3) (hrd:RdAt B r l3 wy) (hN:¬ N r) (hg2:g2≠r) (hg5:g5≠r):JR B r g2 g5 KK N w wi A c acc l2 RI (fun k=>D k∨k=3) wy:=
 ⟨h.at1.trans k,Nat.le_trans h.sz k.size,h.o2.at1 k hg2,h.o5.at1 k hg5,fun hn=>(h.row fun hd=>hn (.inl hd)).at1 k hN,fun hn=>absurd (.inr rfl) hn,fun _=>⟨R,l3,hri,hrd⟩⟩
theorem JR.push (h:JR B r g2 g5 KK N w wi A c acc l2 RI D wz) (k:wz.grownBy wy (Value.slice A acc.length c).ownBlock) (hv:∀ g,(Value.slice A acc.length c).ownBlock=some g→w.heap.size≤g∧g≠g2∧g≠g5) (hB:B≤w.heap.size) :
 JR B r g2 g5 KK N w wi A c acc l2 RI (fun k=>D k∨k=5) wy:=
 ⟨h.at1.row k (fun g e=>(hv g e).1),Nat.le_trans h.sz k.size,h.o2.grown k (fun e=>(hv g2 e.symm).2.1 rfl),h.o5.grown k (fun e=>(hv g5 e.symm).2.2 rfl),fun hn=>absurd (.inr rfl) hn,fun hn=>(h.rd fun hd=>hn (.inl hd)).row k (fun g e=>Nat.le_trans hB (hv g e).1),fun hd=>by
  rcases hd with hd | hd
  ·obtain ⟨R,l3,h1,h2⟩:=h.rd3 hd
   exact ⟨R,l3,h1,h2.row k (fun g e=>Nat.le_trans hB (hv g e).1)⟩
  ·cases hd⟩
end
set_option maxRecDepth 100000 in
set_option maxHeartbeats 400000 in
theorem qReg (B r f:Nat) (ih:∀ g,g<f→ItemW B r g):RegW B r f:=by
 intro l w h hg hf hL
 obtain ⟨f,rfl⟩:∃ f',f=f'+1:=⟨f - 1,by omega⟩
 rw [Qy.pReg]
 have H1:Hid (∀ u,RdAt B r l u→Calls Tryd.prog 80 #[.pointer (some ⟨r,0,none⟩)] u (Ends B r u (Qy.pItem f l) (regV u))):=Lib.hid fun u k=>ih f (Nat.lt_succ_self f) l u k hg (by omega) hL
 have hrw:=h.lt
 have hBw:=h.2.1
 cases h1:Qy.pItem f l with
 | bad a e=>
  rw [h1] at H1
  simp only [Qy.Res.on]
  clear h1 hg hf hL ih hrw hBw
  go_enter Tryd.func54,Tryd.ntmps54
  go_upto_region 1 with fail
  refine wp_new1 fun W hA hB=>?_
  have k0:=h.on hB
  have K0:=Lib.hid (At1.of_below (r:=r) hB)
  clear hB h hA
  go_wp2_with fail
  refine (H1.out _ k0).mono ?_
  rintro e2 w1 ⟨k2,rfl⟩
  have HF:=Lib.hid (K0.out.trans k2)
  clear k2 k0
  go_wp2
  exact ⟨rfl,HF.out,rfl⟩
 | ok R l1=>
  rw [h1] at H1
  have hl1:=(Qy.eats f).item l R l1 hg h1
  simp only [Qy.Res.on]
  by_cases h2:Qy.hd l1=Qy.wAnd∨Qy.hd l1=Qy.wOr
  ·rw [if_pos h2]
   obtain ⟨RES,hRES⟩:∃ RES,Qy.pJoin f (Qy.hd l1) [R] l1=RES:=⟨_,rfl⟩
   rw [hRES]
   obtain ⟨op,hop⟩:∃ op,Qy.hd l1=op:=⟨_,rfl⟩
   rw [hop] at hRES h2
   have b1:=hl1.2
   have HG1:=Lib.hid hl1.1
   have HRES0:=Lib.hid hRES
   have HIH:=Lib.hid ih
   have f1:3 * l1.length+1≤f:=by omega
   have n1_:1+l1.length≤5000:=by omega
   have hone:op≠[]:=by rcases h2 with rfl | rfl <;> simp [Qy.wAnd,Qy.wOr]
   have HOne:=Lib.hid hone
   have H3:Hid (∀ l u,RdAt B r l u→Calls Tryd.prog 75 #[.pointer (some ⟨r,0,none⟩),.string (bs op)] u fun e w'=>e=.returned (.bool (decide (Qy.hd l=op)))∧RdAt B r (if Qy.hd l=op then Qy.stp l else l) w'∧At1 r u w'):=Lib.hid fun l u k=>qTake B r l op u k
   obtain ⟨KK,hKK⟩:∃ KK:Int,(if op=Qy.wOr then 5 else 4)=KK:=⟨_,rfl⟩
   have HKK:=Lib.hid hKK
   clear h1 hg hf hL ih hl1 hRES b1 hone
   rcases h2 with h2 | h2
   ·have hne1:((bs op).toList==[97,110,100])=true:=word_ne _ _ _ (by rw [h2];decide)
    have hne2:((bs op).toList==[111,114])=false:=word_ne _ _ _ (by rw [h2];decide)
    have hK0:KK=4:=by rw [← hKK,h2];rfl
    subst hK0
    clear h2 hKK
    go_enter Tryd.func54,Tryd.ntmps54
    go_upto_region 1 with fail
    refine wp_new1 fun W0 hA hB=>?_
    have k0:=h.on hB
    clear h
    go_wp2_with fail
    refine (H1.out _ k0).mono ?_
    rintro e2 w1 ⟨k1,⟨v,rfl,hR⟩,k2⟩
    obtain ⟨n0,s1,n2,n3,n4,n5,n6,n7,A8,l8,c9,rfl,hR1,hR3⟩:=hR.lit
    have zA:w.heap.size<W0.heap.size:=hA.lt
    have hA1:=hA.at1 k1 (by omega)
    have ka:=(At1.of_below (r:=r) hB).trans k1
    have z0_:=k1.size
    clear hR k0 k1 hB hA
    go_upto_region 2 with fail
    refine wp_new1 fun W1 hF kn=>?_
    have hA2:=hA1.on kn
    have k3:=k2.on kn
    have ka2:=ka.trans (At1.of_below kn)
    have hR2:=hR1.at1 (At1.of_below (r:=r) kn) (by omega)
    obtain ⟨⟨c0,c1,c2,c3,c4,c5,c6,c7,c8⟩,_⟩:=hF.all9
    have r0:=k3.cell0.1
    rw [hop] at r0
    have z1_:=kn.size
    clear hF kn hA1 k2 ka hR1
    go_upto_region 6 with fail
    refine wp_new1 fun W2 hG5 hB2=>?_
    obtain ⟨g5,hg5⟩:∃ g,W1.heap.size+1=g:=⟨_,rfl⟩
    rw [show (W1.alloc (.cells #[.int .i64 n0,.string s1,.int .i64 n2,.int .i64 n3,.int .i64 n4,.int .i64 n5,.int .i64 n6,.int .i64 n7,.slice A8 l8 c9] 32)).heap.size=g5 by rw [← hg5];simp] at hG5
    have kn1:=below_new W1 (.cells #[.int .i64 n0,.string s1,.int .i64 n2,.int .i64 n3,.int .i64 n4,.int .i64 n5,.int .i64 n6,.int .i64 n7,.slice A8 l8 c9] 32)
    obtain ⟨N,hN⟩:∃ N:Nat→Prop,N=fun g=>W0.heap.size≤g∧g≠g5:=⟨_,rfl⟩
    have hrow0:=(hR3 32 W1 N (RegAt.keep (Nat.le_refl _) (fun g hg hl=>⟨by rw [hN];exact ⟨hg,by omega⟩,rfl⟩) _ _ hR2) (by rw [hN];exact ⟨by omega,by omega⟩)).on hB2
    have hgl5:=hG5.lt
    have hg2:w.heap.size≠r:=by omega
    have hg5r:g5≠r:=by omega
    have hN0:¬ N r:=by rw [hN];exact fun h=>by have:=h.1;omega
    have hNew:∀ g,g5<g→N g:=fun g hg=>by rw [hN];exact ⟨by omega,by omega⟩
    have hNg:∀ g,N g→w.heap.size≤g∧g≠w.heap.size∧g≠g5:=fun g hg=>by
     rw [hN] at hg
     exact ⟨by have:=hg.1;omega,by have:=hg.1;omega,hg.2⟩
    have hat0:=(ka2.trans (At1.of_below kn1)).trans (At1.of_below hB2)
    have ho2:=(hA2.on kn1).on hB2
    have hrd0:=(k3.on kn1).on hB2
    have hwg5:w.heap.size≤g5:=by omega
    have hwg6:w.heap.size<g5:=by omega
    have HNew:=Lib.hid hNew
    have HNg:=Lib.hid hNg
    clear hNew hNg hA2 k3 ka2 hR2 hR3 hB2 kn1 c0 c1 c2 c3 c4 c5 c6 c7 c8 r0
    rw [hg5]
    clear hN z0_ z1_ zA
    have HST:=Lib.hid (And.intro hat0 (And.intro ho2 (And.intro hG5 (And.intro hrow0 hrd0))))
    clear hat0 ho2 hG5 hrow0 hrd0
    go_wp2_with fail
    go_loopw [] (fun wr=>∃ (f':Nat) (acc:List Qy.Reg) (l':List Qy.Tok) (A:Option Addr) (c:Nat),f'≤f∧3 * l'.length+1≤f'∧acc.length+l'.length≤5000∧Qy.Good l'∧Qy.pJoin f' op acc l'=RES∧At1 r w wr∧Own wr w.heap.size 32 [.int .i64 0,.string ⟨#[]⟩,.int .i64 0,.int .i64 0,.int .i64 0,.int .i64 0,.int .i64 0,.int .i64 0,.slice none 0 0]∧Own wr g5 32 [.int .i64 4,.string ⟨#[]⟩,.int .i64 0,.int .i64 0,.int .i64 0,.int .i64 0,.int .i64 0,.int .i64 0,.slice A acc.length c]∧KRow 32 N wr (.slice A acc.length c) acc∧RdAt B r l' wr) (fun wr=>restLen r wr)
    case atStart=>exact ⟨f,[R],l1,_,_,Nat.le_refl _,f1,n1_,HG1.out,HRES0.out,HST.out.1,HST.out.2.1,HST.out.2.2.1,HST.out.2.2.2.1,HST.out.2.2.2.2⟩
    case round=>
     obtain ⟨f',acc,l',A,c,hf',hfl,hn,hg,hres,hat,ho2,ho5,hrow,hrd⟩:=hrel
     obtain ⟨f',rfl⟩:∃ f'',f'=f''+1:=⟨f' - 1,by omega⟩
     have hlen:=hrd.len
     rw [Qy.pJoin] at hres
     by_cases h4:Qy.hd l'=op
     ·have HT4:=Lib.hid fun u=>H3.out l' u
      rw [decide_eq_true h4,if_pos h4] at HT4
      rw [if_pos h4] at hres
      have b4:=hg.stp_lt (by rw [h4];exact HOne.out)
      have g4:=hg.stp
      obtain ⟨l2,hl2⟩:∃ l2,Qy.stp l'=l2:=⟨_,rfl⟩
      rw [hl2] at HT4 hres b4 g4
      obtain ⟨RI,hRI⟩:∃ RI,Qy.pItem f' l2=RI:=⟨_,rfl⟩
      have HI5:Hid (∀ u,RdAt B r l2 u→Calls Tryd.prog 80 #[.pointer (some ⟨r,0,none⟩)] u (Ends B r u RI (regV u))):=Lib.hid fun u k=>hRI▸HIH.out f' (by omega) l2 u k g4 (by omega) (by omega)
      rw [hRI] at hres
      have HRES:=Lib.hid hres
      have HEat:Hid (∀ R3 l3,RI=.ok R3 l3→Qy.Less l2 l3):=Lib.hid fun R3 l3 e=>(Qy.eats f').item l2 R3 l3 g4 (hRI.trans e)
      have hvx:=hrow.own
      have hgl:=ho5.lt
      clear h4 hg hres hRI hl2 g4
      go_wp2_with fail
      refine (HT4.out _ hrd).mono ?_
      rintro e2 w5 ⟨rfl,k4,k5⟩
      have kd:=Below.drew (Below.refl w5.heap.size w5)
      have hJ0:JR B r w.heap.size g5 4 N w w5 A c acc l2 RI (fun _=>False) w5.drew:=⟨(hat.trans k5).drew,Nat.le_refl _,(ho2.at1 k5 hg2).on kd,(ho5.at1 k5 hg5r).on kd,fun _=>(hrow.at1 k5 hN0).on kd,fun _=>k4.on kd,False.elim⟩
      have hvi:∀ g,(Value.slice A acc.length c).ownBlock=some g→g<w5.heap.size:=fun g e=>Nat.lt_of_lt_of_le (hvx g e).2 k5.size
      have hvn:∀ g,(Value.slice A acc.length c).ownBlock=some g→w.heap.size≤g∧g≠w.heap.size∧g≠g5:=fun g e=>HNg.out g (hvx g e).1
      have hN5:∀ g,New w5 g→N g:=fun g hg=>HNew.out g (Nat.lt_of_lt_of_le hgl (Nat.le_trans k5.size hg))
      have hn1:acc.length+1≤5000:=by omega
      clear hat ho2 ho5 hrow hrd k4 k5 kd hvx
      go_upto_region 9 with fail
      refine wp_region_suffixK (JR B r w.heap.size g5 4 N w w5 A c acc l2 RI) 7 [Spec.eq (.pointer (some ⟨g5,8,none⟩)),Spec.eq (.slice A acc.length c),Spec.eq (.pointer (some ⟨r,0,none⟩)),sReg3 w5 RI,sReg4 w5 RI,sReg5 N acc RI,Spec.eq (.pointer (some ⟨g5,8,none⟩))]
       (by kernel_rfl) (by kernel_rfl) rfl (by kernel_rfl) (by kernel_rfl) hJ0 ?_ ?_
      ·
       refine RegStepsK.cons ?_ ?_
       ·intro DD az wz hcl hnd hC hdf hF hD K hK;replace hdf:=Lib.hid hdf
        have q5:az.tmps[5]? = some (.pointer (some ⟨g5,0,none⟩)):=hF 5 rfl
        clear hF hD
        refine want_none rfl ?_
        go_simp
        exact hK _ _ (hC.pure (by decide) (by decide)) UpD.refl rfl
       refine RegStepsK.cons ?_ ?_
       ·intro DD az wz hcl hnd hC hdf hF hD K hK;replace hdf:=Lib.hid hdf
        obtain ⟨_,q29,rfl⟩:=dep hD 0 rfl rfl rfl rfl
        have z8:wz.cell? ⟨g5,8,none⟩=some (.slice A acc.length c):=hC.o5.cell 8
        clear hF hD
        refine want_none rfl ?_
        go_simp
        exact hK _ _ (hC.pure (by decide) (by decide)) UpD.refl rfl
       refine RegStepsK.cons ?_ ?_
       ·intro DD az wz hcl hnd hC hdf hF hD K hK;replace hdf:=Lib.hid hdf
        have q0:az.tmps[0]? = some (.pointer (some ⟨r,0,none⟩)):=hF 0 rfl
        clear hF hD
        refine want_none rfl ?_
        go_simp
        exact hK _ _ (hC.pure (by decide) (by decide)) UpD.refl rfl
       refine RegStepsK.cons ?_ ?_
       ·intro DD az wz hcl hnd hC hdf hF hD K hK;replace hdf:=Lib.hid hdf
        obtain ⟨_,q31,rfl⟩:=dep hD 2 rfl rfl rfl rfl
        have hrd:=hC.rd hnd
        have HJ:=Lib.hid hC
        have HCL:=Lib.hid hcl
        have HND:=Lib.hid hnd
        clear hF hD hC hcl hnd
        refine want_none rfl ?_
        go_simp
        refine (HI5.out wz hrd).mono ?_
        rintro e wy hE
        clear hrd
        rcases hE.cases with ⟨R3,l3,u,hri,rfl,hu,hrd3,hat3⟩ | ⟨x,er,hri,rfl,hat3⟩
        ·obtain ⟨cs,rfl,_⟩:=id hu
         exact hK _ _ (HJ.out.call hat3 hri hrd3 hN0 hg2 hg5r) (UpD7 (fun h=>absurd h HND.out) (fun h=>absurd (HCL.out 4 _ rfl h 3 rfl) HND.out) (fun h=>absurd (HCL.out 4 _ rfl (HCL.out 5 _ rfl h 4 rfl) 3 rfl) HND.out)) ⟨cs,rfl,R3,l3,hri,hu.old HJ.out.sz⟩
        ·have hpan:=HRES.out
         rw [hri] at hpan
         simp only [Qy.Res.on] at hpan
         subst hpan
         have HG:=Lib.hid (HJ.out.at1.trans hat3)
         clear hK hat3 hE hri
         go_wp2
         exact ⟨hdf.out,HG.out,rfl⟩
       refine RegStepsK.cons ?_ ?_
       ·intro DD az wz hcl hnd hC hdf hF hD K hK;replace hdf:=Lib.hid hdf
        obtain ⟨_,q32,x32,rfl,hx32⟩:=dep hD 3 rfl rfl rfl rfl
        obtain ⟨R3,l3,hri,hu⟩:=hx32
        obtain ⟨y0,y1,y2,y3,y4,y5,y6,y7,y8,hcs,one9,hR9,_⟩:=hu.open_
        rw [hcs] at q32
        have kn:=below_new wz (.cells #[y0,y1,y2,y3,y4,y5,y6,y7,y8] 32)
        have HP:=Lib.hid (hC.on kn (i:=4) (by decide) (by decide))
        have HKN:=Lib.hid kn
        have HCL:=Lib.hid hcl
        have HND:=Lib.hid hnd
        have HO:=Lib.hid (own_news (Own.new wz 32 [y0,y1,y2,y3,y4,y5,y6,y7,y8]))
        have HR9:=Lib.hid (RegAt.keep kn.size (fun g hg hl=>⟨hg,kn.block g hl⟩) _ _ hR9)
        have HSZ:=Lib.hid hC.sz
        clear hF hD hC hcl hnd hu hR9 kn hcs
        refine want_none rfl ?_
        go_simp
        exact hK _ _ HP.out (UpD7 (fun _ _ hx=>sReg3_on hx HKN.out) (fun h=>absurd h HND.out) (fun h=>absurd (HCL.out 5 _ rfl h 4 rfl) HND.out)) ⟨wz.heap.size,rfl,HSZ.out,by simp,R3,l3,y0,y1,y2,y3,y4,y5,y6,y7,y8,hri,one9,HO.out,HR9.out⟩
       refine RegStepsK.cons ?_ ?_
       ·intro DD az wz hcl hnd hC hdf hF hD K hK;replace hdf:=Lib.hid hdf
        obtain ⟨_,q30,rfl⟩:=dep hD 1 rfl rfl rfl rfl
        obtain ⟨_,q33,x33,rfl,hx33⟩:=dep hD 4 rfl rfl rfl rfl
        obtain ⟨hs1,hs2,R3,l3,y0,y1,y2,y3,y4,y5,y6,y7,y8,hri,one9,ho9,hR9⟩:=hx33
        clear hF hD
        refine want_none rfl ?_
        obtain ⟨css,p1,p2,p4,p3⟩:=hC.row hnd
        obtain ⟨i0_,hi_,hz0,hz1,hz2⟩:=info_parts reg_info
        refine oper_pushO _ _ _ 30 rfl 32 i0_ (.agg #[.int .i64 0,.string ⟨#[]⟩,.int .i64 0,.int .i64 0,.int .i64 0,.int .i64 0,.int .i64 0,.int .i64 0,.slice none 0 0]) 9 96 Tryd.underlying30 hi_ hz0 hz1 hz2 rfl (by decide) 0 _ _ _ (by simp [Act.eval,q30]) p2 ⟨x33,0,none⟩ 1 [y0,y1,y2,y3,y4,y5,y6,y7,y8] (by simp [Act.eval,q33]) rfl ho9 one9 (by unfold maxLen;omega) (by omega) (Nat.zero_le _) ?_
        intro v' w' hrow3 hgrow hv'
        have hrow4:=KRow.push p1 p4 p3 rfl hR9 hN5 (Nat.le_of_lt (Nat.lt_of_le_of_lt hs1 hs2)) hvi hrow3 hgrow hv'
        obtain ⟨A',c',hA'⟩:=hrow4.slice
        exact hK _ _ (hC.push hgrow hvn hBw) (UpD7 (fun _ _ hx=>sReg3_row hx hgrow hvi) (fun _ _ hx=>sReg4_row hx hgrow hvi) (fun h=>absurd h hnd)) ⟨v',rfl,R3,l3,A',c',by simpa using hA',hri,hrow4⟩
       refine RegStepsK.cons ?_ ?_
       ·intro DD az wz hcl hnd hC hdf hF hD K hK;replace hdf:=Lib.hid hdf
        have q5:az.tmps[5]? = some (.pointer (some ⟨g5,0,none⟩)):=hF 5 rfl
        clear hF hD
        refine want_none rfl ?_
        go_simp
        exact hK _ _ (hC.pure (by decide) (by decide)) UpD.refl rfl
       exact RegStepsK.nil
      intro w7 hJ7
      rintro _ rfl _ rfl _ rfl _ ⟨y32,rfl,_⟩ _ ⟨y33,rfl,_⟩ _ ⟨y34,rfl,hy34⟩ _ rfl
      simp only [List.take,FinOK,Act.put,List.setIfInBounds_toArray,List.set_cons_zero,List.set_cons_succ]
      simp only [List.drop,TailOK]
      obtain ⟨R7,l7,A7,c7,hv7,hri7,hrow7⟩:=hy34
      subst hv7
      obtain ⟨R8,l8_,hri8,hrd7⟩:=hJ7.rd3 (by decide)
      obtain ⟨rfl,rfl⟩:R7=R8∧l7=l8_:=by rw [hri7] at hri8;cases hri8;exact ⟨rfl,rfl⟩
      have q8:=hJ7.o5.cell 8
      have q9:=hJ7.o5.frozen 8
      have hk:=At1.set_ (r:=g5) w7 (p:=⟨g5,8,none⟩) rfl (.slice A7 (acc.length+1) c7)
      have hless:=HEat.out _ _ hri7
      have hres7:=HRES.out
      rw [hri7] at hres7
      have HS:=Lib.hid (And.intro (hJ7.at1.at_ hk hwg5) (And.intro (hJ7.o2.at1 hk (Nat.ne_of_lt hwg6)) (And.intro (hJ7.o5.set_ 8 (.slice A7 (acc.length+1) c7)) (And.intro (hrow7.at1 hk (fun h=>(HNg.out _ h).2.2 rfl)) (And.intro (hrd7.at_ hk (Nat.le_trans hBw hwg5)) (And.intro hres7 hless.1))))))
      have hll:=hless.2
      clear hJ7 hk hrd7 hrow7 hri7 hri8 hJ0 hless hres7
      intro K hK
      refine want_none rfl ?_
      go_simp
      refine hK _ _ ?_
      clear hK K
      go_roundw
      case rel=>exact ⟨_,_,_,_,_,_,_,_,_,_,⟨f',acc++[R7],l7,A7,c7,by omega,by omega,by simp;omega,HS.out.2.2.2.2.2.2,HS.out.2.2.2.2.2.1,HS.out.1,HS.out.2.1,by rw [List.length_append];exact HS.out.2.2.1,by rw [List.length_append];exact HS.out.2.2.2.1,HS.out.2.2.2.2.1⟩,rfl⟩
      case measure=>have:=HS.out.2.2.2.2.1.len;omega
     ·have HT4:=Lib.hid fun u=>H3.out l' u
      rw [decide_eq_false h4,if_neg h4] at HT4
      rw [if_neg h4,HKK.out] at hres
      clear h4 hfl hf' hn hg hlen
      go_wp2_with fail
      refine (HT4.out _ hrd).mono ?_
      rintro e2 w5 ⟨rfl,k4,k5⟩
      have hg5o:=ho5.at1 k5 hg5r
      have hg2o:=ho2.at1 k5 hg2
      obtain ⟨⟨c0,c1,c2,c3,c4,c5,c6,c7,c8⟩,_⟩:=hg5o.all9
      obtain ⟨⟨z0,z1,z2,z3,z4,z5,z6,z7,z8⟩,f0,f1,f2,f3,f4,f5,f6,f7,f8⟩:=hg2o.all9
      have HF:=Lib.hid (And.intro hg2o (And.intro (hat.trans k5) (And.intro (hrow.at1 k5 hN0) (And.intro k4 hres))))
      clear ho5 ho2 hg5o hg2o hat hrow hrd k4 k5 hres
      go_wp2_with fail
      obtain ⟨hO,hk⟩:=HF.out.1.put9 (x0:=.int .i64 4) (x1:=.string ⟨#[]⟩) (x2:=.int .i64 0) (x3:=.int .i64 0) (x4:=.int .i64 0) (x5:=.int .i64 0) (x6:=.int .i64 0) (x7:=.int .i64 0) (x8:=.slice A acc.length c)
      clear c0 c1 c2 c3 c4 c5 c6 c7 c8 z0 z1 z2 z3 z4 z5 z6 z7 z8 f0 f1 f2 f3 f4 f5 f6 f7 f8
      revert hO hk
      generalize (((((((((w5.setCell _ _).setCell _ _).setCell _ _).setCell _ _).setCell _ _).setCell _ _).setCell _ _).setCell _ _).setCell _ _)=W9
      intro hO hk
      obtain ⟨⟨q0,q1,q2,q3,q4,q5,q6,q7,q8⟩,_⟩:=hO.all9
      refine bodyPost_ret (v:=.agg #[.int .i64 4,.string ⟨#[]⟩,.int .i64 0,.int .i64 0,.int .i64 0,.int .i64 0,.int .i64 0,.int .i64 0,.slice A acc.length c]) (by simp [results,Tryd.results54,go_sem,q0,q1,q2,q3,q4,q5,q6,q7,q8]) rfl ?_
      have hres9:=HF.out.2.2.2.2
      subst hres9
      obtain ⟨A',c',hA',hkids⟩:=((HF.out.2.2.1.at1 hk (fun h=>(HNg.out _ h).2.1 rfl)).listV (w0:=w) (fun g hg=>(HNg.out g hg).1))
      cases hA'
      refine ⟨HF.out.2.1.at_ hk (Nat.le_refl _),⟨_,rfl,_,rfl,?_⟩,HF.out.2.2.2.1.at_ hk hBw⟩
      unfold Qy.kidsR
      rw [RegAt]
      exact ⟨_,_,rfl,hkids⟩
   ·have hne1:((bs op).toList==[97,110,100])=false:=word_ne _ _ _ (by rw [h2];decide)
    have hne2:((bs op).toList==[111,114])=true:=word_ne _ _ _ (by rw [h2];decide)
    have hK0:KK=5:=by rw [← hKK,h2];rfl
    subst hK0
    clear h2 hKK
    go_enter Tryd.func54,Tryd.ntmps54
    go_upto_region 1 with fail
    refine wp_new1 fun W0 hA hB=>?_
    have k0:=h.on hB
    clear h
    go_wp2_with fail
    refine (H1.out _ k0).mono ?_
    rintro e2 w1 ⟨k1,⟨v,rfl,hR⟩,k2⟩
    obtain ⟨n0,s1,n2,n3,n4,n5,n6,n7,A8,l8,c9,rfl,hR1,hR3⟩:=hR.lit
    have zA:w.heap.size<W0.heap.size:=hA.lt
    have hA1:=hA.at1 k1 (by omega)
    have ka:=(At1.of_below (r:=r) hB).trans k1
    have z0_:=k1.size
    clear hR k0 k1 hB hA
    go_upto_region 2 with fail
    refine wp_new1 fun W1 hF kn=>?_
    have hA2:=hA1.on kn
    have k3:=k2.on kn
    have ka2:=ka.trans (At1.of_below kn)
    have hR2:=hR1.at1 (At1.of_below (r:=r) kn) (by omega)
    obtain ⟨⟨c0,c1,c2,c3,c4,c5,c6,c7,c8⟩,_⟩:=hF.all9
    have r0:=k3.cell0.1
    rw [hop] at r0
    have z1_:=kn.size
    clear hF kn hA1 k2 ka hR1
    go_upto_region 6 with fail
    refine wp_new1 fun W2 hG5 hB2=>?_
    obtain ⟨g5,hg5⟩:∃ g,W1.heap.size+1=g:=⟨_,rfl⟩
    rw [show (W1.alloc (.cells #[.int .i64 n0,.string s1,.int .i64 n2,.int .i64 n3,.int .i64 n4,.int .i64 n5,.int .i64 n6,.int .i64 n7,.slice A8 l8 c9] 32)).heap.size=g5 by rw [← hg5];simp] at hG5
    have kn1:=below_new W1 (.cells #[.int .i64 n0,.string s1,.int .i64 n2,.int .i64 n3,.int .i64 n4,.int .i64 n5,.int .i64 n6,.int .i64 n7,.slice A8 l8 c9] 32)
    obtain ⟨N,hN⟩:∃ N:Nat→Prop,N=fun g=>W0.heap.size≤g∧g≠g5:=⟨_,rfl⟩
    have hrow0:=(hR3 32 W1 N (RegAt.keep (Nat.le_refl _) (fun g hg hl=>⟨by rw [hN];exact ⟨hg,by omega⟩,rfl⟩) _ _ hR2) (by rw [hN];exact ⟨by omega,by omega⟩)).on hB2
    have hgl5:=hG5.lt
    have hg2:w.heap.size≠r:=by omega
    have hg5r:g5≠r:=by omega
    have hN0:¬ N r:=by rw [hN];exact fun h=>by have:=h.1;omega
    have hNew:∀ g,g5<g→N g:=fun g hg=>by rw [hN];exact ⟨by omega,by omega⟩
    have hNg:∀ g,N g→w.heap.size≤g∧g≠w.heap.size∧g≠g5:=fun g hg=>by
     rw [hN] at hg
     exact ⟨by have:=hg.1;omega,by have:=hg.1;omega,hg.2⟩
    have hat0:=(ka2.trans (At1.of_below kn1)).trans (At1.of_below hB2)
    have ho2:=(hA2.on kn1).on hB2
    have hrd0:=(k3.on kn1).on hB2
    have hwg5:w.heap.size≤g5:=by omega
    have hwg6:w.heap.size<g5:=by omega
    have HNew:=Lib.hid hNew
    have HNg:=Lib.hid hNg
    clear hNew hNg hA2 k3 ka2 hR2 hR3 hB2 kn1 c0 c1 c2 c3 c4 c5 c6 c7 c8 r0
    rw [hg5]
    clear hN z0_ z1_ zA
    have q0:W2.cell? ⟨g5,0,none⟩=some (.int .i64 4):=hG5.cell 0
    have q1:=hG5.frozen 0
    have hk:=At1.set_ (r:=g5) W2 (p:=⟨g5,0,none⟩) rfl (.int .i64 5)
    have HST:=Lib.hid (And.intro (hat0.at_ hk hwg5) (And.intro (ho2.at1 hk (Nat.ne_of_lt hwg6)) (And.intro (hG5.set_ 0 (.int .i64 5)) (And.intro (hrow0.at1 hk (fun h=>(HNg.out _ h).2.2 rfl)) (hrd0.at_ hk (Nat.le_trans hBw hwg5))))))
    clear hat0 ho2 hG5 hrow0 hrd0 hk
    go_wp2_with fail
    go_loopw [] (fun wr=>∃ (f':Nat) (acc:List Qy.Reg) (l':List Qy.Tok) (A:Option Addr) (c:Nat),f'≤f∧3 * l'.length+1≤f'∧acc.length+l'.length≤5000∧Qy.Good l'∧Qy.pJoin f' op acc l'=RES∧At1 r w wr∧Own wr w.heap.size 32 [.int .i64 0,.string ⟨#[]⟩,.int .i64 0,.int .i64 0,.int .i64 0,.int .i64 0,.int .i64 0,.int .i64 0,.slice none 0 0]∧Own wr g5 32 [.int .i64 5,.string ⟨#[]⟩,.int .i64 0,.int .i64 0,.int .i64 0,.int .i64 0,.int .i64 0,.int .i64 0,.slice A acc.length c]∧KRow 32 N wr (.slice A acc.length c) acc∧RdAt B r l' wr) (fun wr=>restLen r wr)
    case atStart=>exact ⟨f,[R],l1,_,_,Nat.le_refl _,f1,n1_,HG1.out,HRES0.out,HST.out.1,HST.out.2.1,HST.out.2.2.1,HST.out.2.2.2.1,HST.out.2.2.2.2⟩
    case round=>
     obtain ⟨f',acc,l',A,c,hf',hfl,hn,hg,hres,hat,ho2,ho5,hrow,hrd⟩:=hrel
     obtain ⟨f',rfl⟩:∃ f'',f'=f''+1:=⟨f' - 1,by omega⟩
     have hlen:=hrd.len
     rw [Qy.pJoin] at hres
     by_cases h4:Qy.hd l'=op
     ·have HT4:=Lib.hid fun u=>H3.out l' u
      rw [decide_eq_true h4,if_pos h4] at HT4
      rw [if_pos h4] at hres
      have b4:=hg.stp_lt (by rw [h4];exact HOne.out)
      have g4:=hg.stp
      obtain ⟨l2,hl2⟩:∃ l2,Qy.stp l'=l2:=⟨_,rfl⟩
      rw [hl2] at HT4 hres b4 g4
      obtain ⟨RI,hRI⟩:∃ RI,Qy.pItem f' l2=RI:=⟨_,rfl⟩
      have HI5:Hid (∀ u,RdAt B r l2 u→Calls Tryd.prog 80 #[.pointer (some ⟨r,0,none⟩)] u (Ends B r u RI (regV u))):=Lib.hid fun u k=>hRI▸HIH.out f' (by omega) l2 u k g4 (by omega) (by omega)
      rw [hRI] at hres
      have HRES:=Lib.hid hres
      have HEat:Hid (∀ R3 l3,RI=.ok R3 l3→Qy.Less l2 l3):=Lib.hid fun R3 l3 e=>(Qy.eats f').item l2 R3 l3 g4 (hRI.trans e)
      have hvx:=hrow.own
      have hgl:=ho5.lt
      clear h4 hg hres hRI hl2 g4
      go_wp2_with fail
      refine (HT4.out _ hrd).mono ?_
      rintro e2 w5 ⟨rfl,k4,k5⟩
      have kd:=Below.drew (Below.refl w5.heap.size w5)
      have hJ0:JR B r w.heap.size g5 5 N w w5 A c acc l2 RI (fun _=>False) w5.drew:=⟨(hat.trans k5).drew,Nat.le_refl _,(ho2.at1 k5 hg2).on kd,(ho5.at1 k5 hg5r).on kd,fun _=>(hrow.at1 k5 hN0).on kd,fun _=>k4.on kd,False.elim⟩
      have hvi:∀ g,(Value.slice A acc.length c).ownBlock=some g→g<w5.heap.size:=fun g e=>Nat.lt_of_lt_of_le (hvx g e).2 k5.size
      have hvn:∀ g,(Value.slice A acc.length c).ownBlock=some g→w.heap.size≤g∧g≠w.heap.size∧g≠g5:=fun g e=>HNg.out g (hvx g e).1
      have hN5:∀ g,New w5 g→N g:=fun g hg=>HNew.out g (Nat.lt_of_lt_of_le hgl (Nat.le_trans k5.size hg))
      have hn1:acc.length+1≤5000:=by omega
      clear hat ho2 ho5 hrow hrd k4 k5 kd hvx
      go_upto_region 9 with fail
      refine wp_region_suffixK (JR B r w.heap.size g5 5 N w w5 A c acc l2 RI) 7 [Spec.eq (.pointer (some ⟨g5,8,none⟩)),Spec.eq (.slice A acc.length c),Spec.eq (.pointer (some ⟨r,0,none⟩)),sReg3 w5 RI,sReg4 w5 RI,sReg5 N acc RI,Spec.eq (.pointer (some ⟨g5,8,none⟩))]
       (by kernel_rfl) (by kernel_rfl) rfl (by kernel_rfl) (by kernel_rfl) hJ0 ?_ ?_
      ·
       refine RegStepsK.cons ?_ ?_
       ·intro DD az wz hcl hnd hC hdf hF hD K hK;replace hdf:=Lib.hid hdf
        have q5:az.tmps[5]? = some (.pointer (some ⟨g5,0,none⟩)):=hF 5 rfl
        clear hF hD
        refine want_none rfl ?_
        go_simp
        exact hK _ _ (hC.pure (by decide) (by decide)) UpD.refl rfl
       refine RegStepsK.cons ?_ ?_
       ·intro DD az wz hcl hnd hC hdf hF hD K hK;replace hdf:=Lib.hid hdf
        obtain ⟨_,q29,rfl⟩:=dep hD 0 rfl rfl rfl rfl
        have z8:wz.cell? ⟨g5,8,none⟩=some (.slice A acc.length c):=hC.o5.cell 8
        clear hF hD
        refine want_none rfl ?_
        go_simp
        exact hK _ _ (hC.pure (by decide) (by decide)) UpD.refl rfl
       refine RegStepsK.cons ?_ ?_
       ·intro DD az wz hcl hnd hC hdf hF hD K hK;replace hdf:=Lib.hid hdf
        have q0:az.tmps[0]? = some (.pointer (some ⟨r,0,none⟩)):=hF 0 rfl
        clear hF hD
        refine want_none rfl ?_
        go_simp
        exact hK _ _ (hC.pure (by decide) (by decide)) UpD.refl rfl
       refine RegStepsK.cons ?_ ?_
       ·intro DD az wz hcl hnd hC hdf hF hD K hK;replace hdf:=Lib.hid hdf
        obtain ⟨_,q31,rfl⟩:=dep hD 2 rfl rfl rfl rfl
        have hrd:=hC.rd hnd
        have HJ:=Lib.hid hC
        have HCL:=Lib.hid hcl
        have HND:=Lib.hid hnd
        clear hF hD hC hcl hnd
        refine want_none rfl ?_
        go_simp
        refine (HI5.out wz hrd).mono ?_
        rintro e wy hE
        clear hrd
        rcases hE.cases with ⟨R3,l3,u,hri,rfl,hu,hrd3,hat3⟩ | ⟨x,er,hri,rfl,hat3⟩
        ·obtain ⟨cs,rfl,_⟩:=id hu
         exact hK _ _ (HJ.out.call hat3 hri hrd3 hN0 hg2 hg5r) (UpD7 (fun h=>absurd h HND.out) (fun h=>absurd (HCL.out 4 _ rfl h 3 rfl) HND.out) (fun h=>absurd (HCL.out 4 _ rfl (HCL.out 5 _ rfl h 4 rfl) 3 rfl) HND.out)) ⟨cs,rfl,R3,l3,hri,hu.old HJ.out.sz⟩
        ·have hpan:=HRES.out
         rw [hri] at hpan
         simp only [Qy.Res.on] at hpan
         subst hpan
         have HG:=Lib.hid (HJ.out.at1.trans hat3)
         clear hK hat3 hE hri
         go_wp2
         exact ⟨hdf.out,HG.out,rfl⟩
       refine RegStepsK.cons ?_ ?_
       ·intro DD az wz hcl hnd hC hdf hF hD K hK;replace hdf:=Lib.hid hdf
        obtain ⟨_,q32,x32,rfl,hx32⟩:=dep hD 3 rfl rfl rfl rfl
        obtain ⟨R3,l3,hri,hu⟩:=hx32
        obtain ⟨y0,y1,y2,y3,y4,y5,y6,y7,y8,hcs,one9,hR9,_⟩:=hu.open_
        rw [hcs] at q32
        have kn:=below_new wz (.cells #[y0,y1,y2,y3,y4,y5,y6,y7,y8] 32)
        have HP:=Lib.hid (hC.on kn (i:=4) (by decide) (by decide))
        have HKN:=Lib.hid kn
        have HCL:=Lib.hid hcl
        have HND:=Lib.hid hnd
        have HO:=Lib.hid (own_news (Own.new wz 32 [y0,y1,y2,y3,y4,y5,y6,y7,y8]))
        have HR9:=Lib.hid (RegAt.keep kn.size (fun g hg hl=>⟨hg,kn.block g hl⟩) _ _ hR9)
        have HSZ:=Lib.hid hC.sz
        clear hF hD hC hcl hnd hu hR9 kn hcs
        refine want_none rfl ?_
        go_simp
        exact hK _ _ HP.out (UpD7 (fun _ _ hx=>sReg3_on hx HKN.out) (fun h=>absurd h HND.out) (fun h=>absurd (HCL.out 5 _ rfl h 4 rfl) HND.out)) ⟨wz.heap.size,rfl,HSZ.out,by simp,R3,l3,y0,y1,y2,y3,y4,y5,y6,y7,y8,hri,one9,HO.out,HR9.out⟩
       refine RegStepsK.cons ?_ ?_
       ·intro DD az wz hcl hnd hC hdf hF hD K hK;replace hdf:=Lib.hid hdf
        obtain ⟨_,q30,rfl⟩:=dep hD 1 rfl rfl rfl rfl
        obtain ⟨_,q33,x33,rfl,hx33⟩:=dep hD 4 rfl rfl rfl rfl
        obtain ⟨hs1,hs2,R3,l3,y0,y1,y2,y3,y4,y5,y6,y7,y8,hri,one9,ho9,hR9⟩:=hx33
        clear hF hD
        refine want_none rfl ?_
        obtain ⟨css,p1,p2,p4,p3⟩:=hC.row hnd
        obtain ⟨i0_,hi_,hz0,hz1,hz2⟩:=info_parts reg_info
        refine oper_pushO _ _ _ 30 rfl 32 i0_ (.agg #[.int .i64 0,.string ⟨#[]⟩,.int .i64 0,.int .i64 0,.int .i64 0,.int .i64 0,.int .i64 0,.int .i64 0,.slice none 0 0]) 9 96 Tryd.underlying30 hi_ hz0 hz1 hz2 rfl (by decide) 0 _ _ _ (by simp [Act.eval,q30]) p2 ⟨x33,0,none⟩ 1 [y0,y1,y2,y3,y4,y5,y6,y7,y8] (by simp [Act.eval,q33]) rfl ho9 one9 (by unfold maxLen;omega) (by omega) (Nat.zero_le _) ?_
        intro v' w' hrow3 hgrow hv'
        have hrow4:=KRow.push p1 p4 p3 rfl hR9 hN5 (Nat.le_of_lt (Nat.lt_of_le_of_lt hs1 hs2)) hvi hrow3 hgrow hv'
        obtain ⟨A',c',hA'⟩:=hrow4.slice
        exact hK _ _ (hC.push hgrow hvn hBw) (UpD7 (fun _ _ hx=>sReg3_row hx hgrow hvi) (fun _ _ hx=>sReg4_row hx hgrow hvi) (fun h=>absurd h hnd)) ⟨v',rfl,R3,l3,A',c',by simpa using hA',hri,hrow4⟩
       refine RegStepsK.cons ?_ ?_
       ·intro DD az wz hcl hnd hC hdf hF hD K hK;replace hdf:=Lib.hid hdf
        have q5:az.tmps[5]? = some (.pointer (some ⟨g5,0,none⟩)):=hF 5 rfl
        clear hF hD
        refine want_none rfl ?_
        go_simp
        exact hK _ _ (hC.pure (by decide) (by decide)) UpD.refl rfl
       exact RegStepsK.nil
      intro w7 hJ7
      rintro _ rfl _ rfl _ rfl _ ⟨y32,rfl,_⟩ _ ⟨y33,rfl,_⟩ _ ⟨y34,rfl,hy34⟩ _ rfl
      simp only [List.take,FinOK,Act.put,List.setIfInBounds_toArray,List.set_cons_zero,List.set_cons_succ]
      simp only [List.drop,TailOK]
      obtain ⟨R7,l7,A7,c7,hv7,hri7,hrow7⟩:=hy34
      subst hv7
      obtain ⟨R8,l8_,hri8,hrd7⟩:=hJ7.rd3 (by decide)
      obtain ⟨rfl,rfl⟩:R7=R8∧l7=l8_:=by rw [hri7] at hri8;cases hri8;exact ⟨rfl,rfl⟩
      have q8:=hJ7.o5.cell 8
      have q9:=hJ7.o5.frozen 8
      have hk:=At1.set_ (r:=g5) w7 (p:=⟨g5,8,none⟩) rfl (.slice A7 (acc.length+1) c7)
      have hless:=HEat.out _ _ hri7
      have hres7:=HRES.out
      rw [hri7] at hres7
      have HS:=Lib.hid (And.intro (hJ7.at1.at_ hk hwg5) (And.intro (hJ7.o2.at1 hk (Nat.ne_of_lt hwg6)) (And.intro (hJ7.o5.set_ 8 (.slice A7 (acc.length+1) c7)) (And.intro (hrow7.at1 hk (fun h=>(HNg.out _ h).2.2 rfl)) (And.intro (hrd7.at_ hk (Nat.le_trans hBw hwg5)) (And.intro hres7 hless.1))))))
      have hll:=hless.2
      clear hJ7 hk hrd7 hrow7 hri7 hri8 hJ0 hless hres7
      intro K hK
      refine want_none rfl ?_
      go_simp
      refine hK _ _ ?_
      clear hK K
      go_roundw
      case rel=>exact ⟨_,_,_,_,_,_,_,_,_,_,⟨f',acc++[R7],l7,A7,c7,by omega,by omega,by simp;omega,HS.out.2.2.2.2.2.2,HS.out.2.2.2.2.2.1,HS.out.1,HS.out.2.1,by rw [List.length_append];exact HS.out.2.2.1,by rw [List.length_append];exact HS.out.2.2.2.1,HS.out.2.2.2.2.1⟩,rfl⟩
      case measure=>have:=HS.out.2.2.2.2.1.len;omega
     ·have HT4:=Lib.hid fun u=>H3.out l' u
      rw [decide_eq_false h4,if_neg h4] at HT4
      rw [if_neg h4,HKK.out] at hres
      clear h4 hfl hf' hn hg hlen
      go_wp2_with fail
      refine (HT4.out _ hrd).mono ?_
      rintro e2 w5 ⟨rfl,k4,k5⟩
      have hg5o:=ho5.at1 k5 hg5r
      have hg2o:=ho2.at1 k5 hg2
      obtain ⟨⟨c0,c1,c2,c3,c4,c5,c6,c7,c8⟩,_⟩:=hg5o.all9
      obtain ⟨⟨z0,z1,z2,z3,z4,z5,z6,z7,z8⟩,f0,f1,f2,f3,f4,f5,f6,f7,f8⟩:=hg2o.all9
      have HF:=Lib.hid (And.intro hg2o (And.intro (hat.trans k5) (And.intro (hrow.at1 k5 hN0) (And.intro k4 hres))))
      clear ho5 ho2 hg5o hg2o hat hrow hrd k4 k5 hres
      go_wp2_with fail
      obtain ⟨hO,hk⟩:=HF.out.1.put9 (x0:=.int .i64 5) (x1:=.string ⟨#[]⟩) (x2:=.int .i64 0) (x3:=.int .i64 0) (x4:=.int .i64 0) (x5:=.int .i64 0) (x6:=.int .i64 0) (x7:=.int .i64 0) (x8:=.slice A acc.length c)
      clear c0 c1 c2 c3 c4 c5 c6 c7 c8 z0 z1 z2 z3 z4 z5 z6 z7 z8 f0 f1 f2 f3 f4 f5 f6 f7 f8
      revert hO hk
      generalize (((((((((w5.setCell _ _).setCell _ _).setCell _ _).setCell _ _).setCell _ _).setCell _ _).setCell _ _).setCell _ _).setCell _ _)=W9
      intro hO hk
      obtain ⟨⟨q0,q1,q2,q3,q4,q5,q6,q7,q8⟩,_⟩:=hO.all9
      refine bodyPost_ret (v:=.agg #[.int .i64 5,.string ⟨#[]⟩,.int .i64 0,.int .i64 0,.int .i64 0,.int .i64 0,.int .i64 0,.int .i64 0,.slice A acc.length c]) (by simp [results,Tryd.results54,go_sem,q0,q1,q2,q3,q4,q5,q6,q7,q8]) rfl ?_
      have hres9:=HF.out.2.2.2.2
      subst hres9
      obtain ⟨A',c',hA',hkids⟩:=((HF.out.2.2.1.at1 hk (fun h=>(HNg.out _ h).2.1 rfl)).listV (w0:=w) (fun g hg=>(HNg.out g hg).1))
      cases hA'
      refine ⟨HF.out.2.1.at_ hk (Nat.le_refl _),⟨_,rfl,_,rfl,?_⟩,HF.out.2.2.2.1.at_ hk hBw⟩
      unfold Qy.kidsR
      rw [RegAt]
      exact ⟨_,_,rfl,hkids⟩
  ·rw [if_neg h2]
   have hne1:((bs (Qy.hd l1)).toList==[97,110,100])=false:=word_ne _ _ _ (decide_eq_false fun e=>h2 (.inl e))
   have hne2:((bs (Qy.hd l1)).toList==[111,114])=false:=word_ne _ _ _ (decide_eq_false fun e=>h2 (.inr e))
   clear h1 hg hf hL ih h2 hl1
   go_enter Tryd.func54,Tryd.ntmps54
   go_upto_region 1 with fail
   refine wp_new1 fun W0 hA hB=>?_
   have k0:=h.on hB
   clear h
   go_wp2_with fail
   refine (H1.out _ k0).mono ?_
   rintro e2 w1 ⟨k1,⟨v,rfl,hR⟩,k2⟩
   obtain ⟨n0,s1,n2,n3,n4,n5,n6,n7,A8,l8,c9,rfl,hR1,hR3⟩:=hR.lit
   have zA:w.heap.size<W0.heap.size:=hA.lt
   have hA1:=hA.at1 k1 (by omega)
   have ka:=(At1.of_below (r:=r) hB).trans k1
   clear hR k0 k1 hB hA
   go_upto_region 2 with fail
   refine wp_new1 fun W1 hF kn=>?_
   have z1:=ka.size
   have hA2:=hA1.on kn
   have k3:=k2.on kn
   have ka2:=ka.trans (At1.of_below kn)
   have hR2:=hR1.at1 (At1.of_below (r:=r) kn) (by omega)
   have hFl:=hF.lt
   obtain ⟨⟨c0,c1,c2,c3,c4,c5,c6,c7,c8⟩,_⟩:=hF.all9
   obtain ⟨⟨z0,z1,z2,z3,z4,z5,z6,z7,z8⟩,f0,f1,f2,f3,f4,f5,f6,f7,f8⟩:=hA2.all9
   have r0:=k3.cell0.1
   have HF:=Lib.hid (And.intro hA2 (And.intro k3 (And.intro ka2 hR2)))
   clear hA2 k3 ka2 hR2 hF kn hA1 k2 ka hR1 hR3
   go_wp2_with fail
   obtain ⟨hO,hk⟩:=HF.out.1.put9 (x0:=.int .i64 n0) (x1:=.string s1) (x2:=.int .i64 n2) (x3:=.int .i64 n3) (x4:=.int .i64 n4) (x5:=.int .i64 n5) (x6:=.int .i64 n6) (x7:=.int .i64 n7) (x8:=.slice A8 l8 c9)
   clear c0 c1 c2 c3 c4 c5 c6 c7 c8 z0 z1 z2 z3 z4 z5 z6 z7 z8 f0 f1 f2 f3 f4 f5 f6 f7 f8
   revert hO hk
   generalize (((((((((W1.setCell _ _).setCell _ _).setCell _ _).setCell _ _).setCell _ _).setCell _ _).setCell _ _).setCell _ _).setCell _ _)=W2
   intro hO hk
   obtain ⟨⟨q0,q1,q2,q3,q4,q5,q6,q7,q8⟩,_⟩:=hO.all9
   refine bodyPost_ret (v:=.agg #[.int .i64 n0,.string s1,.int .i64 n2,.int .i64 n3,.int .i64 n4,.int .i64 n5,.int .i64 n6,.int .i64 n7,.slice A8 l8 c9]) (by simp [results,Tryd.results54,go_sem,q0,q1,q2,q3,q4,q5,q6,q7,q8]) rfl ?_
   refine ⟨HF.out.2.2.1.at_ hk (Nat.le_refl _),⟨_,rfl,_,rfl,RegAt.keep (Nat.le_refl _) (fun g hg _=>⟨Nat.le_of_lt (Nat.lt_of_lt_of_le zA hg),rfl⟩) _ _ (HF.out.2.2.2.at1 hk zA)⟩,HF.out.2.1.at_ hk hBw⟩
end Go.Proofs.YtmlpibdincfgbaaDoor
