/-
  A region that draws its order, by an invariant: what holds when a set of its operations has come up. What an Int's parts are.
-/
import Derived.Orders
import Derived.RegionTactic
import Derived.Below
import Derived.Test.YtmlpibdincfgbaaDoorT1
namespace Go.Proofs.YtmlpibdincfgbaaDoor
open Go.RowKit
def done (L:Array Bool) (k:Nat):Prop:=L.getD k false=true
theorem done_set {L:Array Bool} {i k:Nat} (h:done (L.setIfInBounds i true) k) (hne:i≠k):done L k:=by
 unfold done at *
 rw [Array.getD_eq_getD_getElem?,Array.getElem?_setIfInBounds_ne hne,← Array.getD_eq_getD_getElem?] at h
 exact h
theorem done_up {L:Array Bool} {i k:Nat} (h:done L k):done (L.setIfInBounds i true) k:=by
 unfold done at *
 rw [Array.getD_eq_getD_getElem?] at h ⊢
 by_cases e:i=k
 ·subst e
  rw [Array.getElem?_setIfInBounds_self]
  cases hL:L[i]? with
  | none=>rw [hL] at h;simp at h
  | some b=>
   obtain ⟨hlt,_⟩:=Array.getElem?_eq_some_iff.1 hL
   rw [if_pos hlt];rfl
 ·rw [Array.getElem?_setIfInBounds_ne e];exact h
theorem done_none (n k:Nat):¬ done (Array.replicate n false) k:=by
 unfold done
 rw [Array.getD_eq_getD_getElem?,Array.getElem?_replicate]
 split <;> simp
theorem ready_spec {ops:Array Oper} {L:Array Bool} {i:Nat} (h:i∈Region.ready .any ops L) :
 i<ops.size∧¬ done L i∧∀ o,ops[i]? = some o→∀ e∈o.after,Region.binds .any e=true→done L e.on:=by
 unfold Region.ready at h
 rw [List.mem_filter,List.mem_range] at h
 obtain ⟨h1,h2⟩:=h
 rw [Bool.and_eq_true] at h2
 obtain ⟨h3,h4⟩:=h2
 refine ⟨h1,?_,?_⟩
 ·intro hd
  unfold done at hd
  rw [Array.getD_eq_getD_getElem?] at hd h3
  cases hL:L[i]? with
  | none=>rw [hL] at hd;simp at hd
  | some b=>rw [hL] at hd h3;simp at hd h3;rw [hd] at h3;cases h3
 ·intro o ho e he hb
  rw [ho] at h4
  simp only [Option.map_some,Option.getD_some,Array.all_eq_true] at h4
  obtain ⟨j,hj,rfl⟩:=Array.getElem_of_mem he
  have:=h4 j hj
  rw [hb] at this
  simpa [done] using this
def left (L:Array Bool):Nat:=(L.toList.filter (!·)).length
theorem left_list (l:List Bool):∀ i,l[i]? = some false→((l.set i true).filter (!·)).length+1=(l.filter (!·)).length:=by
 induction l with
 | nil=>intro i h;cases h
 | cons b l ih=>
  intro i h
  cases i with
  | zero=>simp at h;subst h;simp
  | succ i=>
   have h1:=ih i (by simpa using h)
   cases b <;> simp <;> omega
theorem left_set {L:Array Bool} {i:Nat} (hi:i<L.size) (h:¬ done L i):left (L.setIfInBounds i true)+1=left L:=by
 unfold left
 rw [Array.toList_setIfInBounds]
 apply left_list
 unfold done at h
 rw [Array.getD_eq_getD_getElem?,Array.getElem?_eq_getElem hi] at h
 rw [Array.getElem?_toList,Array.getElem?_eq_getElem hi]
 simpa using h
section
variable {P:Program} {ops:Array Oper} {Q:Exit→Act→World→Prop}
theorem region_inv {id:Nat} {a:Act} {w:World} (hm:P.follows .mixedOrders=true) (J:Array Bool→Act→World→Prop)
 (h0:J (Array.replicate ops.size false) a w.drew)
 (hs:∀ L a w i,J L a w→i∈Region.ready .any ops L→wpOp P ops Q i (J (L.setIfInBounds i true)) a w)
 (he:∀ L a w,J L a w→Region.ready .any ops L=[]→Q .normal a w):(Code.region id ops true).wp P Q a w:=by
 refine wp_region_any hm ?_
 have key:∀ fuel L a w,left L≤fuel→L.size=ops.size→J L a w→wpAny P .any ops Q fuel L a w:=by
  intro fuel
  induction fuel with
  | zero=>
   intro L a w hl hsz hJ
   have hr:Region.ready .any ops L=[]:=by
    apply List.eq_nil_iff_forall_not_mem.2
    intro i hi
    obtain ⟨h1,h2,_⟩:=ready_spec hi
    have:=left_set (L:=L) (i:=i) (by omega) h2
    omega
   exact ⟨hr,he L a w hJ hr⟩
  | succ fuel ih=>
   intro L a w hl hsz hJ
   refine ⟨he L a w hJ,fun i hi=>?_⟩
   obtain ⟨h1,h2,_⟩:=ready_spec hi
   have h3:=left_set (L:=L) (i:=i) (by omega) h2
   exact wpOp_mono (fun a' w' hJ'=>ih _ a' w' (by omega) (by simp [hsz]) hJ') (hs L a w i hJ hi)
 exact key ops.size _ a w.drew (by unfold left;simp) (by simp) h0
end
theorem all_done {ops:Array Oper} {L:Array Bool} (h:Region.ready .any ops L=[]) (hL:L.size=ops.size)
 (ho:((List.range ops.size).all fun k=>((ops[k]?).map fun o=>o.after.toList.all fun e=>!Region.binds .any e||decide (e.on<k)).getD true)=true):∀ k,k<ops.size→done L k:=by
 intro k
 induction k using Nat.strongRecOn with
 | ind k ih=>
  intro hk
  by_cases hd:done L k
  ·exact hd
  ·exfalso
   have hm:k∈Region.ready .any ops L:=by
    unfold Region.ready
    rw [List.mem_filter,List.mem_range]
    refine ⟨hk,?_⟩
    rw [Bool.and_eq_true]
    constructor
    ·unfold done at hd
     rw [Array.getD_eq_getD_getElem?,Array.getElem?_eq_getElem (by omega)] at hd ⊢
     simpa using hd
    ·rw [Array.getElem?_eq_getElem hk]
     simp only [Option.map_some,Option.getD_some,Array.all_eq_true]
     intro j hj
     have h1:=List.all_eq_true.1 ho k (List.mem_range.2 hk)
     rw [Array.getElem?_eq_getElem hk] at h1
     simp only [Option.map_some,Option.getD_some] at h1
     have h2:=List.all_eq_true.1 h1 (ops[k].after[j]) (by simp)
     rw [Bool.or_eq_true] at h2 ⊢
     rcases h2 with h2 | h2
     ·exact .inl h2
     ·refine .inr ?_
      have:=of_decide_eq_true h2
      exact ih _ this (by omega)
   rw [h] at hm
   cases hm
theorem below_new (w:World) (o:Obj):Below w.heap.size w (w.alloc o):=(Below.refl _ _).alloc (Nat.le_refl _) o
structure IV where
 neg:Bool
 A:Option Addr
 n:Nat
 c:Nat
end Go.Proofs.YtmlpibdincfgbaaDoor
/-
 (second part)
-/
namespace Go.Proofs.YtmlpibdincfgbaaDoor
open Go.RowKit
def Word (v:Value):Prop:=∃ n,v=.int .u32 n∨v=.int .u8 n∨v=.int .i64 n
structure Keeps (w w':World):Prop where
 size:w.heap.size≤w'.heap.size
 cell:∀ p v,w.cell? p=some v→Word v→w'.cell? p=some v
theorem Keeps.refl (w:World):Keeps w w:=⟨Nat.le_refl _,fun _ _ h _=>h⟩
theorem Keeps.trans {a b c:World} (h:Keeps a b) (k:Keeps b c):Keeps a c:=⟨Nat.le_trans h.size k.size,fun p v hp hv=>k.cell p v (h.cell p v hp hv) hv⟩
theorem Below.keeps {w w':World} (h:Below w.heap.size w w'):Keeps w w':=⟨h.size,fun _ _ hp _=>(h.cell (World.block_lt_of_cell? _ _ hp)).trans hp⟩
def setAll (w:World) (g:Nat):Nat→List Value→World
 | _,[]=>w
 | i,u :: us=>setAll (w.setCell ⟨g,i,none⟩ u) g (i+1) us
theorem setAll_own {g:Nat} {t:TypeId}:∀ {us:List Value} {w:World} {i:Nat} {xs:List Value},Own w g t xs→i+us.length=xs.length→Own (setAll w g i us) g t (xs.take i++us)
 | [],w,i,xs,h,hl=>by
  have:xs.take i=xs:=List.take_of_length_le (by simpa using Nat.le_of_eq hl.symm)
  rw [this,List.append_nil]
  exact h
 | u :: us,w,i,xs,h,hl=>by
  have h1:=setAll_own (us:=us) (i:=i+1) (h.set_ i u) (by simp at hl ⊢;omega)
  have hi:i<xs.length:=by simp at hl;omega
  have e:(xs.set i u).take (i+1)++us=xs.take i++u :: us:=by
   rw [List.take_succ_eq_append_getElem (by simpa using hi)]
   simp [List.take_set_of_le]
  rw [e] at h1
  exact h1
theorem setAll_far {g g':Nat} {t:TypeId} (hg:g'≠g):∀ {us:List Value} {w:World} {i:Nat} {xs:List Value},Own w g' t xs→Own (setAll w g i us) g' t xs
 | [],_,_,_,h=>h
 | u :: us,_,i,_,h=>setAll_far hg (us:=us) (h.far (p:=⟨g,i,none⟩) hg u)
theorem setAll_below {g B:Nat} {W:World} (hg:B≤g):∀ {us:List Value} {w:World} {i:Nat},Below B W w→Below B W (setAll w g i us)
 | [],_,_,h=>h
 | u :: us,_,i,h=>setAll_below hg (us:=us) (h.setCell (p:=⟨g,i,none⟩) hg u)
theorem setAll_keeps {g:Nat} {t:TypeId}:∀ {us:List Value} {w:World} {i:Nat} {xs:List Value},Own w g t xs→(∀ x∈xs,¬ Word x)→(∀ u∈us,¬ Word u)→Keeps w (setAll w g i us)
 | [],w,_,_,_,_,_=>Keeps.refl w
 | u :: us,w,i,xs,h,hx,hu=>by
  refine Keeps.trans ?_ (setAll_keeps (us:=us) (i:=i+1) (h.set_ i u) ?_ (fun v hv=>hu v (by simp [hv])))
  ·refine ⟨by simp [World.setCell],fun p v hp hv=>?_⟩
   by_cases e:p=⟨g,i,none⟩
   ·subst e
    rw [h.cell] at hp
    exact absurd hv (hx v (List.mem_of_getElem? hp))
   ·exact (World.cell?_setCell_other w ⟨g,i,none⟩ p u (Ne.symm e)).trans hp
  ·intro v hv
   rcases List.mem_or_eq_of_mem_set hv with h1 | h1
   ·exact hx v h1
   ·rw [h1];exact hu u (by simp)
structure Spec (R:World→World→Prop) where
 p:Value→World→Prop
 up:∀ {v w w'},p v w→R w w'→p v w'
def Spec.eq {R:World→World→Prop} (c:Value):Spec R:=⟨fun v _=>v=c,fun h _=>h⟩
def Spec.any {R:World→World→Prop}:Spec R:=⟨fun _ _=>True,fun _ _=>trivial⟩
def Bel (w w':World):Prop:=Below w.heap.size w w'
class StepRel (R:World→World→Prop):Prop where
 below:∀ {w w':World},Below w.heap.size w w'→R w w'
 keeps:∀ {w w':World},R w w'→Keeps w w'
instance:StepRel Bel:=⟨fun h=>h,fun h=>Below.keeps h⟩
instance:StepRel Keeps:=⟨fun h=>Below.keeps h,fun h=>h⟩
structure BoxSpec where
 A:Nat
 j:Nat
 t:Tmp
 T:TypeId
 zs:List Value
 X:List Value→World→Prop
 up:∀ {us w w'},X us w→Keeps w w'→X us w'
section
variable {R:World→World→Prop} {P:Program} {ops:Array Oper} {Q:Exit→Act→World→Prop} {W:World} {S:List (Spec R)} {bs:List BoxSpec} {sk:Nat→Bool} {fr:List Oper} {a0 a:Act} {w:World}
def Got {R:World→World→Prop} (S:List (Spec R)) (ops:Array Oper) (a:Act) (w:World) (k:Nat):Prop:=
 ∃ v o s,ops[k]? = some o∧S[k]? = some s∧(∀ t,o.dst=some t→a.tmps[t]? = some v)∧s.p v w
theorem dep_get {k:Nat} {o:Oper} {s:Spec R} {t:Tmp} (h:Got S ops a w k) (ho:ops[k]? = some o) (hs:S[k]? = some s) (ht:o.dst=some t):∃ v,a.tmps[t]? = some v∧s.p v w:=by
 obtain ⟨v,o',s',ho',hs',h1,h2⟩:=h
 rw [ho] at ho'
 rw [hs] at hs'
 injection ho' with ho'
 injection hs' with hs'
 subst ho' hs'
 exact ⟨v,h1 t ht,h2⟩
def DepsGot {R:World→World→Prop} (S:List (Spec R)) (ops:Array Oper) (a:Act) (w:World):List Edge→Prop
 | []=>True
 | e :: es=>(Region.binds .any e=true→Got S ops a w e.on)∧DepsGot S ops a w es
theorem DepsGot.mk:∀ (l:List Edge),(∀ e∈l,Region.binds .any e=true→Got S ops a w e.on)→DepsGot S ops a w l
 | [],_=>trivial
 | e :: es,h=>⟨h e (by simp),DepsGot.mk es fun e he=>h e (by simp [he])⟩
def FrameOK (fr:List Oper) (a0 a:Act):Prop:=∀ t,(fr.all fun o=>o.dst != some t)=true→a.tmps[t]? = a0.tmps[t]?
def BoxAt1 (W:World) (b:BoxSpec) (a:Act) (w:World) (g:Nat) (cs:List Value):Prop:=
 a.tmps[b.t]? = some (.pointer (some ⟨g,0,none⟩))∧W.heap.size≤g∧Own w g b.T cs∧cs.length=b.zs.length∧∀ c∈cs,¬ Word c
def Full (W:World) (b:BoxSpec) (a:Act) (w:World):Prop:=∃ g cs,BoxAt1 W b a w g cs∧b.X cs w
def waits (o:Oper) (k:Nat):Bool:=o.after.toList.any fun e=>e.on==k&&Region.binds .any e
def StepOK {R:World→World→Prop} (fr:List Oper) (P:Program) (ops:Array Oper) (Q:Exit→Act→World→Prop) (W:World) (S:List (Spec R)) (bs:List BoxSpec) (a0:Act) (o:Oper) (s:Spec R):Prop:=
 ∀ a w,Below W.heap.size W w→FrameOK fr a0 a→DepsGot S ops a w o.after.toList→(∀ b∈bs,waits o b.j=true→Full W b a w)→∀ K:Act→World→Prop,
  (∀ v w',Below W.heap.size W w'→Below w.heap.size w w'→s.p v w'→K (a.put o.dst v) w')→
  if Region.wanted o (yielded ops a.tmps)=true then Oper.wp P o a w K Q else K (a.put o.dst undef) w
def RegSteps {R:World→World→Prop} (fr:List Oper) (P:Program) (ops:Array Oper) (Q:Exit→Act→World→Prop) (W:World) (S:List (Spec R)) (bs:List BoxSpec) (a0:Act) (sk:Nat→Bool):Nat→List Oper→List (Spec R)→Prop
 | _,[],_=>True
 | _,_ :: _,[]=>False
 | i,o :: os,s :: ss=>(sk i=false→StepOK fr P ops Q W S bs a0 o s)∧RegSteps fr P ops Q W S bs a0 sk (i+1) os ss
theorem RegSteps.cons {i:Nat} {o:Oper} {os:List Oper} {s:Spec R} {ss:List (Spec R)} (h:sk i=false→StepOK fr P ops Q W S bs a0 o s) (k:RegSteps fr P ops Q W S bs a0 sk (i+1) os ss):RegSteps fr P ops Q W S bs a0 sk i (o :: os) (s :: ss):=⟨h,k⟩
theorem RegSteps.nil {i:Nat} {ss:List (Spec R)}:RegSteps fr P ops Q W S bs a0 sk i [] ss:=trivial
theorem RegSteps.at_:∀ {os:List Oper} {ss:List (Spec R)} {n i:Nat} {o:Oper},RegSteps fr P ops Q W S bs a0 sk n os ss→os[i]? = some o→∃ s,ss[i]? = some s∧(sk (n+i)=false→StepOK fr P ops Q W S bs a0 o s)
 | [],_,_,i,o,_,h=>by cases h
 | _ :: _,[],_,_,_,h,_=>h.elim
 | o :: os,s :: ss,n,0,o',h,h'=>by
  injection h' with h'
  subst h'
  exact ⟨s,rfl,h.1⟩
 | o :: os,s :: ss,n,i+1,o',h,h'=>by
  obtain ⟨s',h1,h2⟩:=RegSteps.at_ (i:=i) h.2 h'
  exact ⟨s',h1,fun hk=>h2 (by rw [Nat.add_assoc,Nat.add_comm 1 i];exact hk)⟩
structure BoxOK {R:World→World→Prop} (P:Program) (ops:Array Oper) (Q:Exit→Act→World→Prop) (W:World) (S:List (Spec R)) (a0:Act) (b:BoxSpec):Prop where
 oA:∃ o,ops[b.A]? = some o∧o.dst=some b.t∧o.guard=none∧∀ (a:Act) w (K:Act→World→Prop),K (a.put (some b.t) (.pointer (some ⟨w.heap.size,0,none⟩))) (w.alloc (.cells b.zs.toArray b.T))→Oper.wp P o a w K Q
 oj:∃ o,ops[b.j]? = some o∧o.dst=none∧waits o b.A=true∧∀ a w g cs,Below W.heap.size W w→FrameOK ops.toList a0 a→DepsGot S ops a w o.after.toList→BoxAt1 W b a w g cs→∀ K:Act→World→Prop,
  (∀ us,us.length=b.zs.length→(∀ u∈us,¬ Word u)→b.X us w→K (a.put none undef) (setAll w g 0 us))→
  if Region.wanted o (yielded ops a.tmps)=true then Oper.wp P o a w K Q else K (a.put o.dst undef) w
 zero:∀ z∈b.zs,¬ Word z
 ne:b.A≠b.j
def BoxesOK {R:World→World→Prop} (P:Program) (ops:Array Oper) (Q:Exit→Act→World→Prop) (W:World) (S:List (Spec R)) (a0:Act):List BoxSpec→Prop
 | []=>True
 | b :: bs=>BoxOK P ops Q W S a0 b∧BoxesOK P ops Q W S a0 bs
theorem BoxesOK.at_:∀ {bs:List BoxSpec} {b:BoxSpec},BoxesOK P ops Q W S a0 bs→b∈bs→BoxOK P ops Q W S a0 b
 | b' :: bs,b,h,hm=>by
  rcases List.mem_cons.1 hm with rfl | hm
  ·exact h.1
  ·exact BoxesOK.at_ h.2 hm
 | [],_,_,hm=>by cases hm
def boxesB:List BoxSpec→Bool
 | []=>true
 | b :: bs=>(bs.all fun c=>c.A != b.A&&c.j != b.A&&c.A != b.j&&c.j != b.j&&c.t != b.t)&&boxesB bs
theorem boxesB_spec:∀ {bs:List BoxSpec} {i k:Nat} {b c:BoxSpec},boxesB bs=true→bs[i]? = some b→bs[k]? = some c→i≠k→c.A≠b.A∧c.j≠b.A∧c.A≠b.j∧c.j≠b.j∧c.t≠b.t
 | [],_,_,_,_,_,h,_,_=>by cases h
 | d :: bs,0,0,_,_,_,_,_,hne=>absurd rfl hne
 | d :: bs,0,k+1,b,c,h,h1,h2,_=>by
  injection h1 with h1
  subst h1
  simp only [boxesB,Bool.and_eq_true,List.all_eq_true] at h
  simpa [and_assoc] using h.1 c (List.mem_of_getElem? h2)
 | d :: bs,i+1,0,b,c,h,h1,h2,_=>by
  injection h2 with h2
  subst h2
  simp only [boxesB,Bool.and_eq_true,List.all_eq_true] at h
  have:=h.1 b (List.mem_of_getElem? h1)
  simp at this
  exact ⟨fun e=>this.1.1.1.1 e.symm,fun e=>this.1.1.2 e.symm,fun e=>this.1.1.1.2 e.symm,fun e=>this.1.2 e.symm,fun e=>this.2 e.symm⟩
 | d :: bs,i+1,k+1,b,c,h,h1,h2,hne=>by
  simp only [boxesB,Bool.and_eq_true] at h
  exact boxesB_spec (i:=i) (k:=k) h.2 h1 h2 (fun e=>hne (by rw [e]))
def FinOK {R:World→World→Prop} (Q:Exit→Act→World→Prop):List Oper→List (Spec R)→Act→World→Prop
 | o :: os,s :: ss,a,w=>∀ v,s.p v w→FinOK Q os ss (a.put o.dst v) w
 | _,_,a,w=>Q .normal a w
def apartB:List (Option Tmp)→Bool
 | []=>true
 | d :: ds=>(d.isNone||ds.all (· != d))&&apartB ds
def slotsB (n:Nat) (ops:Array Oper):Bool:=(ops.toList.all fun o=>o.dst.all fun t=>decide (t<n))&&apartB (ops.toList.map (·.dst))
theorem apartB_spec:∀ {ds:List (Option Tmp)} {i j:Nat} {t:Tmp},apartB ds=true→ds[i]? = some (some t)→ds[j]? = some (some t)→i=j
 | [],_,_,_,_,h,_=>by cases h
 | d :: ds,0,0,_,_,_,_=>rfl
 | d :: ds,0,j+1,t,h,h1,h2=>by
  injection h1 with h1
  subst h1
  simp only [apartB,Bool.and_eq_true,Bool.or_eq_true,Option.isNone_some,Bool.false_eq_true,false_or,List.all_eq_true] at h
  have:=h.1 (some t) (List.mem_of_getElem? h2)
  simp at this
 | d :: ds,i+1,0,t,h,h1,h2=>by
  injection h2 with h2
  subst h2
  simp only [apartB,Bool.and_eq_true,Bool.or_eq_true,Option.isNone_some,Bool.false_eq_true,false_or,List.all_eq_true] at h
  have:=h.1 (some t) (List.mem_of_getElem? h1)
  simp at this
 | d :: ds,i+1,j+1,t,h,h1,h2=>by
  simp only [apartB,Bool.and_eq_true] at h
  exact congrArg (·+1) (apartB_spec (i:=i) (j:=j) h.2 h1 h2)
theorem slots_lt {n:Nat} (h:slotsB n ops=true) {k:Nat} {o:Oper} {t:Tmp} (ho:ops[k]? = some o) (ht:o.dst=some t):t<n:=by
 unfold slotsB at h
 rw [Bool.and_eq_true,List.all_eq_true] at h
 have:=h.1 o (List.mem_of_getElem? (by rw [Array.getElem?_toList];exact ho))
 rw [ht] at this
 simpa using this
theorem slots_ne {n:Nat} (h:slotsB n ops=true) {i j:Nat} {o o':Oper} {t:Tmp} (ho:ops[i]? = some o) (ho':ops[j]? = some o') (ht:o.dst=some t) (ht':o'.dst=some t):i=j:=by
 unfold slotsB at h
 rw [Bool.and_eq_true] at h
 refine apartB_spec (t:=t) h.2 ?_ ?_
 ·rw [List.getElem?_map,Array.getElem?_toList,ho,Option.map_some,ht]
 ·rw [List.getElem?_map,Array.getElem?_toList,ho',Option.map_some,ht']
theorem put_other {d:Option Tmp} {v:Value} {t:Tmp} (h:d≠some t):(a.put d v).tmps[t]? = a.tmps[t]?:=by
 cases d with
 | none=>rfl
 | some d=>exact Array.getElem?_setIfInBounds_ne (fun e=>h (by rw [e]))
theorem put_self {v:Value} {t:Tmp} (h:t<a.tmps.size):(a.put (some t) v).tmps[t]? = some v:=by
 show (a.tmps.setIfInBounds t v)[t]? = _
 rw [Array.getElem?_setIfInBounds_self,if_pos h]
theorem put_size (d:Option Tmp) (v:Value):(a.put d v).tmps.size=a.tmps.size:=by
 cases d with
 | none=>rfl
 | some d=>simp [Act.put]
theorem put_defers (d:Option Tmp) (v:Value):(a.put d v).defers=a.defers:=by cases d <;> rfl
theorem FinOK.out:∀ {os:List Oper} {ss:List (Spec R)} {b:Act},os.length=ss.length→FinOK Q os ss b w→(∀ t,(os.all fun o=>o.dst != some t)=true→a.tmps[t]? = b.tmps[t]?)→a.tmps.size=b.tmps.size→a.defers=b.defers→
 (∀ (i:Nat) o s,os[i]? = some o→ss[i]? = some s→∃ v,(∀ t,o.dst=some t→a.tmps[t]? = some v)∧s.p v w)→(∀ o∈os,∀ t,o.dst=some t→t<b.tmps.size)→Q .normal a w
 | [],[],b,_,h,hf,hs,hd,_,_=>by
  have e:a.tmps=b.tmps:=Array.ext_getElem? fun t=>hf t rfl
  have e2:a=b:=by
   cases a;cases b
   simp at e hd
   subst e hd
   rfl
  rw [e2]
  exact h
 | o :: os,s :: ss,b,hl,h,hf,hs,hd,hg,hlt=>by
  obtain ⟨v,hv,hp⟩:=hg 0 o s rfl rfl
  refine FinOK.out (os:=os) (ss:=ss) (b:=b.put o.dst v) (by simpa using hl) (h v hp) ?_ (by rw [put_size];exact hs) (by rw [put_defers];exact hd) (fun i o' s' ho' hs'=>hg (i+1) o' s' ho' hs') (fun o' ho' t ht=>by rw [put_size];exact hlt o' (by simp [ho']) t ht)
  intro t ht
  by_cases e:o.dst=some t
  ·rw [hv t e,e,put_self (hlt o (by simp) t e)]
  ·rw [put_other e]
   refine hf t ?_
   rw [List.all_cons,ht,Bool.and_true]
   simpa using e
 | [],_ :: _,_,hl,_,_,_,_,_,_=>by simp at hl
 | _ :: _,[],_,hl,_,_,_,_,_,_=>by simp at hl
def boxSpecs {R:World→World→Prop}:List BoxSpec→List Nat→List (Spec R)→List (Spec R)
 | b :: bs,g :: gs,S=>boxSpecs bs gs (S.set b.A (Spec.eq (.pointer (some ⟨g,0,none⟩))))
 | _,_,S=>S
def boxFacts (W:World) (w:World):List BoxSpec→List Nat→Prop
 | b :: bs,g :: gs=>(W.heap.size≤g∧∃ us,Own w g b.T us∧b.X us w)∧boxFacts W w bs gs
 | _,_=>True
structure BoxInv (W:World) (bs:List BoxSpec) (L:Array Bool) (a:Act) (w:World):Prop where
 at_:∀ b∈bs,done L b.A→∃ g cs,BoxAt1 W b a w g cs∧(done L b.j→b.X cs w)
 ne:∀ (i k:Nat) (b c:BoxSpec) (g g':Nat),bs[i]? = some b→bs[k]? = some c→i≠k→done L b.A→done L c.A→a.tmps[b.t]? = some (.pointer (some ⟨g,0,none⟩))→a.tmps[c.t]? = some (.pointer (some ⟨g',0,none⟩))→g≠g'
 first:∀ b∈bs,done L b.j→done L b.A
theorem boxes_end {R:World→World→Prop} {ops:Array Oper} {S0:List (Spec R)}:∀ {bs:List BoxSpec} {S:List (Spec R)} {a:Act} {w:World},(∀ b∈bs,∃ g cs,BoxAt1 W b a w g cs∧b.X cs w)→
 (∀ b∈bs,∃ o,ops[b.A]? = some o∧o.dst=some b.t)→(∀ (i:Nat) o s,ops[i]? = some o→S[i]? = some s→∃ v,(∀ t,o.dst=some t→a.tmps[t]? = some v)∧s.p v w)→
 ∃ gs,gs.length=bs.length∧boxFacts W w bs gs∧(boxSpecs bs gs S).length=S.length∧∀ (i:Nat) o s,ops[i]? = some o→(boxSpecs bs gs S)[i]? = some s→∃ v,(∀ t,o.dst=some t→a.tmps[t]? = some v)∧s.p v w
 | [],S,a,w,_,_,h=>⟨[],rfl,trivial,rfl,h⟩
 | b :: bs,S,a,w,hb,ho,h=>by
  obtain ⟨g,cs,⟨h1,h2,h3,h4⟩,hX⟩:=hb b (by simp)
  obtain ⟨oA,hoA,hdA⟩:=ho b (by simp)
  obtain ⟨gs,k1,k2,k3,k4⟩:=boxes_end (ops:=ops) (S0:=S0) (bs:=bs) (S:=S.set b.A (Spec.eq (.pointer (some ⟨g,0,none⟩)))) (a:=a) (w:=w) (fun c hc=>hb c (by simp [hc])) (fun c hc=>ho c (by simp [hc])) (fun i o s hoi hsi=>by
   by_cases e:b.A=i
   ·subst e
    rw [List.getElem?_set_self'] at hsi
    obtain ⟨s',hs',rfl⟩:=Option.map_eq_some_iff.1 hsi
    rw [hoA] at hoi
    injection hoi with hoi
    subst hoi
    exact ⟨_,fun t ht=>by rw [hdA] at ht;injection ht with ht;rw [← ht];exact h1,rfl⟩
   ·rw [List.getElem?_set_ne e] at hsi
    exact h i o s hoi hsi)
  exact ⟨g :: gs,by simp [k1],⟨⟨h2,cs,h3,hX⟩,k2⟩,by rw [boxSpecs,k3,List.length_set],k4⟩
def skips (bs:List BoxSpec) (i:Nat):Bool:=bs.any fun b=>b.A==i||b.j==i
def AnyAt {R:World→World→Prop} (S:List (Spec R)):List BoxSpec→Prop
 | []=>True
 | b :: bs=>S[b.A]? = some Spec.any∧S[b.j]? = some Spec.any∧AnyAt S bs
theorem AnyAt.out:∀ {bs:List BoxSpec},AnyAt S bs→∀ b∈bs,(∀ s,S[b.A]? = some s→∀ v w,s.p v w)∧∀ s,S[b.j]? = some s→∀ v w,s.p v w
 | c :: bs,h,b,hb=>by
  rcases List.mem_cons.1 hb with rfl | hb
  ·refine ⟨fun s hs v w=>?_,fun s hs v w=>?_⟩
   ·rw [h.1] at hs
    injection hs with hs
    subst hs
    trivial
   ·rw [h.2.1] at hs
    injection hs with hs
    subst hs
    trivial
  ·exact AnyAt.out h.2.2 b hb
 | [],_,_,hb=>by cases hb
theorem wp_region_boxesR [StepRel R] {id:Nat} (W:World) (S:List (Spec R)) (bs:List BoxSpec) (hbk:bs=[]∨∀ {w w':World},Keeps w w'→R w w') (hm:P.follows .mixedOrders=true) (hB:slotsB a0.tmps.size ops=true) (hl:ops.toList.length=S.length)
 (ho:((List.range ops.size).all fun k=>((ops[k]?).map fun o=>o.after.toList.all fun e=>!Region.binds .any e||decide (e.on<k)).getD true)=true) (hbb:boxesB bs=true)
 (hC:Below W.heap.size W w.drew) (hs:RegSteps ops.toList P ops Q W S bs a0 (skips bs) 0 ops.toList S) (hb:BoxesOK P ops Q W S a0 bs)
 (hany':AnyAt S bs)
 (he:∀ w' gs,Below W.heap.size W w'→gs.length=bs.length→boxFacts W w' bs gs→FinOK Q ops.toList (boxSpecs bs gs S) a0 w'):(Code.region id ops true).wp P Q a0 w:=by
 have hany:=hany'.out
 refine region_inv hm (fun L a w=>L.size=ops.size∧Below W.heap.size W w∧a.defers=a0.defers∧a.tmps.size=a0.tmps.size∧FrameOK ops.toList a0 a∧(∀ k,done L k→Got S ops a w k)∧BoxInv W bs L a w) ?_ ?_ ?_
 ·exact ⟨by simp,hC,rfl,rfl,fun _ _=>rfl,fun k hd=>absurd hd (done_none _ _),fun b _ hd=>absurd hd (done_none _ _),fun i k b c g g' _ _ _ hd=>absurd hd (done_none _ _),fun b _ hd=>absurd hd (done_none _ _)⟩
 ·rintro L a w i ⟨h1,h2,h3,h4,h5,h6,h7⟩ hi
  obtain ⟨hlt,hnd,hdep⟩:=ready_spec hi
  have hoi:ops[i]? = some ops[i]:=Array.getElem?_eq_getElem hlt
  obtain ⟨s,hsi,hst⟩:=hs.at_ (i:=i) (o:=ops[i]) (by rw [Array.getElem?_toList];exact hoi)
  rw [Nat.zero_add] at hst
  have hdeps:DepsGot S ops a w ops[i].after.toList:=DepsGot.mk _ fun e he hb=>h6 _ (hdep _ hoi e (by simpa using he) hb)
  have hw:∀ k,waits ops[i] k=true→done L k:=by
   intro k hk
   unfold waits at hk
   rw [List.any_eq_true] at hk
   obtain ⟨e,he,hk⟩:=hk
   rw [Bool.and_eq_true] at hk
   have hek:e.on=k:=by simpa using hk.1
   rw [← hek]
   exact hdep _ hoi e (by simpa using he) hk.2
  have hF:∀ v:Value,FrameOK ops.toList a0 (a.put ops[i].dst v):=by
   intro v t ht
   rw [put_other,h5 t ht]
   have:=List.all_eq_true.1 ht ops[i] (by simp)
   simpa using this
  have hG:∀ (v:Value) (w':World),R w w'→s.p v w'→∀ k,done (L.setIfInBounds i true) k→Got S ops (a.put ops[i].dst v) w' k:=by
   intro v w' hk hp k hd
   by_cases e:k=i
   ·subst e
    exact ⟨v,_,_,hoi,hsi,fun t ht=>by rw [ht,put_self (by rw [h4];exact slots_lt hB hoi ht)],hp⟩
   ·obtain ⟨v',o',s',ho',hs',ht',hp'⟩:=h6 k (done_set hd (fun x=>e x.symm))
    refine ⟨v',o',s',ho',hs',fun t ht=>?_,s'.up hp' hk⟩
    rw [put_other (fun x=>e (slots_ne hB ho' hoi ht x)),ht' t ht]
  have hT:∀ b∈bs,b.A≠i→∀ v:Value,(a.put ops[i].dst v).tmps[b.t]? = a.tmps[b.t]?:=by
   intro b hbm hne v
   obtain ⟨oA,hoA,hdA,_⟩:=(hb.at_ hbm).oA
   exact put_other (fun x=>hne (slots_ne hB hoA hoi hdA x))
  by_cases hsk:skips bs i=false
  ·refine wpOp_step hoi fun K hK=>hst hsk a w h2 h5 hdeps (fun b hbm hwb=>?_) K fun v w' hC' hbl hp=>hK _ _ ⟨by simp [h1],hC',by rw [put_defers];exact h3,by rw [put_size];exact h4,hF v,hG v w' (StepRel.below hbl) hp,?_⟩
   ·obtain ⟨g,cs,h8,h9⟩:=h7.at_ b hbm (h7.first b hbm (hw _ hwb))
    exact ⟨g,cs,h8,h9 (hw _ hwb)⟩
   ·have hne:∀ b∈bs,b.A≠i∧b.j≠i:=by
     intro b hbm
     unfold skips at hsk
     rw [List.any_eq_false] at hsk
     simpa using hsk b hbm
    refine ⟨fun b hbm hd=>?_,fun k l b c g g' hk hl hkl hdb hdc hgb hgc=>?_,fun b hbm hd=>done_up (h7.first b hbm (done_set hd (Ne.symm (hne b hbm).2)))⟩
    ·obtain ⟨g,cs,⟨e1,e2,e3,e4,e5⟩,e6⟩:=h7.at_ b hbm (done_set hd (Ne.symm (hne b hbm).1))
     exact ⟨g,cs,⟨by rw [hT b hbm (hne b hbm).1];exact e1,e2,e3.on hbl,e4,e5⟩,fun hdj=>b.up (e6 (done_set hdj (Ne.symm (hne b hbm).2))) (Below.keeps hbl)⟩
    ·have hbm:=List.mem_of_getElem? hk
     have hcm:=List.mem_of_getElem? hl
     rw [hT b hbm (hne b hbm).1] at hgb
     rw [hT c hcm (hne c hcm).1] at hgc
     exact h7.ne k l b c g g' hk hl hkl (done_set hdb (Ne.symm (hne b hbm).1)) (done_set hdc (Ne.symm (hne c hcm).1)) hgb hgc
  ·have hsk':skips bs i=true:=by simpa using hsk
   unfold skips at hsk'
   rw [List.any_eq_true] at hsk'
   obtain ⟨b,hbm,hbi⟩:=hsk'
   obtain ⟨n,hn⟩:=List.mem_iff_getElem?.1 hbm
   have hbo:=hb.at_ hbm
   rw [Bool.or_eq_true] at hbi
   rcases hbi with hbi | hbi
   ·have hbi:b.A=i:=by simpa using hbi
    obtain ⟨oA,hoA,hdA,hgA,hA⟩:=hbo.oA
    rw [hbi,hoi] at hoA
    injection hoA with hoA
    rw [← hoA] at hdA hgA hA
    have hnj:b.j≠i:=fun e=>hbo.ne (hbi.trans e.symm)
    have hoth:∀ k c,bs[k]? = some c→k≠n→c.A≠i∧c.j≠i:=fun k c hk hkn=>by
     have:=boxesB_spec hbb hn hk (Ne.symm hkn)
     exact ⟨hbi▸this.1,hbi▸this.2.1⟩
    have hbn:Below w.heap.size w (w.alloc (.cells b.zs.toArray b.T)):=(Below.refl _ _).alloc (Nat.le_refl _) _
    refine wpOp_step hoi fun K hK=>?_
    rw [if_pos (by simp [Region.wanted,hgA])]
    refine hA a w K ?_
    rw [← hdA]
    refine hK _ _ ⟨by simp [h1],Below.alloc h2 h2.size _,by rw [put_defers];exact h3,by rw [put_size];exact h4,hF _,hG _ _ (StepRel.below hbn) ((hany b hbm).1 s (by rw [hbi];exact hsi) _ _),?_⟩
    have hself:(a.put ops[i].dst (.pointer (some ⟨w.heap.size,0,none⟩))).tmps[b.t]? = some (.pointer (some ⟨w.heap.size,0,none⟩)):=by
     rw [hdA,put_self (by rw [h4];exact slots_lt hB hoi hdA)]
    refine ⟨fun c hcm hd=>?_,fun k l c d g g' hk hl hkl hdc hdd hgc hgd=>?_,fun c hcm hd=>?_⟩
    ·obtain ⟨m,hm'⟩:=List.mem_iff_getElem?.1 hcm
     by_cases e:m=n
     ·subst e
      rw [hn] at hm'
      injection hm' with hm'
      subst hm'
      exact ⟨_,b.zs,⟨hself,h2.size,Own.new w b.T b.zs,rfl,hbo.zero⟩,fun hdj=>absurd (hbi▸h7.first b hbm (done_set hdj (Ne.symm hnj))) hnd⟩
     ·obtain ⟨o1,o2⟩:=hoth m c hm' e
      obtain ⟨g,cs,⟨e1,e2,e3,e4,e5⟩,e6⟩:=h7.at_ c hcm (done_set hd (Ne.symm o1))
      exact ⟨g,cs,⟨by rw [hT c hcm o1];exact e1,e2,e3.on hbn,e4,e5⟩,fun hdj=>c.up (e6 (done_set hdj (Ne.symm o2))) (Below.keeps hbn)⟩
    ·have hlt':∀ m d gd,bs[m]? = some d→m≠n→done (L.setIfInBounds i true) d.A→(a.put ops[i].dst (.pointer (some ⟨w.heap.size,0,none⟩))).tmps[d.t]? = some (.pointer (some ⟨gd,0,none⟩))→gd<w.heap.size:=by
      intro m d gd hmd hmn hdd' hgd'
      obtain ⟨o1,o2⟩:=hoth m d hmd hmn
      have hdm:=List.mem_of_getElem? hmd
      rw [hT d hdm o1] at hgd'
      obtain ⟨g2,cs,⟨e1,_,e3,_⟩,_⟩:=h7.at_ d hdm (done_set hdd' (Ne.symm o1))
      rw [hgd'] at e1
      injection e1 with e1
      injection e1 with e1
      injection e1 with e1
      injection e1 with e1
      rw [e1]
      exact e3.lt
     have hptr:∀ m d gd,bs[m]? = some d→m=n→(a.put ops[i].dst (.pointer (some ⟨w.heap.size,0,none⟩))).tmps[d.t]? = some (.pointer (some ⟨gd,0,none⟩))→gd=w.heap.size:=by
      intro m d gd hmd hmn hgd'
      subst hmn
      rw [hn] at hmd
      injection hmd with hmd
      subst hmd
      rw [hself] at hgd'
      injection hgd' with e1
      injection e1 with e1
      injection e1 with e1
      injection e1 with e1
      exact e1.symm
     by_cases ek:k=n
     ·have:=hptr k c g hk ek hgc
      have:=hlt' l d g' hl (fun e=>hkl (ek.trans e.symm)) hdd hgd
      omega
     ·by_cases el:l=n
      ·have:=hptr l d g' hl el hgd
       have:=hlt' k c g hk ek hdc hgc
       omega
      ·have hcm:=List.mem_of_getElem? hk
       have hdm:=List.mem_of_getElem? hl
       rw [hT c hcm (hoth k c hk ek).1] at hgc
       rw [hT d hdm (hoth l d hl el).1] at hgd
       exact h7.ne k l c d g g' hk hl hkl (done_set hdc (Ne.symm (hoth k c hk ek).1)) (done_set hdd (Ne.symm (hoth l d hl el).1)) hgc hgd
    ·obtain ⟨m,hm'⟩:=List.mem_iff_getElem?.1 hcm
     by_cases e:m=n
     ·subst e
      rw [hn] at hm'
      injection hm' with hm'
      subst hm'
      exact done_up (h7.first b hbm (done_set hd (Ne.symm hnj)))
     ·exact done_up (h7.first c hcm (done_set hd (Ne.symm (hoth m c hm' e).2)))
   ·have hbi:b.j=i:=by simpa using hbi
    obtain ⟨oj,hoj,hdj,hwj,hj⟩:=hbo.oj
    rw [hbi,hoi] at hoj
    injection hoj with hoj
    rw [← hoj] at hdj hwj hj
    have hnA:b.A≠i:=fun e=>hbo.ne (e.trans hbi.symm)
    have hoth:∀ k c,bs[k]? = some c→k≠n→c.A≠i∧c.j≠i:=fun k c hk hkn=>by
     have:=boxesB_spec hbb hn hk (Ne.symm hkn)
     exact ⟨hbi▸this.2.2.1,hbi▸this.2.2.2.1⟩
    have hAll:∀ c∈bs,c.A≠i:=fun c hcm=>by
     obtain ⟨m,hm'⟩:=List.mem_iff_getElem?.1 hcm
     by_cases e:m=n
     ·subst e
      rw [hn] at hm'
      injection hm' with hm'
      subst hm'
      exact hnA
     ·exact (hoth m c hm' e).1
    obtain ⟨g,cs,hat,_⟩:=h7.at_ b hbm (hw _ hwj)
    obtain ⟨e1,e2,e3,e4,e5⟩:=hat
    refine wpOp_step hoi fun K hK=>hj a w g cs h2 h5 hdeps ⟨e1,e2,e3,e4,e5⟩ K fun us hul hun hX=>?_
    have hkp:Keeps w (setAll w g 0 us):=setAll_keeps e3 e5 hun
    have hown:Own (setAll w g 0 us) g b.T us:=by
     have:=setAll_own (us:=us) (i:=0) e3 (by omega)
     simpa using this
    have hput:a.put none undef=a.put ops[i].dst undef:=by rw [hdj]
    rw [hput]
    refine hK _ _ ⟨by simp [h1],setAll_below e2 h2,by rw [put_defers];exact h3,by rw [put_size];exact h4,hF _,hG _ _ (hbk.elim (fun e=>by subst e;cases hbm) (fun f=>f hkp)) ((hany b hbm).2 s (by rw [hbi];exact hsi) _ _),?_⟩
    refine ⟨fun c hcm hd=>?_,fun k l c d g1 g2 hk hl hkl hdc hdd hgc hgd=>?_,fun c hcm hd=>?_⟩
    ·obtain ⟨m,hm'⟩:=List.mem_iff_getElem?.1 hcm
     by_cases e:m=n
     ·subst e
      rw [hn] at hm'
      injection hm' with hm'
      subst hm'
      exact ⟨g,us,⟨by rw [hT b hbm hnA];exact e1,e2,hown,hul,hun⟩,fun _=>b.up hX hkp⟩
     ·obtain ⟨o1,o2⟩:=hoth m c hm' e
      have hdc:=done_set hd (Ne.symm o1)
      obtain ⟨g2,cs2,⟨f1,f2,f3,f4,f5⟩,f6⟩:=h7.at_ c hcm hdc
      have hne:g2≠g:=h7.ne m n c b g2 g hm' hn e hdc (hw _ hwj) f1 e1
      exact ⟨g2,cs2,⟨by rw [hT c hcm o1];exact f1,f2,setAll_far hne f3,f4,f5⟩,fun hdj'=>c.up (f6 (done_set hdj' (Ne.symm o2))) hkp⟩
    ·have hcm:=List.mem_of_getElem? hk
     have hdm:=List.mem_of_getElem? hl
     rw [hT c hcm (hAll c hcm)] at hgc
     rw [hT d hdm (hAll d hdm)] at hgd
     exact h7.ne k l c d g1 g2 hk hl hkl (done_set hdc (Ne.symm (hAll c hcm))) (done_set hdd (Ne.symm (hAll d hdm))) hgc hgd
    ·obtain ⟨m,hm'⟩:=List.mem_iff_getElem?.1 hcm
     by_cases e:m=n
     ·subst e
      rw [hn] at hm'
      injection hm' with hm'
      subst hm'
      exact done_up (hw _ hwj)
     ·exact done_up (h7.first c hcm (done_set hd (Ne.symm (hoth m c hm' e).2)))
 ·rintro L a w ⟨h1,h2,h3,h4,h5,h6,h7⟩ hr
  have hd:=all_done hr h1 ho
  have hlt:∀ (i:Nat) o,ops[i]? = some o→i<ops.size:=by
   intro i o hoi
   rcases Nat.lt_or_ge i ops.size with h | h
   ·exact h
   ·rw [Array.getElem?_eq_none h] at hoi;cases hoi
  obtain ⟨gs,k1,k2,k3,k4⟩:=boxes_end (W:=W) (ops:=ops) (S0:=S) (bs:=bs) (S:=S) (a:=a) (w:=w) (fun b hbm=>by
   obtain ⟨oA,hoA,_⟩:=(hb.at_ hbm).oA
   obtain ⟨oj,hoj,_⟩:=(hb.at_ hbm).oj
   obtain ⟨g,cs,e1,e2⟩:=h7.at_ b hbm (hd _ (hlt _ _ hoA))
   exact ⟨g,cs,e1,e2 (hd _ (hlt _ _ hoj))⟩) (fun b hbm=>by
   obtain ⟨oA,hoA,hdA,_⟩:=(hb.at_ hbm).oA
   exact ⟨oA,hoA,hdA⟩) (fun i o s hoi hsi=>by
   obtain ⟨v,o',s',ho',hs',ht',hp'⟩:=h6 i (hd i (hlt _ _ hoi))
   rw [hoi] at ho'
   rw [hsi] at hs'
   injection ho' with ho'
   injection hs' with hs'
   subst ho' hs'
   exact ⟨v,ht',hp'⟩)
  refine FinOK.out (by rw [hl,k3]) (he w gs h2 k1 k2) h5 h4 h3 (fun i o s hoi hsi=>k4 i o s (by rw [← Array.getElem?_toList];exact hoi) hsi) (fun o ho t ht=>?_)
  obtain ⟨i,hi⟩:=List.mem_iff_getElem?.1 ho
  exact slots_lt hB (by rw [← Array.getElem?_toList];exact hi) ht
theorem wp_region_specs {id:Nat} (W:World) (S:List (Spec Bel)) (hm:P.follows .mixedOrders=true) (hB:slotsB a0.tmps.size ops=true) (hl:ops.toList.length=S.length)
 (ho:((List.range ops.size).all fun k=>((ops[k]?).map fun o=>o.after.toList.all fun e=>!Region.binds .any e||decide (e.on<k)).getD true)=true)
 (hC:Below W.heap.size W w.drew) (hs:RegSteps ops.toList P ops Q W S [] a0 (skips []) 0 ops.toList S) (he:∀ w',Below W.heap.size W w'→FinOK Q ops.toList S a0 w'):(Code.region id ops true).wp P Q a0 w:=
 wp_region_boxesR W S [] (.inl rfl) hm hB hl ho rfl hC hs trivial trivial (fun w' gs hC' hg _=>by
  cases gs with
  | nil=>exact he w' hC'
  | cons _ _=>cases hg)
def TailOK (P:Program) (ops:Array Oper) (Q:Exit→Act→World→Prop):List Oper→Act→World→Prop
 | [],a,w=>Q .normal a w
 | o :: os,a,w=>∀ K:Act→World→Prop,(∀ a' w',TailOK P ops Q os a' w'→K a' w')→if Region.wanted o (yielded ops a.tmps)=true then Oper.wp P o a w K Q else K (a.put o.dst undef) w
def suffixB (ops:Array Oper) (n:Nat):Bool:=
 decide (n<ops.size)&&((List.range n).all fun k=>(List.range (n+1)).any fun m=>decide (k<m)&&((ops[m]?).map fun o=>waits o k).getD false) &&
 (List.range ops.size).all fun i=>decide (i≤n)||((ops[i]?).map fun o=>waits o (i - 1)).getD false
theorem suffix_chain {n:Nat} (h:suffixB ops n=true):n<ops.size∧(∀ k,k<n→∃ m,k<m∧m≤n∧∃ o,ops[m]? = some o∧waits o k=true)∧∀ i o,n<i→ops[i]? = some o→waits o (i - 1)=true:=by
 unfold suffixB at h
 rw [Bool.and_eq_true,Bool.and_eq_true] at h
 obtain ⟨⟨h1,h2⟩,h3⟩:=h
 have hsz:n<ops.size:=by simpa using h1
 refine ⟨hsz,fun k hk=>?_,fun i o hi ho=>?_⟩
 ·obtain ⟨m,hm,h4⟩:=List.any_eq_true.1 (List.all_eq_true.1 h2 k (List.mem_range.2 hk))
  rw [Bool.and_eq_true] at h4
  have hm':=List.mem_range.1 hm
  have hom:ops[m]? = some ops[m]:=Array.getElem?_eq_getElem (by omega)
  refine ⟨m,by simpa using h4.1,by omega,ops[m],hom,?_⟩
  have:=h4.2
  rw [hom] at this
  simpa using this
 ·have hlt:i<ops.size:=by
   rcases Nat.lt_or_ge i ops.size with h | h
   ·exact h
   ·rw [Array.getElem?_eq_none h] at ho;cases ho
  have h4:=List.all_eq_true.1 h3 i (List.mem_range.2 hlt)
  rw [Bool.or_eq_true] at h4
  rcases h4 with h4 | h4
  ·have:i≤n:=by simpa using h4
   omega
  ·rw [ho] at h4
   simpa using h4
theorem want_none {o:Oper} {A B:Prop} {ys:Nat→Option Bool} (hg:o.guard=none) (h:A):if Region.wanted o ys=true then A else B:=by
 rw [if_pos (by simp [Region.wanted,hg])]
 exact h
theorem want_yes {o og:Oper} {A B:Prop} {g:Nat} {b:Bool} {t:Tmp} (hg:o.guard=some (g,b)) (ho:ops[g]? = some og) (ht:og.dst=some t) (hv:a.tmps[t]? = some (.bool b)) (h:A):if Region.wanted o (yielded ops a.tmps)=true then A else B:=by
 have e:yielded ops a.tmps g=some b:=by simp [yielded,ho,ht,hv]
 rw [if_pos (by simp [Region.wanted,hg,e])]
 exact h
end
theorem dep {R:World→World→Prop} {ops:Array Oper} {S:List (Spec R)} {a:Act} {w:World} {l:List Edge} (hd:DepsGot S ops a w l) (g:Nat) {o:Oper} {s:Spec R} {t:Tmp} (hin:(l.any fun e=>e.on==g&&Region.binds .any e)=true) (ho:ops[g]? = some o) (hs:S[g]? = some s) (ht:o.dst=some t):∃ v,a.tmps[t]? = some v∧s.p v w:=by
 refine dep_get ?_ ho hs ht
 induction l with
 | nil=>cases hin
 | cons e l ih=>
  rw [List.any_cons,Bool.or_eq_true] at hin
  rcases hin with h | h
  ·rw [Bool.and_eq_true] at h
   have he:e.on=g:=by simpa using h.1
   rw [← he]
   exact hd.1 h.2
  ·exact ih hd.2 h
section
variable {P:Program} {c:Code} {Q:Exit→Act→World→Prop} {a:Act} {w:World} {xs ys zs:List Value} {T U V:TypeId}
theorem wp_new1 (h:∀ W,Own W w.heap.size T xs→Below w.heap.size w W→c.wp P Q a W):c.wp P Q a (w.alloc (.cells xs.toArray T)):=
 h _ (Own.new w T xs) (below_new w _)
theorem wp_new2 (h:∀ W,Own W w.heap.size T xs→Own W (w.heap.size+1) U ys→Below w.heap.size w W→c.wp P Q a W):c.wp P Q a ((w.alloc (.cells xs.toArray T)).alloc (.cells ys.toArray U)):=by
 have h2:=Own.new (w.alloc (.cells xs.toArray T)) U ys
 rw [show (w.alloc (.cells xs.toArray T)).heap.size=w.heap.size+1 by simp] at h2
 exact h _ ((Own.new w T xs).alloc _) h2 (by go_grown)
end
section
variable {W:World} {g:Nat} {t:TypeId} {a b c d e f x y:Value} {l:List Value}
theorem Own.r0 (h:Own W g t (x :: l)):∀ w,Below W.heap.size W w→w.cell? ⟨g,0,none⟩=some x:=fun _ k=>(h.on k).cell 0
theorem Own.r1 (h:Own W g t (a :: x :: l)):∀ w,Below W.heap.size W w→w.cell? ⟨g,1,none⟩=some x:=fun _ k=>(h.on k).cell 1
theorem Own.r2 (h:Own W g t (a :: b :: x :: l)):∀ w,Below W.heap.size W w→w.cell? ⟨g,2,none⟩=some x:=fun _ k=>(h.on k).cell 2
theorem Own.r3 (h:Own W g t (a :: b :: c :: x :: l)):∀ w,Below W.heap.size W w→w.cell? ⟨g,3,none⟩=some x:=fun _ k=>(h.on k).cell 3
theorem Own.r4 (h:Own W g t (a :: b :: c :: d :: x :: l)):∀ w,Below W.heap.size W w→w.cell? ⟨g,4,none⟩=some x:=fun _ k=>(h.on k).cell 4
end
theorem Own.all2 {w:World} {g:Nat} {t:TypeId} {a0 a1:Value} (h:Own w g t [a0,a1]):w.cell? ⟨g,0,none⟩=some a0∧w.cell? ⟨g,1,none⟩=some a1∧w.frozen? ⟨g,0,none⟩=false∧w.frozen? ⟨g,1,none⟩=false:=
 ⟨h.cell 0,h.cell 1,h.frozen 0,h.frozen 1⟩
section
variable {α:Type} {l:List α}
end
end Go.Proofs.YtmlpibdincfgbaaDoor
