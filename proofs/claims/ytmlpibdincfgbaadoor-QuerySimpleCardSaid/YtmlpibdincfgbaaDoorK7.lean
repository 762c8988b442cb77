/-
  The law of regions that draw, with an invariant J of the worlds and a relation R between two of them, both one's own.
-/
import Derived.Test.YtmlpibdincfgbaaDoorReg
import Derived.Test.YtmlpibdincfgbaaDoorK3
import Derived.Test.YtmlpibdincfgbaaDoorShelf
namespace Go.Proofs.YtmlpibdincfgbaaDoor
open Go.RowKit
section
variable {P:Program} {ops:Array Oper} {Q:Exit→Act→World→Prop} {a0 a:Act} {w:World} {J:World→Prop} {R:World→World→Prop} {S:List (Spec R)} {fr:List Oper}
def StepOKJ {R:World→World→Prop} (fr:List Oper) (P:Program) (ops:Array Oper) (Q:Exit→Act→World→Prop) (J:World→Prop) (S:List (Spec R)) (a0:Act) (o:Oper) (s:Spec R):Prop:=
 ∀ a w,J w→FrameOK fr a0 a→DepsGot S ops a w o.after.toList→∀ K:Act→World→Prop,
  (∀ v w',J w'→R w w'→s.p v w'→K (a.put o.dst v) w')→
  if Region.wanted o (yielded ops a.tmps)=true then Oper.wp P o a w K Q else K (a.put o.dst undef) w
def RegStepsJ {R:World→World→Prop} (fr:List Oper) (P:Program) (ops:Array Oper) (Q:Exit→Act→World→Prop) (J:World→Prop) (S:List (Spec R)) (a0:Act):Nat→List Oper→List (Spec R)→Prop
 | _,[],_=>True
 | _,_ :: _,[]=>False
 | i,o :: os,s :: ss=>StepOKJ fr P ops Q J S a0 o s∧RegStepsJ fr P ops Q J S a0 (i+1) os ss
theorem RegStepsJ.cons {i:Nat} {o:Oper} {os:List Oper} {s:Spec R} {ss:List (Spec R)} (h:StepOKJ fr P ops Q J S a0 o s) (k:RegStepsJ fr P ops Q J S a0 (i+1) os ss):RegStepsJ fr P ops Q J S a0 i (o :: os) (s :: ss):=⟨h,k⟩
theorem RegStepsJ.nil {i:Nat} {ss:List (Spec R)}:RegStepsJ fr P ops Q J S a0 i [] ss:=trivial
theorem RegStepsJ.at_:∀ {os:List Oper} {ss:List (Spec R)} {n i:Nat} {o:Oper},RegStepsJ fr P ops Q J S a0 n os ss→os[i]? = some o→∃ s,ss[i]? = some s∧StepOKJ fr P ops Q J S a0 o s
 | [],_,_,i,o,_,h=>by cases h
 | _ :: _,[],_,_,_,h,_=>h.elim
 | o :: os,s :: ss,n,0,o',h,h'=>by
  injection h' with h'
  subst h'
  exact ⟨s,rfl,h.1⟩
 | o :: os,s :: ss,n,i+1,o',h,h'=>by
  obtain ⟨s',h1,h2⟩:=RegStepsJ.at_ (i:=i) h.2 h'
  exact ⟨s',h1,h2⟩
theorem wp_region_suffixJ {id:Nat} (J:World→Prop) (n:Nat) (S:List (Spec R)) (hm:P.follows .mixedOrders=true) (hB:slotsB a0.tmps.size ops=true) (hl:(ops.toList.take n).length=S.length)
 (ho:((List.range ops.size).all fun k=>((ops[k]?).map fun o=>o.after.toList.all fun e=>!Region.binds .any e||decide (e.on<k)).getD true)=true) (hch:suffixB ops n=true)
 (hC:J w.drew) (hs:RegStepsJ (ops.toList.take n) P ops Q J S a0 0 (ops.toList.take n) S)
 (he:∀ w',J w'→FinOK (fun _ a w=>TailOK P ops Q (ops.toList.drop n) a w) (ops.toList.take n) S a0 w'):(Code.region id ops true).wp P Q a0 w:=by
 obtain ⟨hn,hc1,hc2⟩:=suffix_chain hch
 have hat:∀ i,i<n→(ops.toList.take n)[i]? = ops[i]?:=fun i hi=>by
  rw [List.getElem?_take_of_lt hi,Array.getElem?_toList]
 refine region_inv hm (fun L a w=>L.size=ops.size∧(∀ k o,ops[k]? = some o→done L k→∀ m,waits o m=true→done L m)∧
  ((∃ j,n<j∧j≤ops.size∧(∀ k,k<j→done L k)∧(∀ k,j≤k→¬ done L k)∧TailOK P ops Q (ops.toList.drop j) a w)∨
   (¬ done L n∧J w∧a.defers=a0.defers∧a.tmps.size=a0.tmps.size∧(∀ t,((ops.toList.take n).all fun o=>o.dst != some t)=true→a.tmps[t]? = a0.tmps[t]?)∧∀ k,k<n→done L k→Got S ops a w k))) ?_ ?_ ?_
 ·exact ⟨by simp,fun k o _ hd=>absurd hd (done_none _ _),.inr ⟨done_none _ _,hC,rfl,rfl,fun _ _=>rfl,fun k _ hd=>absurd hd (done_none _ _)⟩⟩
 ·rintro L a w i ⟨h1,hcl,hJ⟩ hi
  obtain ⟨hlt,hnd,hdep⟩:=ready_spec hi
  have hoi:ops[i]? = some ops[i]:=Array.getElem?_eq_getElem hlt
  have hw:∀ k,waits ops[i] k=true→done L k:=by
   intro k hk
   unfold waits at hk
   rw [List.any_eq_true] at hk
   obtain ⟨e,he,hk⟩:=hk
   rw [Bool.and_eq_true] at hk
   have hek:e.on=k:=by simpa using hk.1
   rw [← hek]
   exact hdep _ hoi e (by simpa using he) hk.2
  have hcl':∀ k o,ops[k]? = some o→done (L.setIfInBounds i true) k→∀ m,waits o m=true→done (L.setIfInBounds i true) m:=by
   intro k o hok hd m hwm
   by_cases e:k=i
   ·subst e
    rw [hoi] at hok
    injection hok with hok
    subst hok
    exact done_up (hw m hwm)
   ·exact done_up (hcl k o hok (done_set hd (Ne.symm e)) m hwm)
  have hself:done (L.setIfInBounds i true) i:=by
   unfold done
   rw [Array.getD_eq_getD_getElem?,Array.getElem?_setIfInBounds_self,if_pos (by omega)]
   rfl
  have hback:∀ d k,k=n+d→k<ops.size→done L k→done L n:=by
   intro d
   induction d with
   | zero=>intro k hk _ hd;rw [← (by omega:k=n)];exact hd
   | succ d ih=>
    intro k hk hks hd
    have hok:ops[k]? = some ops[k]:=Array.getElem?_eq_getElem hks
    exact ih (k - 1) (by omega) (by omega) (hcl k _ hok hd _ (hc2 k _ (by omega) hok))
  rcases hJ with ⟨j,hj1,hj2,hall,hnone,ht⟩ | ⟨hnl,h2,h3,h4,h5,h6⟩
  ·have hij:i=j:=by
    rcases Nat.lt_trichotomy i j with h | h | h
    ·exact absurd (hall i h) hnd
    ·exact h
    ·exact absurd (hw _ (hc2 i _ (by omega) hoi)) (hnone (i - 1) (by omega))
   subst hij
   have hd:ops.toList.drop i=ops[i] :: ops.toList.drop (i+1):=by
    rw [List.drop_eq_getElem_cons (by simpa using hlt)]
    simp
   rw [hd] at ht
   refine wpOp_step hoi fun K hK=>ht K fun a' w' hq=>hK _ _ ⟨by simp [h1],hcl',.inl ⟨i+1,by omega,by omega,fun k hk=>?_,fun k hk hdk=>?_,hq⟩⟩
   ·by_cases e:k=i
    ·rw [e];exact hself
    ·exact done_up (hall k (by omega))
   ·exact hnone k (by omega) (done_set hdk (by omega))
  ·by_cases hil:i=n
   ·subst hil
    have hall:∀ d k,k+d+1=i→done L k:=by
     intro d
     induction d using Nat.strongRecOn with
     | ind d ih=>
      intro k hk
      obtain ⟨m,hm1,hm2,o,hom,hwm⟩:=hc1 k (by omega)
      by_cases e:m=i
      ·subst e
       rw [hoi] at hom
       injection hom with hom
       subst hom
       exact hw k hwm
      ·exact hcl m o hom (ih (i - m - 1) (by omega) m (by omega)) k hwm
    have hfin:=FinOK.out (a:=a) hl (he w h2) h5 h4 h3 (fun k o s hok hsk=>by
     have hk:k<i:=by
      rcases Nat.lt_or_ge k i with h | h
      ·exact h
      ·rw [List.getElem?_eq_none (by rw [List.length_take];omega)] at hok;cases hok
     obtain ⟨v,o',s',ho',hs',ht',hp'⟩:=h6 k hk (hall (i - k - 1) k (by omega))
     rw [← hat k hk,hok] at ho'
     rw [hsk] at hs'
     injection ho' with ho'
     injection hs' with hs'
     subst ho' hs'
     exact ⟨v,ht',hp'⟩) (fun o ho t ht=>by
     obtain ⟨k,hk⟩:=List.mem_iff_getElem?.1 ho
     have hkl:k<i:=by
      rcases Nat.lt_or_ge k i with h | h
      ·exact h
      ·rw [List.getElem?_eq_none (by rw [List.length_take];omega)] at hk;cases hk
     exact slots_lt hB (by rw [← hat k hkl];exact hk) ht)
    have hd:ops.toList.drop i=ops[i] :: ops.toList.drop (i+1):=by
     rw [List.drop_eq_getElem_cons (by simpa using hlt)]
     simp
    rw [hd] at hfin
    refine wpOp_step hoi fun K hK=>hfin K fun a' w' hq=>hK _ _ ⟨by simp [h1],hcl',.inl ⟨i+1,by omega,by omega,fun k hk=>?_,fun k hk hdk=>?_,hq⟩⟩
    ·by_cases e:k=i
     ·rw [e];exact hself
     ·exact done_up (hall (i - k - 1) k (by omega))
    ·have hdk':=done_set hdk (by omega)
     rcases Nat.lt_or_ge k ops.size with hks | hks
     ·exact hnl (hback (k - i) k (by omega) hks hdk')
     ·unfold done at hdk'
      rw [Array.getD_eq_getD_getElem?,Array.getElem?_eq_none (by omega)] at hdk'
      simp at hdk'
   ·have hik:i<n:=by
     rcases Nat.lt_or_ge i n with h | h
     ·exact h
     ·exact absurd (hback (i - 1 - n) (i - 1) (by omega) (by omega) (hw _ (hc2 i _ (by omega) hoi))) hnl
    obtain ⟨s,hsi,hst⟩:=hs.at_ (i:=i) (o:=ops[i]) (by rw [hat i hik];exact hoi)
    refine wpOp_step hoi fun K hK=>hst a w h2 h5 (DepsGot.mk _ fun e he hb=>h6 _ ?_ (hdep _ hoi e (by simpa using he) hb)) K fun v w' hC' hbl hp=>hK _ _ ⟨by simp [h1],hcl',.inr ⟨fun hd=>hnl (done_set hd hil),hC',by rw [put_defers];exact h3,by rw [put_size];exact h4,?_,?_⟩⟩
    ·have h:=List.all_eq_true.1 ho i (List.mem_range.2 hlt)
     rw [hoi] at h
     simp only [Option.map_some,Option.getD_some] at h
     have h':=List.all_eq_true.1 h e he
     rw [hb] at h'
     have:e.on<i:=by simpa using h'
     omega
    ·intro t ht
     rw [put_other,h5 t ht]
     have:=List.all_eq_true.1 ht ops[i] (List.mem_of_getElem? (by rw [hat i hik];exact hoi))
     simpa using this
    ·intro k hkl hk
     by_cases e:k=i
     ·subst e
      exact ⟨v,_,_,hoi,hsi,fun t ht=>by rw [ht,put_self (by rw [h4];exact slots_lt hB hoi ht)],hp⟩
     ·obtain ⟨v',o',s',ho',hs',ht',hp'⟩:=h6 k hkl (done_set hk (fun x=>e x.symm))
      refine ⟨v',o',s',ho',hs',fun t ht=>?_,s'.up hp' hbl⟩
      rw [put_other (fun x=>e (slots_ne hB ho' hoi ht x)),ht' t ht]
 ·rintro L a w ⟨h1,_,hJ⟩ hr
  have hd:=all_done hr h1 ho
  rcases hJ with ⟨j,hj1,hj2,hall,hnone,ht⟩ | ⟨hnl,_⟩
  ·have e:j=ops.size:=by
    rcases Nat.lt_or_ge j ops.size with h | h
    ·exact absurd (hd j h) (hnone j (Nat.le_refl _))
    ·omega
   subst e
   rw [List.drop_of_length_le (by simp)] at ht
   exact ht
  ·exact absurd (hd _ hn) hnl
end
end Go.Proofs.YtmlpibdincfgbaaDoor
/-
 (second part)
-/
namespace Go.Proofs.YtmlpibdincfgbaaDoor
open Go.RowKit
def prob (a:Nat) (e:Int):List PanicEntry:=[{ v:=.iface 76 (.agg #[.int .i64 (a:Int),.int .i64 e]),recovered:=false }]
def Ends {α:Type} (B r:Nat) (w:World) (res:Qy.Res α) (val:α→Value→World→Prop) (e:Ending) (w':World):Prop:=
 At1 r w w'∧match res with
  | .ok a l=>(∃ v,e=.returned v∧val a v w')∧RdAt B r l w'
  | .bad x er=>e=.panicked (prob x er)
def unitV (_:Unit) (v:Value) (_:World):Prop:=v=.tuple #[]
def intV (n:Int) (v:Value) (_:World):Prop:=v=.int .i64 n
set_option maxRecDepth 100000 in
theorem qFail (B r:Nat) (l:List Qy.Tok) (er:Int) (w:World) (h:RdAt B r l w):Calls Tryd.prog 76 #[.pointer (some ⟨r,0,none⟩),.int .i64 er] w fun e w'=>e=.panicked (prob (Qy.hdAt l) er)∧w'=w:=by
 obtain ⟨_,_,t,rest,A,c,rfl,hO,hT⟩:=h
 have c1:=hO.c1
 clear hO hT
 go_enter Tryd.func76,Tryd.ntmps76
 go_wp2
 exact ⟨rfl,rfl,rfl⟩
theorem At1.set_ {r:Nat} (w:World) {p:Addr} (hp:p.block=r) (u:Value):At1 r w (w.setCell p u):=by
 have h:=(Below.refl r w).setCell (p:=p) (Nat.le_of_eq hp.symm) u
 exact ⟨h.os,h.tape,h.output,h.size,fun k _ hk=>Below.heap_setCell w p u k (fun e=>hk (by rw [e,hp]))⟩
theorem At1.drew {r:Nat} {w w':World} (h:At1 r w w'):At1 r w w'.drew:=h.trans (At1.of_below (Below.drew (Below.refl _ _)))
def JN (r:Nat) (w:World) (g off n c:Nat) (wz:World):Prop:=At1 r w wz∧∃ a b,Own wz r 83 [a,b,.slice (some ⟨g,off,none⟩) (n+1) c]
def RN (r:Nat) (u:Qy.Tok) (w w':World):Prop:=(w.cell? ⟨r,0,none⟩=some (.string (bs u.text))→w'.cell? ⟨r,0,none⟩=some (.string (bs u.text)))∧(w.cell? ⟨r,1,none⟩=some (.int .i64 (u.at_:Int))→w'.cell? ⟨r,1,none⟩=some (.int .i64 (u.at_:Int)))
theorem RN.refl {r:Nat} {u:Qy.Tok} (w:World):RN r u w w:=⟨id,id⟩
def sNew (r:Nat) (u:Qy.Tok):Spec (RN r u):=⟨fun _ w=>w.cell? ⟨r,0,none⟩=some (.string (bs u.text))∧w.cell? ⟨r,1,none⟩=some (.int .i64 (u.at_:Int)),fun h k=>⟨k.1 h.1,k.2 h.2⟩⟩
set_option maxRecDepth 100000 in
set_option maxHeartbeats 1600000 in
theorem qStep (B r:Nat) (l:List Qy.Tok) (w:World) (h:RdAt B r l w):Calls Tryd.prog 31 #[.pointer (some ⟨r,0,none⟩)] w fun e w'=>e=.returned (.tuple #[])∧RdAt B r (Qy.stp l) w'∧At1 r w w':=by
 obtain ⟨hb1,hb2,t,rest,A,c,rfl,hO,hT⟩:=h
 have HB1:=Lib.hid hb1
 have HB2:=Lib.hid hb2
 clear hb1 hb2
 match rest,hT,hO with
 | [],hT,hO=>
  have HR:=Lib.hid (show RdAt B r (Qy.stp [t]) w from ⟨HB1.out,HB2.out,t,[],A,c,rfl,hO,hT⟩)
  have c2:=hO.c2
  simp only [List.length_nil] at c2
  clear hO hT
  go_enter Tryd.func31,Tryd.ntmps31
  go_wp2
  exact bodyPost_end (results_none Tryd.results31 _ _ _) rfl ⟨rfl,HR.out,At1.refl _ _⟩
 | u :: rest,hT,hO=>
  obtain ⟨g,off,rfl,hg,hgB,hgl,hc,hcell⟩:∃ g off,A=some ⟨g,off,none⟩∧g≠r∧g<B∧g<w.heap.size∧rest.length+1≤c∧∀ j t,(u :: rest)[j]? = some t→w.cell? ⟨g,off+j * 2,none⟩=some (.string (bs t.text))∧w.cell? ⟨g,off+j * 2+1,none⟩=some (.int .i64 (t.at_:Int)):=by
   rcases hT with h | h
   ·cases h
   ·exact h
  have x0:w.cell? ⟨g,off,none⟩=some (.string (bs u.text)):=(hcell 0 u rfl).1
  have x1:w.cell? ⟨g,off+1,none⟩=some (.int .i64 (u.at_:Int)):=(hcell 0 u rfl).2
  have c0:=hO.c0
  have c1:=hO.c1
  have c2:=hO.c2
  have f0:=hO.frozen 0
  have f1:=hO.frozen 1
  have f2:=hO.frozen 2
  obtain ⟨n,hn⟩:∃ n,rest.length=n:=⟨_,rfl⟩
  simp only [List.length_cons] at c2
  rw [hn] at hc c2
  have n1:(0:Int)<(n:Int)+1:=by omega
  have n3:(1:Int)≤(n:Int)+1:=by omega
  have n2:(n:Int)+1≤(c:Int):=by omega
  have HGB:=Lib.hid hgB
  have HS:Hid (∀ (A':Option Addr) (W:World),Own W r 83 [.string (bs u.text),.int .i64 (u.at_:Int),.slice A' n (c - 1)]→At1 r w W→(n=0∨A'=some ⟨g,off+2,none⟩)→RdAt B r (Qy.stp (t :: u :: rest)) W∧At1 r w W):=Lib.hid fun A' W hOW k hA=>by
   refine ⟨⟨HB1.out,Nat.le_trans HB2.out k.size,u,rest,A',c - 1,rfl,by rw [hn];exact hOW,?_⟩,k⟩
   rcases hA with h0 | rfl
   ·exact .inl (List.eq_nil_of_length_eq_zero (hn.trans h0))
   ·refine .inr ⟨g,off+2,rfl,hg,HGB.out,Nat.lt_of_lt_of_le hgl k.size,by omega,fun j v hj=>?_⟩
    have e:∀ o,W.cell? ⟨g,o,none⟩=w.cell? ⟨g,o,none⟩:=fun o=>World.cell?_of_block (a:=⟨g,o,none⟩) (k.heap hgl hg)
    rw [e,e,show off+2+j * 2=off+(j+1) * 2 by omega]
    exact hcell (j+1) v hj
  rw [List.length_cons,hn] at hO
  have HO:=Lib.hid hO
  have m1:g≠r:=hg
  clear hgB hcell hO hT hn
  have HJ:Hid (∀ wz,JN r w g off n c wz→wz.cell? ⟨r,2,none⟩=some (.slice (some ⟨g,off,none⟩) (n+1) c)∧wz.cell? ⟨g,off,none⟩=some (.string (bs u.text))∧wz.cell? ⟨g,off+1,none⟩=some (.int .i64 (u.at_:Int))):=Lib.hid fun wz ⟨k,a,b,ho⟩=>by
   have e:∀ o,wz.cell? ⟨g,o,none⟩=w.cell? ⟨g,o,none⟩:=fun o=>World.cell?_of_block (a:=⟨g,o,none⟩) (k.heap hgl hg)
   exact ⟨ho.c2,(e _).trans x0,(e _).trans x1⟩
  have hJ0:JN r w g off n c w.drew:=⟨At1.of_below (Below.drew (Below.refl _ _)),_,_,HO.out.on (Below.drew (Below.refl _ _))⟩
  obtain ⟨A2,hA2⟩:∃ A2,(if c=1 then some ⟨g,off,none⟩ else some ⟨g,off+2,none⟩:Option Addr)=A2:=⟨_,rfl⟩
  have n2':n≤c - 1:=by omega
  have HA:Hid (n=0∨A2=some ⟨g,off+2,none⟩):=Lib.hid (by
   rw [← hA2]
   split
   ·exact .inl (by omega)
   ·exact .inr rfl)
  obtain ⟨c2_,hc2⟩:∃ x,c - 1=x:=⟨_,rfl⟩
  rw [hc2] at HS
  clear x0 x1 c0 c1 f0 f1 f2
  go_enter Tryd.func31,Tryd.ntmps31
  have c2:=HO.out.c2
  go_wp2_with fail
  clear c2
  refine wp_region_suffixJ (R:=RN r u) (JN r w g off n c) 18 [Spec.eq (.pointer (some ⟨r,0,none⟩)),Spec.eq (.pointer (some ⟨r,0,none⟩)),Spec.eq (.pointer (some ⟨r,0,none⟩)),Spec.eq (.pointer (some ⟨r,0,none⟩)),Spec.eq (.pointer (some ⟨r,2,none⟩)),Spec.eq (.slice (some ⟨g,off,none⟩) (n+1) c),Spec.eq (.pointer (some ⟨g,off,none⟩)),Spec.eq (.agg #[.string (bs u.text),.int .i64 (u.at_:Int)]),Spec.eq (.pointer (some ⟨r,0,none⟩)),Spec.eq (.pointer (some ⟨r,0,none⟩)),Spec.eq (.pointer (some ⟨r,2,none⟩)),Spec.eq (.slice (some ⟨g,off,none⟩) (n+1) c),Spec.eq (.slice A2 n c2_),Spec.eq (.pointer (some ⟨r,0,none⟩)),Spec.eq (.pointer (some ⟨r,0,none⟩)),sNew r u,Spec.eq (.pointer (some ⟨r,0,none⟩)),Spec.eq (.pointer (some ⟨r,2,none⟩))]
   (by kernel_rfl) (by kernel_rfl) rfl (by kernel_rfl) (by kernel_rfl) hJ0 ?_ ?_
  ·
   refine RegStepsJ.cons ?_ ?_
   ·intro az wz hC hF hD K hK
    have q0:az.tmps[0]? = some (.pointer (some ⟨r,0,none⟩)):=hF 0 rfl
    clear hF hD
    refine want_none rfl ?_
    go_simp
    exact hK _ _ hC (RN.refl _) rfl
   refine RegStepsJ.cons ?_ ?_
   ·intro az wz hC hF hD K hK
    have q0:az.tmps[0]? = some (.pointer (some ⟨r,0,none⟩)):=hF 0 rfl
    clear hF hD
    refine want_none rfl ?_
    go_simp
    exact hK _ _ hC (RN.refl _) rfl
   refine RegStepsJ.cons ?_ ?_
   ·intro az wz hC hF hD K hK
    have q0:az.tmps[0]? = some (.pointer (some ⟨r,0,none⟩)):=hF 0 rfl
    clear hF hD
    refine want_none rfl ?_
    go_simp
    exact hK _ _ hC (RN.refl _) rfl
   refine RegStepsJ.cons ?_ ?_
   ·intro az wz hC hF hD K hK
    obtain ⟨_,q10,rfl⟩:=dep hD 2 rfl rfl rfl rfl
    clear hF hD
    refine want_none rfl ?_
    go_simp
    exact hK _ _ hC (RN.refl _) rfl
   refine RegStepsJ.cons ?_ ?_
   ·intro az wz hC hF hD K hK
    obtain ⟨_,q11,rfl⟩:=dep hD 3 rfl rfl rfl rfl
    clear hF hD
    refine want_none rfl ?_
    go_simp
    exact hK _ _ hC (RN.refl _) rfl
   refine RegStepsJ.cons ?_ ?_
   ·intro az wz hC hF hD K hK
    obtain ⟨_,q12,rfl⟩:=dep hD 4 rfl rfl rfl rfl
    obtain ⟨j2,j3,j4⟩:=HJ.out _ hC
    clear hF hD
    refine want_none rfl ?_
    go_simp
    exact hK _ _ hC (RN.refl _) rfl
   refine RegStepsJ.cons ?_ ?_
   ·intro az wz hC hF hD K hK
    obtain ⟨_,q13,rfl⟩:=dep hD 5 rfl rfl rfl rfl
    clear hF hD
    refine want_none rfl ?_
    go_simp
    exact hK _ _ hC (RN.refl _) rfl
   refine RegStepsJ.cons ?_ ?_
   ·intro az wz hC hF hD K hK
    obtain ⟨_,q14,rfl⟩:=dep hD 6 rfl rfl rfl rfl
    obtain ⟨j2,j3,j4⟩:=HJ.out _ hC
    clear hF hD
    refine want_none rfl ?_
    go_simp
    exact hK _ _ hC (RN.refl _) rfl
   refine RegStepsJ.cons ?_ ?_
   ·intro az wz hC hF hD K hK
    have q0:az.tmps[0]? = some (.pointer (some ⟨r,0,none⟩)):=hF 0 rfl
    clear hF hD
    refine want_none rfl ?_
    go_simp
    exact hK _ _ hC (RN.refl _) rfl
   refine RegStepsJ.cons ?_ ?_
   ·intro az wz hC hF hD K hK
    obtain ⟨_,q16,rfl⟩:=dep hD 8 rfl rfl rfl rfl
    clear hF hD
    refine want_none rfl ?_
    go_simp
    exact hK _ _ hC (RN.refl _) rfl
   refine RegStepsJ.cons ?_ ?_
   ·intro az wz hC hF hD K hK
    obtain ⟨_,q17,rfl⟩:=dep hD 9 rfl rfl rfl rfl
    clear hF hD
    refine want_none rfl ?_
    go_simp
    exact hK _ _ hC (RN.refl _) rfl
   refine RegStepsJ.cons ?_ ?_
   ·intro az wz hC hF hD K hK
    obtain ⟨_,q18,rfl⟩:=dep hD 10 rfl rfl rfl rfl
    obtain ⟨j2,j3,j4⟩:=HJ.out _ hC
    clear hF hD
    refine want_none rfl ?_
    go_simp
    exact hK _ _ hC (RN.refl _) rfl
   refine RegStepsJ.cons ?_ ?_
   ·intro az wz hC hF hD K hK
    obtain ⟨_,q19,rfl⟩:=dep hD 11 rfl rfl rfl rfl
    clear hF hD
    refine want_none rfl ?_
    go_simp
    exact hK _ _ hC (RN.refl _) rfl
   refine RegStepsJ.cons ?_ ?_
   ·intro az wz hC hF hD K hK
    obtain ⟨_,q8,rfl⟩:=dep hD 0 rfl rfl rfl rfl
    clear hF hD
    refine want_none rfl ?_
    go_simp
    exact hK _ _ hC (RN.refl _) rfl
   refine RegStepsJ.cons ?_ ?_
   ·intro az wz hC hF hD K hK
    obtain ⟨_,q21,rfl⟩:=dep hD 13 rfl rfl rfl rfl
    clear hF hD
    refine want_none rfl ?_
    go_simp
    exact hK _ _ hC (RN.refl _) rfl
   refine RegStepsJ.cons ?_ ?_
   ·intro az wz hC hF hD K hK
    obtain ⟨_,q22,rfl⟩:=dep hD 14 rfl rfl rfl rfl
    obtain ⟨_,q15,rfl⟩:=dep hD 7 rfl rfl rfl rfl
    clear hF hD
    obtain ⟨kk,a,b,ho⟩:=hC
    have z0:=ho.c0
    have z1:=ho.c1
    have y0:=ho.frozen 0
    have y1:=ho.frozen 1
    refine want_none rfl ?_
    have HH:=Lib.hid ((ho.set_ 0 (.string (bs u.text))).set_ 1 (.int .i64 (u.at_:Int)))
    have HK:=Lib.hid ((kk.trans (At1.set_ wz (p:=⟨r,0,none⟩) rfl (.string (bs u.text)))).trans (At1.set_ _ (p:=⟨r,1,none⟩) rfl (.int .i64 (u.at_:Int))))
    clear ho kk
    go_simp
    exact hK undef _ ⟨HK.out,_,_,HH.out⟩ ⟨fun _=>HH.out.c0,fun _=>HH.out.c1⟩ ⟨HH.out.c0,HH.out.c1⟩
   refine RegStepsJ.cons ?_ ?_
   ·intro az wz hC hF hD K hK
    obtain ⟨_,q9,rfl⟩:=dep hD 1 rfl rfl rfl rfl
    clear hF hD
    refine want_none rfl ?_
    go_simp
    exact hK _ _ hC (RN.refl _) rfl
   refine RegStepsJ.cons ?_ ?_
   ·intro az wz hC hF hD K hK
    obtain ⟨_,q23,rfl⟩:=dep hD 16 rfl rfl rfl rfl
    clear hF hD
    refine want_none rfl ?_
    go_simp
    exact hK _ _ hC (RN.refl _) rfl
   exact RegStepsJ.nil
  intro w2 hC2
  rintro _ rfl _ rfl _ rfl _ rfl _ rfl _ rfl _ rfl _ rfl _ rfl _ rfl _ rfl _ rfl _ rfl _ rfl _ rfl _ hs15 _ rfl _ rfl
  simp only [List.take,FinOK,Act.put,List.setIfInBounds_toArray,List.set_cons_zero,List.set_cons_succ]
  simp only [List.drop,TailOK]
  obtain ⟨kk,a,b,ho⟩:=hC2
  obtain ⟨s0,s1⟩:=hs15
  rw [ho.c0] at s0
  injection s0 with s0
  subst s0
  rw [ho.c1] at s1
  injection s1 with s1
  subst s1
  have c2:=ho.c2
  have f2:=ho.frozen 2
  have HE:=Lib.hid (HS.out A2 _ (ho.set_ 2 (.slice A2 n c2_)) (kk.trans (At1.set_ _ rfl _)) HA.out)
  clear ho kk
  intro K hK
  refine want_none rfl ?_
  go_simp
  refine hK _ _ ?_
  clear hK K
  exact bodyPost_end (results_none Tryd.results31 _ _ _) rfl ⟨rfl,HE.out.1,HE.out.2⟩
end Go.Proofs.YtmlpibdincfgbaaDoor
/-
 (second part)
-/
namespace Go.Proofs.YtmlpibdincfgbaaDoor
open Go.RowKit
theorem bs_toList (t:Qy.Bs):(bs t).toList=t:=by
 unfold bs
 rw [ByteArray.toList_mk]
theorem bs_size (t:Qy.Bs):(bs t).size=t.length:=by simp [bs,ByteArray.size]
theorem RdAt.cell0 {B r:Nat} {l:List Qy.Tok} {w:World} (h:RdAt B r l w):w.cell? ⟨r,0,none⟩=some (.string (bs (Qy.hd l)))∧w.cell? ⟨r,1,none⟩=some (.int .i64 (Qy.hdAt l:Int)):=by
 obtain ⟨_,_,t,rest,A,c,rfl,hO,_⟩:=h
 exact ⟨hO.c0,hO.c1⟩
set_option maxRecDepth 100000 in
set_option maxHeartbeats 1600000 in
theorem qTake (B r:Nat) (l:List Qy.Tok) (s:Qy.Bs) (w:World) (h:RdAt B r l w):Calls Tryd.prog 75 #[.pointer (some ⟨r,0,none⟩),.string (bs s)] w fun e w'=>
 e=.returned (.bool (decide (Qy.hd l=s)))∧RdAt B r (if Qy.hd l=s then Qy.stp l else l) w'∧At1 r w w':=by
 have c0:=h.cell0.1
 obtain ⟨b,hb⟩:∃ b,decide (Qy.hd l=s)=b:=⟨_,rfl⟩
 obtain ⟨l2,hl2⟩:∃ l2,(if Qy.hd l=s then Qy.stp l else l)=l2:=⟨_,rfl⟩
 have hcmp:((bs (Qy.hd l)).toList==(bs s).toList)=b:=by
  rw [bs_toList,bs_toList,← hb]
  by_cases e:Qy.hd l=s <;> simp [e]
 rw [hb,hl2]
 have HR:=Lib.hid h
 clear h
 cases b
 ·have hne:((bs (Qy.hd l)).toList != (bs s).toList)=true:=by rw [bne,hcmp];rfl
  rw [if_neg (of_decide_eq_false hb)] at hl2
  subst hl2
  clear hb
  go_enter Tryd.func75,Tryd.ntmps75
  go_wp2
  go_returns
  exact ⟨rfl,HR.out,At1.refl _ _⟩
 ·have hne:((bs (Qy.hd l)).toList != (bs s).toList)=false:=by rw [bne,hcmp];rfl
  rw [if_pos (of_decide_eq_true hb)] at hl2
  subst hl2
  clear hb
  go_enter Tryd.func75,Tryd.ntmps75
  go_wp2_with fail
  refine (qStep B r l w HR.out).mono ?_
  rintro e w1 ⟨rfl,h1,h2⟩
  have HF:=Lib.hid (And.intro h1 h2)
  clear h1 h2 c0
  go_wp2
  go_returns
  exact ⟨rfl,HF.out.1,HF.out.2⟩
set_option maxRecDepth 100000 in
set_option maxHeartbeats 1600000 in
theorem qNeed (B r:Nat) (l:List Qy.Tok) (s:Qy.Bs) (w:World) (h:RdAt B r l w):Calls Tryd.prog 52 #[.pointer (some ⟨r,0,none⟩),.string (bs s)] w (Ends B r w (Qy.need s l) unitV):=by
 have HT:=Lib.hid (qTake B r l s w h)
 by_cases e:Qy.hd l=s
 ·have hn:Qy.need s l=.ok () (Qy.stp l):=if_pos e
  rw [hn]
  rw [decide_eq_true e,if_pos e] at HT
  clear hn e h
  go_enter Tryd.func52,Tryd.ntmps52
  go_wp2_with fail
  refine HT.out.mono ?_
  rintro e w1 ⟨rfl,h1,h2⟩
  have HF:=Lib.hid (And.intro h1 h2)
  clear h1 h2
  go_wp2
  exact bodyPost_end (results_none Tryd.results52 _ _ _) rfl ⟨HF.out.2,⟨_,rfl,rfl⟩,HF.out.1⟩
 ·have hn:Qy.need s l=.bad (Qy.hdAt l) 2:=if_neg e
  rw [hn]
  rw [decide_eq_false e,if_neg e] at HT
  clear hn e h
  go_enter Tryd.func52,Tryd.ntmps52
  go_wp2_with fail
  refine HT.out.mono ?_
  rintro e w1 ⟨rfl,h1,h2⟩
  have HF:=Lib.hid (And.intro h1 h2)
  clear h1 h2
  go_wp2_with fail
  refine (qFail B r l 2 w1 HF.out.1).mono ?_
  rintro e w2 ⟨rfl,rfl⟩
  go_wp2
  exact ⟨rfl,HF.out.2,rfl⟩
set_option maxRecDepth 100000 in
theorem letter_any (c:UInt8) (w:World):Calls Tryd.prog 49 #[.int .u8 (c.toNat:Int)] w fun e w'=>e=.returned (.bool (Qy.isL c))∧w'=w:=by
 unfold Qy.isL
 generalize c.toNat=n
 by_cases h1:97≤n
 ·by_cases h2:n≤122
  ·have k1:(97:Int)≤(n:Int):=by omega
   have k2:(n:Int)≤122:=by omega
   rw [decide_eq_true h1,decide_eq_true h2]
   go_enter Tryd.func49,Tryd.ntmps49
   go_wp2
   go_returns
   exact ⟨by simp,rfl⟩
  ·have k1:(97:Int)≤(n:Int):=by omega
   have k2:¬ (n:Int)≤122:=by omega
   rw [decide_eq_true h1,decide_eq_false h2]
   go_enter Tryd.func49,Tryd.ntmps49
   go_wp2
   go_returns
   exact ⟨by simp,rfl⟩
 ·have k1:¬ (97:Int)≤(n:Int):=by omega
  rw [decide_eq_false h1]
  go_enter Tryd.func49,Tryd.ntmps49
  go_wp2
  go_returns
  exact ⟨by simp,rfl⟩
end Go.Proofs.YtmlpibdincfgbaaDoor
/-
 (second part)
-/
namespace Go.Proofs.YtmlpibdincfgbaaDoor
open Go.RowKit
set_option maxRecDepth 100000 in
theorem in_any (n lo hi:Int) (w:World):Calls Tryd.prog 78 #[.int .i64 n,.int .i64 lo,.int .i64 hi] w fun e w'=>e=.returned (.bool (decide (lo≤n)&&decide (n≤hi)))∧w'=w:=by
 by_cases h1:lo≤n
 ·by_cases h2:n≤hi
  ·rw [decide_eq_true h1,decide_eq_true h2]
   go_enter Tryd.func78,Tryd.ntmps78
   go_wp2
   go_returns
   exact ⟨by simp,rfl⟩
  ·rw [decide_eq_true h1,decide_eq_false h2]
   go_enter Tryd.func78,Tryd.ntmps78
   go_wp2
   go_returns
   exact ⟨by simp,rfl⟩
 ·rw [decide_eq_false h1]
  go_enter Tryd.func78,Tryd.ntmps78
  go_wp2
  go_returns
  exact ⟨by simp,rfl⟩
set_option maxRecDepth 100000 in
theorem digit_any (c:UInt8) (w:World):Calls Tryd.prog 51 #[.int .u8 (c.toNat:Int)] w fun e w'=>e=.returned (.bool (Qy.isD c))∧w'=w:=by
 unfold Qy.isD
 generalize c.toNat=n
 by_cases h1:48≤n
 ·by_cases h2:n≤57
  ·have k1:(48:Int)≤(n:Int):=by omega
   have k2:(n:Int)≤57:=by omega
   rw [decide_eq_true h1,decide_eq_true h2]
   go_enter Tryd.func51,Tryd.ntmps51
   go_wp2
   go_returns
   exact ⟨by simp,rfl⟩
  ·have k1:(48:Int)≤(n:Int):=by omega
   have k2:¬ (n:Int)≤57:=by omega
   rw [decide_eq_true h1,decide_eq_false h2]
   go_enter Tryd.func51,Tryd.ntmps51
   go_wp2
   go_returns
   exact ⟨by simp,rfl⟩
 ·have k1:¬ (48:Int)≤(n:Int):=by omega
  rw [decide_eq_false h1]
  go_enter Tryd.func51,Tryd.ntmps51
  go_wp2
  go_returns
  exact ⟨by simp,rfl⟩
set_option maxRecDepth 100000 in
set_option maxHeartbeats 1600000 in
theorem inWord_any (c:UInt8) (w:World):Calls Tryd.prog 50 #[.int .u8 (c.toNat:Int)] w fun e w'=>e=.returned (.bool (Qy.isW c))∧w'=w:=by
 have HL:=Lib.hid (fun u=>letter_any c u)
 have HD:=Lib.hid (fun u=>digit_any c u)
 have he:(c==45)=decide ((c.toNat:Int)=45):=by
  rw [Bool.eq_iff_iff]
  simp only [beq_iff_eq,decide_eq_true_eq]
  constructor
  ·rintro rfl;rfl
  ·intro h
   apply UInt8.toNat.inj
   show c.toNat=45
   omega
 have hw:Qy.isW c=(Qy.isL c||Qy.isD c||decide ((c.toNat:Int)=45)):=by unfold Qy.isW;rw [he]
 rw [hw]
 clear hw he
 generalize Qy.isL c=a at HL ⊢
 generalize Qy.isD c=b at HD ⊢
 generalize (c.toNat:Int)=n at *
 cases a
 ·cases b
  ·by_cases h:n=45
   ·rw [decide_eq_true h]
    subst h
    go_enter Tryd.func50,Tryd.ntmps50
    go_wp2_with fail
    refine (HL.out _).mono ?_
    rintro e w1 ⟨rfl,rfl⟩
    go_wp2_with fail
    refine (HD.out _).mono ?_
    rintro e w1 ⟨rfl,rfl⟩
    go_wp2
    go_returns
    exact ⟨by simp,rfl⟩
   ·rw [decide_eq_false h]
    go_enter Tryd.func50,Tryd.ntmps50
    go_wp2_with fail
    refine (HL.out _).mono ?_
    rintro e w1 ⟨rfl,rfl⟩
    go_wp2_with fail
    refine (HD.out _).mono ?_
    rintro e w1 ⟨rfl,rfl⟩
    go_wp2
    go_returns
    exact ⟨by simp [h],rfl⟩
  ·go_enter Tryd.func50,Tryd.ntmps50
   go_wp2_with fail
   refine (HL.out _).mono ?_
   rintro e w1 ⟨rfl,rfl⟩
   go_wp2_with fail
   refine (HD.out _).mono ?_
   rintro e w1 ⟨rfl,rfl⟩
   go_wp2
   go_returns
   exact ⟨by simp,rfl⟩
 ·go_enter Tryd.func50,Tryd.ntmps50
  go_wp2_with fail
  refine (HL.out _).mono ?_
  rintro e w1 ⟨rfl,rfl⟩
  go_wp2
  go_returns
  exact ⟨by simp,rfl⟩
end Go.Proofs.YtmlpibdincfgbaaDoor
