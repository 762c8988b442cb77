/-
  Chapter 14's reference: BentView.
-/
import Derived.Test.YtmlpibdincfgbaaGreatDoorQS2
namespace Go.Proofs.YtmlpibdincfgbaaGreatDoor
open Go.RowKit
set_option linter.unusedSimpArgs false
set_option linter.unusedVariables false
theorem run_append_ints (w:World) (ty:TypeId) (base:Nat) (i:TypeInfo) (hi:Tryz.prog.info? 3=some i) (hz:i.zero=some (.int .i64 0)) (hs:i.size=1) (hb:i.bytes=8) (v:Value) (n:Nat) (xs:List Value) (hown:w.ownsRow base 3 1 v n xs) {S:Nat→Prop} {A:Option Addr} {l:List Int} {c:Nat} (hI:IntsAt w S A l) (hn:n+l.length≤1000000) (hbase:base≤w.heap.size) :
 ∃ v' w',(Builtin.append_ #[22,22] ty #[v,.slice A l.length c]).run Tryz.prog w=.ok v' w'∧w'.ownsRow base 3 1 v' (n+l.length) (xs++l.map i64)∧w.grownBy w' v.ownBlock:=by
 cases A with
 | none=>
  have hl:l=[]:=by
   rcases hI with h | ⟨g,off,e,_⟩
   ·exact h
   ·cases e
  subst hl
  refine ⟨v,w,?_,by simpa using hown,⟨rfl,rfl,rfl,Nat.le_refl _,fun _ _ _=>rfl⟩⟩
  rcases hown.2 with ⟨rfl,rfl⟩ | ⟨g,cap,cur,rfl,_,_,hnc,_⟩
  ·simp [Builtin.append_,run_underlying Tryz.underlying22,sizeOf,typeInfo,hi,Builtin.lenOf,Builtin.firstCells]
  ·simp [Builtin.append_,run_underlying Tryz.underlying22,sizeOf,typeInfo,hi,Builtin.lenOf,Builtin.firstCells,hnc,storeCells]
 | some a=>
  obtain ⟨v',w',h1,h2,h3,_⟩:=run_append_own (P:=Tryz.prog) w base 22 ty 3 i (.int .i64 0) 1 8 Tryz.underlying22 hi hz hs hb rfl (by decide) v n xs hown a l.length c (l.map i64) (by simp) (fun j u hj=>by
   rw [List.getElem?_map] at hj
   cases hz:l[j]? with
   | none=>rw [hz] at hj;cases hj
   | some z=>
    rw [hz] at hj
    cases hj
    rcases hI with h | ⟨g,off,e,_,_,h4⟩
    ·rw [h] at hz;cases hz
    ·cases e
     rw [Addr.add_lit]
     exact h4 j z hz) (fun u hu=>by
   obtain ⟨z,_,rfl⟩:=List.mem_map.1 hu
   rfl) (by unfold maxLen;omega) (by omega) hbase
  exact ⟨v',w',h1,h2,h3⟩
theorem wpList_append_ints {w:World} {ops:Array Oper} {rest:List Oper} {o:Oper} {ac:Act} {Q:Exit→Act→World→Prop} (hgd:o.guard=none) (s x:Operand)
 (ho:o.op=.call { callee:=.builtin .append,args:=#[s,x],argTypes:=#[22,22] }) (base:Nat) (i:TypeInfo) (hi:Tryz.prog.info? 3=some i) (hz:i.zero=some (.int .i64 0)) (hs:i.size=1) (hb:i.bytes=8)
 (v:Value) (n:Nat) (xs:List Value) (hs':ac.eval s=v) (hown:w.ownsRow base 3 1 v n xs) {S:Nat→Prop} {A:Option Addr} {l:List Int} {c:Nat} (hx:ac.eval x=.slice A l.length c) (hI:IntsAt w S A l) (hn:n+l.length≤1000000) (hbase:base≤w.heap.size)
 (h:∀ v' w',w'.ownsRow base 3 1 v' (n+l.length) (xs++l.map i64)→w.grownBy w' v.ownBlock→wpList Tryz.prog ops Q rest (ac.put o.dst v') w'):wpList Tryz.prog ops Q (o :: rest) ac w:=by
 refine wpList_plain hgd fun K hK=>?_
 obtain ⟨v',w',hr,h2,h3⟩:=run_append_ints w o.type base i hi hz hs hb v n xs hown (c:=c) hI hn hbase
 unfold Oper.wp execOp
 simp only [ho,resolve,invoke,builtin,Sem.run_bind,Sem.run_pure,Result.andThen_ok,List.map_toArray,List.map_cons,List.map_nil,hs',hx,hr]
 exact hK _ _ (h v' w' h2 h3)
theorem rint_infoB:(Tryz.prog.info? 3).map (fun i=>(i.zero,i.size,i.bytes))=some (some (.int .i64 0),1,8):=by kernel_rfl
theorem owns_intsB {w:World} {B:Nat} {v:Value} {n:Nat} {l:List Int} (h:w.ownsRow B 3 1 v n (l.map i64)):∃ A c,v=.slice A l.length c∧n=l.length∧l.length≤c∧c≤maxLen∧IntsAt w (fun g=>B≤g) A l:=owns_ints h
theorem push_intB {ops:Array Oper} {rest:List Oper} {o:Oper} {a:Act} {w:World} {Q:Exit→Act→World→Prop} (hgd:o.guard=none) (s x:Operand) (ho:o.op=.call { callee:=.builtin .append,args:=#[s,x],argTypes:=#[22,22] })
 (B:Nat) (v:Value) (n:Nat) (xs:List Value) (y:Int) (hs:a.eval s=v) (hown:w.ownsRow B 3 1 v n xs) (hx:a.eval x=.slice (some ⟨w.heap.size,0,none⟩) 1 1) (hn:n≤1099511627776) (hB:B≤w.heap.size)
 (h:∀ v' w',w'.ownsRow B 3 1 v' (n+1) (xs++[.int .i64 y])→Below B w w'→wpList Tryz.prog ops Q rest (a.put o.dst v') w'):wpList Tryz.prog ops Q (o :: rest) a (w.alloc (.cells #[.int .i64 y] 3)):=by
 obtain ⟨i0,hi,hz0,hz1,hz2⟩:=info_parts rint_infoB
 refine wpList_append_own _ hgd s x 22 ho B 3 i0 (.int .i64 0) 1 8 Tryz.underlying22 hi hz0 hz1 hz2 rfl (by decide) v n xs hs (hown.alloc _) ⟨w.heap.size,0,none⟩ 1 1 [.int .i64 y] hx rfl ?_ ?_ ?_ ?_ ?_ ?_
 ·intro j u hj
  match j,hj with
  | 0,hj=>simp at hj;subst hj;simp [Addr.add]
 ·intro u hu;simp at hu;subst hu;rfl
 ·unfold maxLen;omega
 ·omega
 ·simp;omega
 intro v' w' hown' hgrow _
 refine h v' w' hown' ?_
 exact ((Below.refl B w).alloc hB _).grown hgrow (by simp;omega) (fun k hk=>(hown.lt k hk).1)
theorem IntsAt.take {w:World} {S:Nat→Prop} {A:Option Addr} {l:List Int} (h:IntsAt w S A l) (k:Nat):IntsAt w S A (l.take k):=by
 rcases h with rfl | ⟨g,off,h1,h2,h3,h4⟩
 ·exact .inl (by simp)
 ·refine .inr ⟨g,off,h1,h2,h3,fun i z hz=>h4 i z ?_⟩
  rw [List.getElem?_take] at hz
  split at hz
  ·exact hz
  ·cases hz
def ViewB (m:Nat) (w:World) (e:Ending) (w':World):Prop:=∃ (k:Int) (o:List Int) (A:Option Addr) (c:Nat),e=.returned (.agg #[.int .i64 k,.slice A o.length c])∧Below w.heap.size w w'∧IntsAt w' (fun g=>w.heap.size≤g) A o∧o.length≤m∧o.length≤c∧c≤maxLen
theorem IntsAt.far1 {w:World} {B:Nat} {A:Option Addr} {l:List Int} (h:IntsAt w (fun g=>B≤g) A l) {p:Addr} (hp:p.block<B) (u:Value):IntsAt (w.setCell p u) (fun g=>B≤g) A l:=
 h.keep (by simp) fun g hg hl=>⟨hg,Below.heap_setCell w p u g (by omega)⟩
theorem viewB_end {w wf:World} {r g2:Nat} {k:Int} {o:List Int} {A:Option Addr} {c m q:Nat} {t:TypeId} {z0 z1:Value} (hr:r=w.heap.size) (hO:Own wf g2 t [z0,z1]) (hg2:r<g2) (hb:Below w.heap.size w wf) (hI:IntsAt wf (fun g=>g2+1≤g) A o) (hq:o.length=q) (h1:q≤m) (h2:q≤c) (h3:c≤maxLen) :
 Own (((wf.setCell ⟨r,1,none⟩ (.slice A q c)).setCell ⟨g2,0,none⟩ (.int .i64 k)).setCell ⟨g2,1,none⟩ (.slice A q c)) g2 t [.int .i64 k,.slice A q c]∧ViewB m w (.returned (.agg #[.int .i64 k,.slice A q c])) (((wf.setCell ⟨r,1,none⟩ (.slice A q c)).setCell ⟨g2,0,none⟩ (.int .i64 k)).setCell ⟨g2,1,none⟩ (.slice A q c)):=by
 refine ⟨(hO.far (by show g2≠r;omega) _).put2'.1,k,o,A,c,by rw [hq],?_,?_,by omega,by omega,h3⟩
 ·exact ((hb.setCell (by show w.heap.size≤r;omega) _).setCell (by show w.heap.size≤g2;omega) _).setCell (by show w.heap.size≤g2;omega) _
 ·exact (((hI.far1 (by show r<g2+1;omega) _).far1 (by show g2<g2+1;omega) _).far1 (by show g2<g2+1;omega) _).keep (Nat.le_refl _) fun g hg _=>⟨by omega,rfl⟩
theorem bent_row {w:World} {B n:Nat} {v:Value} {l:List Int} {y:Int} (h:w.ownsRow B 3 1 v n (l.map i64++[.int .i64 y])):w.ownsRow B 3 1 v n ((l++[y]).map i64):=by
 rw [List.map_append];exact h
set_option maxRecDepth 100000 in
set_option maxHeartbeats 6400000 in
theorem BentView_any {w:World} {S:Nat→Prop} {A:Option Addr} {k:Int} {l:List Int} {c:Nat} (hI:IntsAt w S A l) (hl:l.length≤1000) (how by_:Int) (hh:in64 how) (hb:in64 by_) :
 Calls Tryz.prog 22 #[.agg #[.int .i64 k,.slice A l.length c],.int .i64 how,.int .i64 by_] w (ViewB (l.length+9) w):=by
 obtain ⟨a4,ha4⟩:∃ z,around how 4=z:=⟨_,rfl⟩
 have c4:=around_bd how (m:=4) (by omega)
 rw [ha4] at c4
 have H4:=Lib.hid fun u=>Around_any how 4 u hh.1 hh.2 (by omega) (by omega)
 rw [ha4] at H4
 obtain ⟨b5,hb5⟩:∃ z,around by_ 5=z:=⟨_,rfl⟩
 have d5:=around_bd by_ (m:=5) (by omega)
 rw [hb5] at d5
 have G5:=Lib.hid fun u=>Around_any by_ 5 u hb.1 hb.2 (by omega) (by omega)
 rw [hb5] at G5
 obtain ⟨b6,hb6⟩:∃ z,around by_ 6=z:=⟨_,rfl⟩
 have d6:=around_bd by_ (m:=6) (by omega)
 rw [hb6] at d6
 have G6:=Lib.hid fun u=>Around_any by_ 6 u hb.1 hb.2 (by omega) (by omega)
 rw [hb6] at G6
 have HI:=Lib.hid hI
 have HL:=Lib.hid hl
 obtain ⟨n,hn⟩:∃ n,l.length=n:=⟨_,rfl⟩
 have HN:=Lib.hid hn
 rw [hn] at hl ⊢
 clear hI hh hb ha4 hb5 hb6 hn
 go_enter Tryz.func22,Tryz.ntmps22
 go_upto_region 1 with fail
 refine wp_new2 fun W0 hA hQ hB=>?_
 obtain ⟨g2,hg2⟩:∃ g2,w.heap.size+1=g2:=⟨_,rfl⟩
 rw [hg2] at hQ ⊢
 have hg2w:w.heap.size<g2:=by omega
 have hz2:=hQ.lt
 have y1:=hA.c1
 have HS:=Lib.hid (And.intro hA (And.intro hQ hB))
 obtain ⟨i0_,hi_,hz0,hz1,hz2_⟩:=info_parts rint_infoB
 have HI0:=Lib.hid (HI.out.on hB)
 clear hA hQ hB hg2
 go_wp2_with (at_builtin;refine wpList_append_ints rfl _ _ rfl (g2+1) i0_ hi_ hz0 hz1 hz2_ _ 0 [] rfl (World.ownsRow_nil _ _ _ 1) (l:=l) (by rw [HN.out];rfl) HI0.out (by have:=HL.out;omega) (by omega) ?_)
 intro v' w1 hrow hgrow
 have hgB:Below (g2+1) W0 w1:=Below.grown (Below.refl _ _) hgrow (by omega) (fun j hj=>by cases hj)
 have hkA:∀ q t xs,Own W0 q t xs→Own w1 q t xs:=fun q t xs h=>h.grown hgrow (fun e=>by cases e)
 have hA1:=hkA _ _ _ HS.out.1
 have hQ1:=hkA _ _ _ HS.out.2.1
 have hB1:Below w.heap.size w w1:=Below.trans HS.out.2.2 (hgB.mono (by omega))
 have HX:=Lib.hid (And.intro hA1 (And.intro hQ1 (And.intro hB1 hrow)))
 obtain ⟨A1,c1,hv1,hn1,hc1,hc2,hI1⟩:=owns_intsB hrow
 rw [HN.out] at hv1 hc1 hn1 hrow HX
 subst hv1
 have HI1:=Lib.hid (And.intro hI1 (And.intro hc1 hc2))
 have hz21:=hQ1.lt
 clear hgB hkA hA1 hQ1 hB1 hrow hgrow hi_ hz0 hz1 hz2_ y1 hI1 hc1 hc2 HI0 HS hz2 hn1
 clear i0_
 go_wp2_with fail
 refine (H4.out _).mono ?_
 rintro e w2 ⟨rfl,k2⟩
 have hA2:=HX.out.1.on k2
 have hQ2:=HX.out.2.1.on k2
 have HX2:=Lib.hid (And.intro hA2 (And.intro hQ2 (And.intro (Below.call HX.out.2.2.1 k2) (And.intro (owns_below HX.out.2.2.2 k2) (And.intro (HI1.out.1.on k2) HI1.out.2)))))
 have hz22:=hQ2.lt
 obtain ⟨y0,y1,y2⟩:=hA2.all2
 obtain ⟨z0,z1,z2⟩:=hQ2.all2
 clear H4 HX HI1 hA2 hQ2 k2 hz21
 have hcases:a4=0∨a4=1∨a4=2∨a4=3:=by omega
 obtain ⟨y2,y3⟩:=y2
 obtain ⟨z2,z3⟩:=z2
 have HG:=Lib.hid hg2w
 rcases hcases with rfl | rfl | rfl | rfl
 ·clear c4
  go_wp2_with fail
  refine (G6.out _).mono ?_
  rintro e w3 ⟨rfl,k3⟩
  have hN:=(Own.new w2 _ _).on k3
  have hb3:Below w2.heap.size w2 w3:=Below.call ((Below.refl _ w2).alloc (Nat.le_refl _) _) k3
  clear y0 y1 y2 y3 z0 z1 z2 z3 G5 G6 d5 k3
  have hA3:=HX2.out.1.on hb3
  have hQ3:=HX2.out.2.1.on hb3
  have HY:=Lib.hid (And.intro (Below.call HX2.out.2.2.1 hb3) (And.intro hQ3 (HX2.out.2.2.2.2.1.on hb3)))
  have hz23:=hQ3.lt
  obtain ⟨y0,y1,y2,y3⟩:=hA3.all2
  obtain ⟨z0,z1,z2,z3⟩:=hQ3.all2
  have hb6:b6=0∨b6=1∨b6=2∨b6=3∨b6=4∨b6=5:=by omega
  have HN3:=Lib.hid hN
  clear hA3 hQ3 hb3 hN d6
  rcases hb6 with rfl | rfl | rfl | rfl | rfl | rfl
  ·have hc:=HN3.out.c0
   go_wp2_with fail
   obtain ⟨hO,hV⟩:=viewB_end (k:=by_) (wf:=w3.setCell ⟨w.heap.size,0,none⟩ (.int .i64 by_)) rfl (HY.out.2.1.far (by show g2≠w.heap.size;omega) (.int .i64 by_)) HG.out (HY.out.1.setCell (Nat.le_refl _) (.int .i64 by_)) (HY.out.2.2.far1 (by show w.heap.size<g2+1;omega) (.int .i64 by_)) HN.out (by omega:n≤n+9) HX2.out.2.2.2.2.2.1 HX2.out.2.2.2.2.2.2
   clear y0 y1 y2 y3 z0 z1 z2 z3 hc
   revert hO hV
   generalize ((World.setCell _ _ _).setCell _ _)=W9
   intro hO hV
   have q0:=hO.c0
   have q1:=hO.c1
   exact bodyPost_ret (v:=.agg #[.int .i64 by_,.slice A1 n c1]) (by simp [results,Tryz.results22,go_sem,q0,q1]) rfl hV
  ·have hc:=HN3.out.c1
   go_wp2_with fail
   obtain ⟨hO,hV⟩:=viewB_end (k:=(-1)) (wf:=w3.setCell ⟨w.heap.size,0,none⟩ (.int .i64 (-1))) rfl (HY.out.2.1.far (by show g2≠w.heap.size;omega) (.int .i64 (-1))) HG.out (HY.out.1.setCell (Nat.le_refl _) (.int .i64 (-1))) (HY.out.2.2.far1 (by show w.heap.size<g2+1;omega) (.int .i64 (-1))) HN.out (by omega:n≤n+9) HX2.out.2.2.2.2.2.1 HX2.out.2.2.2.2.2.2
   clear y0 y1 y2 y3 z0 z1 z2 z3 hc
   revert hO hV
   generalize ((World.setCell _ _ _).setCell _ _)=W9
   intro hO hV
   have q0:=hO.c0
   have q1:=hO.c1
   exact bodyPost_ret (v:=.agg #[.int .i64 (-1),.slice A1 n c1]) (by simp [results,Tryz.results22,go_sem,q0,q1]) rfl hV
  ·have hc:=HN3.out.c2
   go_wp2_with fail
   obtain ⟨hO,hV⟩:=viewB_end (k:=0) (wf:=w3.setCell ⟨w.heap.size,0,none⟩ (.int .i64 0)) rfl (HY.out.2.1.far (by show g2≠w.heap.size;omega) (.int .i64 0)) HG.out (HY.out.1.setCell (Nat.le_refl _) (.int .i64 0)) (HY.out.2.2.far1 (by show w.heap.size<g2+1;omega) (.int .i64 0)) HN.out (by omega:n≤n+9) HX2.out.2.2.2.2.2.1 HX2.out.2.2.2.2.2.2
   clear y0 y1 y2 y3 z0 z1 z2 z3 hc
   revert hO hV
   generalize ((World.setCell _ _ _).setCell _ _)=W9
   intro hO hV
   have q0:=hO.c0
   have q1:=hO.c1
   exact bodyPost_ret (v:=.agg #[.int .i64 0,.slice A1 n c1]) (by simp [results,Tryz.results22,go_sem,q0,q1]) rfl hV
  ·have hc:=HN3.out.c3
   go_wp2_with fail
   obtain ⟨hO,hV⟩:=viewB_end (k:=1) (wf:=w3.setCell ⟨w.heap.size,0,none⟩ (.int .i64 1)) rfl (HY.out.2.1.far (by show g2≠w.heap.size;omega) (.int .i64 1)) HG.out (HY.out.1.setCell (Nat.le_refl _) (.int .i64 1)) (HY.out.2.2.far1 (by show w.heap.size<g2+1;omega) (.int .i64 1)) HN.out (by omega:n≤n+9) HX2.out.2.2.2.2.2.1 HX2.out.2.2.2.2.2.2
   clear y0 y1 y2 y3 z0 z1 z2 z3 hc
   revert hO hV
   generalize ((World.setCell _ _ _).setCell _ _)=W9
   intro hO hV
   have q0:=hO.c0
   have q1:=hO.c1
   exact bodyPost_ret (v:=.agg #[.int .i64 1,.slice A1 n c1]) (by simp [results,Tryz.results22,go_sem,q0,q1]) rfl hV
  ·have hc:=HN3.out.cell 4
   simp only [List.getElem?_cons_succ,List.getElem?_cons_zero] at hc
   go_wp2_with fail
   obtain ⟨hO,hV⟩:=viewB_end (k:=2) (wf:=w3.setCell ⟨w.heap.size,0,none⟩ (.int .i64 2)) rfl (HY.out.2.1.far (by show g2≠w.heap.size;omega) (.int .i64 2)) HG.out (HY.out.1.setCell (Nat.le_refl _) (.int .i64 2)) (HY.out.2.2.far1 (by show w.heap.size<g2+1;omega) (.int .i64 2)) HN.out (by omega:n≤n+9) HX2.out.2.2.2.2.2.1 HX2.out.2.2.2.2.2.2
   clear y0 y1 y2 y3 z0 z1 z2 z3 hc
   revert hO hV
   generalize ((World.setCell _ _ _).setCell _ _)=W9
   intro hO hV
   have q0:=hO.c0
   have q1:=hO.c1
   exact bodyPost_ret (v:=.agg #[.int .i64 2,.slice A1 n c1]) (by simp [results,Tryz.results22,go_sem,q0,q1]) rfl hV
  ·have hc:=HN3.out.cell 5
   simp only [List.getElem?_cons_succ,List.getElem?_cons_zero] at hc
   go_wp2_with fail
   obtain ⟨hO,hV⟩:=viewB_end (k:=3) (wf:=w3.setCell ⟨w.heap.size,0,none⟩ (.int .i64 3)) rfl (HY.out.2.1.far (by show g2≠w.heap.size;omega) (.int .i64 3)) HG.out (HY.out.1.setCell (Nat.le_refl _) (.int .i64 3)) (HY.out.2.2.far1 (by show w.heap.size<g2+1;omega) (.int .i64 3)) HN.out (by omega:n≤n+9) HX2.out.2.2.2.2.2.1 HX2.out.2.2.2.2.2.2
   clear y0 y1 y2 y3 z0 z1 z2 z3 hc
   revert hO hV
   generalize ((World.setCell _ _ _).setCell _ _)=W9
   intro hO hV
   have q0:=hO.c0
   have q1:=hO.c1
   exact bodyPost_ret (v:=.agg #[.int .i64 3,.slice A1 n c1]) (by simp [results,Tryz.results22,go_sem,q0,q1]) rfl hV
 ·clear c4
  go_wp2_with fail
  refine (G5.out _).mono ?_
  rintro e w3 ⟨rfl,k3⟩
  have hN:=(Own.new w2 _ _).on k3
  have hb3:Below w2.heap.size w2 w3:=Below.call ((Below.refl _ w2).alloc (Nat.le_refl _) _) k3
  clear y0 y1 y2 y3 z0 z1 z2 z3 G5 G6 d6 k3
  obtain ⟨i,rfl⟩:∃ i:Nat,b5=(i:Int):=⟨b5.toNat,by omega⟩
  obtain ⟨y,hy⟩:∃ y:Int,w3.cell? ⟨w2.heap.size,i,none⟩=some (.int .i64 y):=by
   rw [hN.cell i]
   have:i=0∨i=1∨i=2∨i=3∨i=4:=by omega
   rcases this with rfl | rfl | rfl | rfl | rfl <;> exact ⟨_,rfl⟩
  have i0:(0:Int)≤(i:Int):=by omega
  have i1:(i:Int)<5:=by omega
  have hrow3:=owns_below HX2.out.2.2.2.1 hb3
  have HA3:=Lib.hid (And.intro (HX2.out.1.on hb3) (And.intro (HX2.out.2.1.on hb3) (Below.call HX2.out.2.2.1 hb3)))
  have hz23:=HA3.out.2.1.lt
  clear hb3 hN d5
  generalize Value.slice A1 n c1=vA at hrow3 ⊢
  go_wp2_with (at_builtin;refine push_intB rfl _ _ rfl (g2+1) vA n (l.map i64) y rfl hrow3 rfl ?c1 ?c2 ?_)
  case c1=>omega
  case c2=>omega
  intro v4 w4 hrow4 hb4
  obtain ⟨A4,c4,hv4,hn4,hc4,hd4,hI4⟩:=owns_intsB (bent_row hrow4)
  rw [← hn4] at hv4 hc4
  subst hv4
  have hA4:=HA3.out.1.below hb4 (by omega)
  have hQ4:=HA3.out.2.1.below hb4 (by omega)
  have HY:=Lib.hid (And.intro (Below.trans HA3.out.2.2 (hb4.mono (by omega))) (And.intro hQ4 (And.intro hI4 (And.intro hc4 (And.intro hd4 hn4.symm)))))
  have hz24:=hQ4.lt
  obtain ⟨y0,y1,y2,y3⟩:=hA4.all2
  obtain ⟨z0,z1,z2,z3⟩:=hQ4.all2
  clear hA4 hQ4 hb4 hrow4 hrow3 hy i0 i1 hI4 hc4 hd4 hz23 hz22 hn4
  go_wp2_with fail
  obtain ⟨hO,hV⟩:=viewB_end (k:=k) rfl HY.out.2.1 HG.out HY.out.1 HY.out.2.2.1 HY.out.2.2.2.2.2 (by omega:n+1≤n+9) HY.out.2.2.2.1 HY.out.2.2.2.2.1
  clear y0 y1 y2 y3 z0 z1 z2 z3
  revert hO hV
  generalize ((World.setCell _ _ _).setCell _ _)=W9
  intro hO hV
  have q0:=hO.c0
  have q1:=hO.c1
  exact bodyPost_ret (v:=.agg #[.int .i64 k,.slice A4 (n+1) c4]) (by simp [results,Tryz.results22,go_sem,q0,q1]) rfl hV
 ·clear c4
  have q0:(0:Int)≤(n:Int) / 2:=by omega
  have q1:(n:Int) / 2≤(c1:Int):=by have:=HX2.out.2.2.2.2.2.1;omega
  have q2:((n:Int) / 2).toNat=n / 2:=by omega
  go_wp2_with fail
  obtain ⟨hO,hV⟩:=viewB_end (k:=k) (q:=n / 2) (m:=n+9) rfl HX2.out.2.1 HG.out HX2.out.2.2.1 (HX2.out.2.2.2.2.1.take (n / 2)) (by rw [List.length_take,HN.out];omega) (by omega) (by have:=HX2.out.2.2.2.2.2.1;omega) HX2.out.2.2.2.2.2.2
  clear y0 y1 y2 y3 z0 z1 z2 z3 q0 q1 q2
  revert hO hV
  generalize ((World.setCell _ _ _).setCell _ _)=W9
  intro hO hV
  have q0:=hO.c0
  have q1:=hO.c1
  exact bodyPost_ret (v:=.agg #[.int .i64 k,.slice A1 (n / 2) c1]) (by simp [results,Tryz.results22,go_sem,q0,q1]) rfl hV
 ·clear c4
  obtain ⟨p,rfl⟩:∃ i:Nat,b5=(i:Int):=⟨b5.toNat,by omega⟩
  go_wp2_with fail
  go_loopw [7,8] (fun s7 s8 wr=>∃ i:Nat,i≤5+p∧s8=.int .i64 (i:Int)∧(∃ o:List Int,o.length=n+i∧wr.ownsRow (g2+1) 3 1 s7 (n+i) (o.map i64))∧Below (g2+1) w2 wr) (fun _ s _=>5+p - (intOf s).toNat)
  case atStart=>exact ⟨0,by omega,rfl,⟨l,by rw [HN.out];rfl,HX2.out.2.2.2.1⟩,Below.refl _ _⟩
  case round=>
   obtain ⟨i,hi,rfl,⟨o,ho,hrow⟩,hb⟩:=hrel
   rcases Nat.lt_or_eq_of_le hi with hlt | heq
   ·have i1:(i:Int)<5+(p:Int):=by omega
    have hx:in64 (i:Int):=by unfold in64;omega
    go_wp2_with fail
    refine (G5.out _).mono ?_
    rintro e w3 ⟨rfl,k3⟩
    have hrow3:=owns_below hrow k3
    have hb3:=Below.trans hb (k3.mono (by have:=hb.size;omega))
    have hz3:g2+1≤w3.heap.size:=by have:=hb3.size;omega
    have e10:i64 (10+(i:Int))=.int .i64 (10+(i:Int)):=rfl
    have HJ:=Lib.hid (And.intro hb3 ho)
    clear k3 hrow hb ho hb3 e10
    go_wp2_with (at_builtin;refine push_intB rfl _ _ rfl (g2+1) u7 (n+i) (o.map i64) (10+(i:Int)) rfl hrow3 rfl ?c1 ?c2 ?_)
    case c1=>omega
    case c2=>omega
    intro v4 w4 hrow4 hb4
    have hrow5:=bent_row hrow4
    have HR:=Lib.hid (And.intro (Below.trans HJ.out.1 hb4) hrow5)
    clear hrow3 hrow4 hrow5 hb4
    go_wp2_with fail
    go_roundw
    case rel=>exact ⟨i+1,by omega,by go_num,⟨o++[10+(i:Int)],by rw [List.length_append,HJ.out.2];rfl,HR.out.2⟩,HR.out.1⟩
    case measure=>simp [intOf];omega
   ·have i1:¬ (i:Int)<5+(p:Int):=by omega
    have i2:(5:Int)+(p:Int)≤(i:Int):=by omega
    have hle:i≤5+p:=hi
    clear heq
    obtain ⟨A4,c4,hv4,hn4,hc4,hd4,hI4⟩:=owns_intsB hrow
    rw [← hn4] at hv4 hc4
    subst hv4
    go_wp2_with fail
    refine (G5.out _).mono ?_
    rintro e w3 ⟨rfl,k3⟩
    have hb3:=Below.trans hb (k3.mono (by have:=hb.size;omega))
    have hA4:=HX2.out.1.below hb3 (by omega)
    have hQ4:=HX2.out.2.1.below hb3 (by omega)
    have HY:=Lib.hid (And.intro (Below.trans HX2.out.2.2.1 (hb3.mono (by omega))) (And.intro hQ4 (And.intro (hI4.on k3) (And.intro hc4 (And.intro hd4 ho)))))
    have hz24:=hQ4.lt
    clear k3 hb3 hb hI4 hc4 hd4 ho hrow hn4 y0 y1 y2 y3 z0 z1 z2 z3
    obtain ⟨y0,y1,y2,y3⟩:=hA4.all2
    obtain ⟨z0,z1,z2,z3⟩:=hQ4.all2
    clear hA4 hQ4
    go_wp2_with fail
    obtain ⟨hO,hV⟩:=viewB_end (k:=k) rfl HY.out.2.1 HG.out HY.out.1 HY.out.2.2.1 HY.out.2.2.2.2.2 (by omega:n+i≤n+9) HY.out.2.2.2.1 HY.out.2.2.2.2.1
    clear y0 y1 y2 y3 z0 z1 z2 z3
    revert hO hV
    generalize ((World.setCell _ _ _).setCell _ _)=W9
    intro hO hV
    have q0:=hO.c0
    have q1:=hO.c1
    exact bodyPost_ret (v:=.agg #[.int .i64 k,.slice A4 (n+i) c4]) (by simp [results,Tryz.results22,go_sem,q0,q1]) rfl hV
end Go.Proofs.YtmlpibdincfgbaaGreatDoor
