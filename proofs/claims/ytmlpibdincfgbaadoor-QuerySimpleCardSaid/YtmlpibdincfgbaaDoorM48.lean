/-
  Chapter 38's reference: Simple, the walk.
-/
import Derived.Test.YtmlpibdincfgbaaDoorM47
namespace Go.Proofs.YtmlpibdincfgbaaDoor
open Go.RowKit
set_option linter.unusedSimpArgs false
set_option linter.unusedVariables false
def RSimIH (n:Nat):Prop:=∀ (R:Qy.Reg),Qy.nodes R≤n→Qy.nodeE R=0→∀ (S:Nat→Prop) (cs:List Value) (w:World),RegAt w S cs R→Calls Tryd.prog 24 #[.agg cs.toArray] w (SimP S w R)
theorem KidsAt.litk {w:World} {S:Nat→Prop} {A:Option Addr} {l:List Qy.Reg} {i:Nat} {R:Qy.Reg} (h:KidsAt w S A 0 l) (hR:l[i]? = some R):∃ g off s1 n2 n3 n4 n5 n6 n7 A8 c8,A=some ⟨g,off,none⟩∧S g∧g<w.heap.size∧
 (w.cell? ⟨g,off+i * 9,none⟩=some (.int .i64 R.kind)∧w.cell? ⟨g,off+i * 9+1,none⟩=some (.string s1)∧w.cell? ⟨g,off+i * 9+2,none⟩=some (.int .i64 n2)∧w.cell? ⟨g,off+i * 9+3,none⟩=some (.int .i64 n3)∧w.cell? ⟨g,off+i * 9+4,none⟩=some (.int .i64 n4)∧w.cell? ⟨g,off+i * 9+5,none⟩=some (.int .i64 n5)∧w.cell? ⟨g,off+i * 9+6,none⟩=some (.int .i64 n6)∧w.cell? ⟨g,off+i * 9+7,none⟩=some (.int .i64 n7)∧w.cell? ⟨g,off+i * 9+8,none⟩=some (.slice A8 R.kids.length c8))∧
 RegAt w S [.int .i64 R.kind,.string s1,.int .i64 n2,.int .i64 n3,.int .i64 n4,.int .i64 n5,.int .i64 n6,.int .i64 n7,.slice A8 R.kids.length c8] R∧KidsAt w S A8 0 R.kids:=by
 obtain ⟨g,off,cs,h1,h2,h3,h4,h5⟩:=h.get hR
 obtain ⟨s1,n2,n3,n4,n5,n6,n7,A8,c8,rfl,hK⟩:=h5.litk
 simp only [Nat.zero_add] at h4
 exact ⟨g,off,s1,n2,n3,n4,n5,n6,n7,A8,c8,h1,h2,h3,⟨h4 0 _ rfl,h4 1 _ rfl,h4 2 _ rfl,h4 3 _ rfl,h4 4 _ rfl,h4 5 _ rfl,h4 6 _ rfl,h4 7 _ rfl,h4 8 _ rfl⟩,h5,hK⟩
theorem whole_any_acc {l:List Qy.Reg}:(l.foldl (Qy.addP 5) []).any Qy.wholeB=l.any Qy.wholeB:=by
 rw [Qy.add_any (K:=5) (fun x _ h=>absurd rfl h)]
 simp
theorem nothing_any_acc {l:List Qy.Reg}:(l.foldl (Qy.addP 4) []).any Qy.nothingB=l.any Qy.nothingB:=by
 rw [Qy.add_any (K:=4) (fun x hx _ h=>by unfold Qy.nothingB at hx;simp [h] at hx)]
 simp
theorem add_put4 {acc:List Qy.Reg} {k:Qy.Reg} (h:k.kind≠0):Qy.addP 4 acc k=putL acc k:=by
 unfold Qy.addP putL Qy.wholeB
 simp [h]
theorem add_put5 {acc:List Qy.Reg} {k:Qy.Reg}:Qy.addP 5 acc k=putL acc k:=by
 unfold Qy.addP putL
 simp
theorem add_skip4 {acc:List Qy.Reg} {k:Qy.Reg} (h:k.kind=0):Qy.addP 4 acc k=acc:=by
 unfold Qy.addP Qy.wholeB
 simp [h]
theorem fold_step {K:Int} {l:List Qy.Reg} {i:Nat} {R:Qy.Reg} (h:l[i]? = some R):(l.take (i+1)).foldl (Qy.addP K) []=Qy.addP K ((l.take i).foldl (Qy.addP K) []) R:=by
 rw [List.take_add_one,h]
 simp [List.foldl_append]
theorem flat_step {K:Int} {l:List Qy.Reg} {i:Nat} {R:Qy.Reg} (h:l[i]? = some R):Qy.flatP K (l.take (i+1))=Qy.flatP K (l.take i)++Qy.flat1 K R:=by
 rw [List.take_add_one,h]
 unfold Qy.flatP
 simp [List.flatMap_append]
theorem flat_take_le (K:Int) (l:List Qy.Reg) (i:Nat):(Qy.flatP K (l.take i)).length≤Qy.nodesL l:=by
 have h1:=Qy.len_nodesL (Qy.flatP K (l.take i))
 have h2:=Qy.flat_nodes K (l.take i)
 have h3:=Qy.nodesL_take_le l i
 omega
theorem acc_take_le (K:Int) (l:List Qy.Reg) (i:Nat):Qy.nodesL ((l.take i).foldl (Qy.addP K) [])≤Qy.nodesL l:=by
 have h1:=Qy.sub_nodesL (Qy.add_sub K (l.take i) [])
 rw [List.nil_append] at h1
 have h3:=Qy.nodesL_take_le l i
 omega
theorem smps_nodes {l:List Qy.Reg} (hE:∀ x∈l,Qy.nodeE x=0):Qy.nodesL (l.map Qy.smp)≤Qy.nodesL l:=by
 induction l with
 | nil=>exact Nat.le_refl _
 | cons r l ih=>
  rw [List.map_cons,Qy.nodesL,Qy.nodesL]
  have h1:=(Qy.smp_good _ r (Nat.le_refl _) (hE r (by simp))).2.2.1
  have h2:=ih fun x hx=>hE x (List.mem_cons_of_mem _ hx)
  omega
set_option maxRecDepth 100000 in
set_option maxHeartbeats 3200000 in
theorem rs_leaf {R:Qy.Reg} (hk:0≤R.kind∧R.kind<4) (S:Nat→Prop) (cs:List Value) (w:World) (h:RegAt w S cs R):Calls Tryd.prog 24 #[.agg cs.toArray] w (SimP S w R):=by
 have HR:Hid (∀ w',Below w.heap.size w w'→RegAt w' (fun g=>S g∨w.heap.size≤g) cs (Qy.smp R)):=Lib.hid fun w' k=>by rw [Qy.smp_leaf hk.2];exact (h.on k).wider fun g hg _=>.inl hg
 obtain ⟨s1,n2,n3,n4,n5,n6,n7,A,c,rfl,_⟩:=h.litk
 obtain ⟨k,hkk⟩:∃ k,R.kind=k:=⟨_,rfl⟩
 obtain ⟨m,hm⟩:∃ m,R.kids.length=m:=⟨_,rfl⟩
 rw [hkk,hm] at HR ⊢
 have h3:k<4:=by omega
 clear h hk hkk hm
 go_enter Tryd.func24,Tryd.ntmps24
 go_upto_region 1 with fail
 refine wp_new2 fun W0 hA hQ hB=>?_
 obtain ⟨g2,hg2⟩:∃ g2,w.heap.size+1=g2:=⟨_,rfl⟩
 rw [hg2] at hQ ⊢
 have HG2:Hid (w.heap.size≤g2):=Lib.hid (by omega)
 obtain ⟨N,hN⟩:∃ N:Nat→Prop,N=fun g=>(S g∧g<w.heap.size)∨g2<g:=⟨_,rfl⟩
 have HN:Hid (∀ g,N g↔(S g∧g<w.heap.size)∨g2<g):=Lib.hid fun g=>by rw [hN]
 have HNn:Hid (¬ N g2):=Lib.hid fun h=>by rcases (HN.out g2).1 h with h | h <;> omega
 have HNw:Hid (∀ g,N g→S g∨w.heap.size≤g):=Lib.hid fun g h=>((HN.out g).1 h).imp (fun h=>h.1) fun h=>by omega
 have HZ2:Hid (g2<W0.heap.size):=Lib.hid hQ.lt
 have HB:=Lib.hid hB
 have HQ:=Lib.hid hQ
 have HA:=Lib.hid hA
 clear hN
 obtain ⟨⟨y0,y1,y2,y3,y4,y5,y6,y7,y8⟩,_⟩:=hA.all9
 clear hA hQ hB hg2
 obtain ⟨⟨e0,e1,e2,e3,e4,e5,e6,e7,e8⟩,f0,f1,f2,f3,f4,f5,f6,f7,f8⟩:=(HQ.out).all9
 go_wp2_with fail
 obtain ⟨hO9,hk9⟩:=(HQ.out).put9 (x0:=.int .i64 k) (x1:=.string s1) (x2:=.int .i64 n2) (x3:=.int .i64 n3) (x4:=.int .i64 n4) (x5:=.int .i64 n5) (x6:=.int .i64 n6) (x7:=.int .i64 n7) (x8:=.slice A m c)
 clear e0 e1 e2 e3 e4 e5 e6 e7 e8 f0 f1 f2 f3 f4 f5 f6 f7 f8
 revert hO9 hk9
 generalize (((((((((W0.setCell _ _).setCell _ _).setCell _ _).setCell _ _).setCell _ _).setCell _ _).setCell _ _).setCell _ _).setCell _ _)=W9
 intro hO9 hk9
 obtain ⟨⟨q0,q1,q2,q3,q4,q5,q6,q7,q8⟩,_⟩:=hO9.all9
 refine bodyPost_ret (v:=.agg #[.int .i64 k,.string s1,.int .i64 n2,.int .i64 n3,.int .i64 n4,.int .i64 n5,.int .i64 n6,.int .i64 n7,.slice A m c]) (by simp [results,Tryd.results24,go_sem,q0,q1,q2,q3,q4,q5,q6,q7,q8]) rfl ?_
 exact ⟨_,rfl,Below.grown (HB.out) hk9 (HB.out).size (fun j hj=>by cases hj;exact HG2.out),[.int .i64 k,.string s1,.int .i64 n2,.int .i64 n3,.int .i64 n4,.int .i64 n5,.int .i64 n6,.int .i64 n7,.slice A m c],rfl,HR.out _ (Below.grown HB.out hk9 HB.out.size (fun j hj=>by cases hj;exact HG2.out))⟩
set_option maxRecDepth 100000 in
set_option maxHeartbeats 6400000 in
theorem rs_not {n:Nat} (ih:RSimIH n) {kids:List Qy.Reg} {x:Qy.Reg} (hx:kids=[x]) (hn:Qy.nodesL kids≤n) (hn2:n≤400000) (hv:∀ x∈kids,Qy.nodeE x=0) (S:Nat→Prop) (cs:List Value) (w:World) (h:RegAt w S cs (Qy.kidsR 6 kids)):Calls Tryd.prog 24 #[.agg cs.toArray] w (SimP S w (Qy.kidsR 6 kids)):=by
 have HSM:Hid (Qy.smp (Qy.kidsR 6 kids)=Qy.notP (Qy.smp x)):=Lib.hid (by rw [hx];exact Qy.smp_not x)
 have HKX:=Lib.hid hx
 clear hx
 obtain ⟨s1,n2,n3,n4,n5,n6,n7,A,c,rfl,hK⟩:=h.litk
 have hK:KidsAt w S A 0 kids:=hK
 rw [show (Qy.kidsR 6 kids).kind=6 from rfl,show (Qy.kidsR 6 kids).kids.length=kids.length from rfl]
 have hml:=Qy.len_nodesL kids
 obtain ⟨m,hm⟩:∃ m,kids.length=m:=⟨_,rfl⟩
 have HM:=Lib.hid hm
 rw [hm] at hml ⊢
 have hmb:m≤400000:=by omega
 have HK:=Lib.hid hK
 have HV:=Lib.hid (And.intro hv (And.intro hn hn2))
 have HIH:Hid (∀ R∈kids,∀ (cs:List Value) (u:World),RegAt u (fun g=>S g∧g<w.heap.size) cs R→Calls Tryd.prog 24 #[.agg cs.toArray] u (SimP (fun g=>S g∧g<w.heap.size) u R)):=Lib.hid fun R hR cs u h=>ih R (by have:=Qy.nodes_in1 hR;omega) (hv R hR) _ cs u h
 clear h hK hn hn2 hv ih hm hml
 go_enter Tryd.func24,Tryd.ntmps24
 go_upto_region 1 with fail
 refine wp_new2 fun W0 hA hQ hB=>?_
 obtain ⟨g2,hg2⟩:∃ g2,w.heap.size+1=g2:=⟨_,rfl⟩
 rw [hg2] at hQ ⊢
 have HG2:Hid (w.heap.size≤g2):=Lib.hid (by omega)
 obtain ⟨N,hN⟩:∃ N:Nat→Prop,N=fun g=>(S g∧g<w.heap.size)∨g2<g:=⟨_,rfl⟩
 have HN:Hid (∀ g,N g↔(S g∧g<w.heap.size)∨g2<g):=Lib.hid fun g=>by rw [hN]
 have HNn:Hid (¬ N g2):=Lib.hid fun h=>by rcases (HN.out g2).1 h with h | h <;> omega
 have HNw:Hid (∀ g,N g→S g∨w.heap.size≤g):=Lib.hid fun g h=>((HN.out g).1 h).imp (fun h=>h.1) fun h=>by omega
 have HZ2:Hid (g2<W0.heap.size):=Lib.hid hQ.lt
 have HB:=Lib.hid hB
 have HQ:=Lib.hid hQ
 have HA:=Lib.hid hA
 clear hN
 have hz1:=hA.lt
 obtain ⟨⟨y0,y1,y2,y3,y4,y5,y6,y7,y8⟩,_⟩:=hA.all9
 clear hA hQ hB
 have HGG:Hid (w.heap.size<g2):=Lib.hid (by omega)
 clear hg2
 go_wp2_with fail
 go_loopw [3,4] (fun s3 s4 wr=>∃ i:Nat,i≤m∧s4=.int .i64 (i:Int)∧Below w.heap.size w wr∧Own wr w.heap.size 42 [.int .i64 6,.string s1,.int .i64 n2,.int .i64 n3,.int .i64 n4,.int .i64 n5,.int .i64 n6,.int .i64 n7,.slice A m c]∧Own wr g2 42 [.int .i64 0,.string ⟨#[]⟩,.int .i64 0,.int .i64 0,.int .i64 0,.int .i64 0,.int .i64 0,.int .i64 0,.slice none 0 0]∧KRow 42 N wr s3 ((kids.take i).map Qy.smp)∧(∀ b,s3.ownBlock=some b→g2<b)) (fun _ s _=>m - (intOf s).toNat)
 case atStart=>exact ⟨0,Nat.zero_le _,rfl,HB.out,HA.out,HQ.out,KRow.nil _ _,fun b hb=>by cases hb⟩
 case round=>
  obtain ⟨i,hi,rfl,hB,hA,hQ,hrow,hrv⟩:=hrel
  clear HB HA HQ y0 y1 y2 y3 y4 y5 y6 y7 y8
  rcases Nat.lt_or_eq_of_le hi with hlt | heq
  ·
   have i0:(0:Int)≤(i:Int):=by omega
   have i1:(i:Int)<(m:Int):=by omega
   obtain ⟨Ri,hRi⟩:∃ R,kids[i]? = some R:=⟨_,List.getElem?_eq_getElem (by have:=HM.out;omega)⟩
   obtain ⟨gk,off,d0,t1,d2,d3,d4,d5,d6,d7,B8,l8,c8,rfl,hSg,hgl,⟨a0,a1,a2,a3,a4,a5,a6,a7,a8⟩,hR⟩:=HK.out.lit hRi
   have ce:∀ o,wr.cell? ⟨gk,o,none⟩=w.cell? ⟨gk,o,none⟩:=fun o=>World.cell?_of_block (a:=⟨gk,o,none⟩) (hB.block gk hgl)
   rw [← ce] at a0 a1 a2 a3 a4 a5 a6 a7 a8
   have hmem:=List.mem_of_getElem? hRi
   have HC:=Lib.hid (HIH.out Ri hmem [.int .i64 d0,.string t1,.int .i64 d2,.int .i64 d3,.int .i64 d4,.int .i64 d5,.int .i64 d6,.int .i64 d7,.slice B8 l8 c8] wr ((hR.wider fun g h1 h2=>⟨h1,h2⟩).on hB))
   have y8:wr.cell? ⟨w.heap.size,8,none⟩=some (.slice (some ⟨gk,off,none⟩) m c):=hA.cell 8
   have HT:Hid ((kids.take (i+1)).map Qy.smp=(kids.take i).map Qy.smp++[Qy.smp Ri]):=Lib.hid (by rw [List.take_add_one,hRi,List.map_append];rfl)
   have HS:=Lib.hid (And.intro hB (And.intro hA (And.intro hQ (And.intro hrow hrv))))
   have hg2r:=hQ.lt
   clear ce hRi hR hSg hgl hmem hB hA hQ hrow hrv
   go_wp2_with fail
   refine HC.out.mono ?_
   rintro e w1 ⟨v1,rfl,k1,cs1,rfl,hR1⟩
   obtain ⟨e0,f1,e2,e3,e4,e5,e6,e7,E8,q8,h8,rfl⟩:=hR1.lit11
   have kn:=below_new w1 (.cells #[.int .i64 e0,.string f1,.int .i64 e2,.int .i64 e3,.int .i64 e4,.int .i64 e5,.int .i64 e6,.int .i64 e7,.slice E8 q8 h8] 42)
   have hB6:Below w.heap.size w (w1.alloc (.cells #[.int .i64 e0,.string f1,.int .i64 e2,.int .i64 e3,.int .i64 e4,.int .i64 e5,.int .i64 e6,.int .i64 e7,.slice E8 q8 h8] 42)):=Below.call (Below.call HS.out.1 k1) kn
   have hown:∀ g,u3.ownBlock=some g→N g∧g<wr.heap.size:=HS.out.2.2.2.1.own
   have hR6:RegAt (w1.alloc (.cells #[.int .i64 e0,.string f1,.int .i64 e2,.int .i64 e3,.int .i64 e4,.int .i64 e5,.int .i64 e6,.int .i64 e7,.slice E8 q8 h8] 42)) (fun g=>N g∧u3.ownBlock≠some g) [.int .i64 e0,.string f1,.int .i64 e2,.int .i64 e3,.int .i64 e4,.int .i64 e5,.int .i64 e6,.int .i64 e7,.slice E8 q8 h8] (Qy.smp Ri):=RegAt.keep kn.size (fun g hg hl=>⟨⟨(HN.out g).2 (hg.imp id fun h=>by omega),fun e=>by
    have h1:=HS.out.2.2.2.2 g e
    have h2:=(hown g e).2
    have h3:=HGG.out
    rcases hg with h | h <;> omega⟩,kn.block g hl⟩) _ _ hR1
   have hrow6:=(HS.out.2.2.2.1.on k1).on kn
   have HOn:=own_news (Own.new w1 42 [.int .i64 e0,.string f1,.int .i64 e2,.int .i64 e3,.int .i64 e4,.int .i64 e5,.int .i64 e6,.int .i64 e7,.slice E8 q8 h8])
   have one9:=(reg_one9 hR1).2
   have hnew6:N (w1.alloc (.cells #[.int .i64 e0,.string f1,.int .i64 e2,.int .i64 e3,.int .i64 e4,.int .i64 e5,.int .i64 e6,.int .i64 e7,.slice E8 q8 h8] 42)).heap.size:=(HN.out _).2 (.inr (by have h1:=k1.size;have h2:=kn.size;omega))
   have hsz7:g2<w1.heap.size:=by have h1:=k1.size;omega
   have hsz6:w.heap.size≤w1.heap.size:=by have h1:=k1.size;have h2:=HS.out.1.size;omega
   have hlen:((kids.take i).map Qy.smp).length=i:=by rw [List.length_map,List.length_take];have:=HM.out;omega
   obtain ⟨css,q1,q2,q4,q3⟩:=hrow6
   have HX:=Lib.hid (And.intro ((HS.out.2.1.on k1).on kn) (And.intro ((HS.out.2.2.1.on k1).on kn) (And.intro hnew6 hB6)))
   clear kn hB6 hown hR1 hnew6 k1 a0 a1 a2 a3 a4 a5 a6 a7 a8 y8
   obtain ⟨i0_,hi_,hz0,hz1,hz2⟩:=info_parts reg_infoP
   rw [hlen] at q2
   go_wp2_with (at_builtin;refine wpList_pushO _ rfl _ _ 40 rfl 42 i0_ (.agg #[.int .i64 0,.string ⟨#[]⟩,.int .i64 0,.int .i64 0,.int .i64 0,.int .i64 0,.int .i64 0,.int .i64 0,.slice none 0 0]) 9 96 Tryd.underlying40 hi_ hz0 hz1 hz2 rfl (by decide) 0 _ _ _ rfl q2 ⟨w1.heap.size,0,none⟩ 1 [.int .i64 e0,.string f1,.int .i64 e2,.int .i64 e3,.int .i64 e4,.int .i64 e5,.int .i64 e6,.int .i64 e7,.slice E8 q8 h8] rfl rfl HOn one9 ?c4 ?c5 (Nat.zero_le _) ?_)
   case c4=>unfold maxLen;omega
   case c5=>omega
   intro v7 w7 hrow3 hgrow hv7
   rw [← hlen] at hrow3
   have hrow4:=KRow.push2 q1 q4 q3 rfl hR6 HX.out.2.2.1 hrow3 hgrow (hv7.imp id fun e=>e.trans (by simp))
   rw [← HT.out] at hrow4
   have hv8:∀ b,v7.ownBlock=some b→g2<b:=fun b hb=>by
    rcases hv7 with e | e
    ·exact HS.out.2.2.2.2 b (e.symm.trans hb)
    ·rw [e] at hb
     cases hb
     omega
   have hA7:=HX.out.1.grown hgrow (fun e=>by have h1:=HS.out.2.2.2.2 _ e.symm;have h2:=HGG.out;omega)
   have hQ7:=HX.out.2.1.grown hgrow (fun e=>by have h1:=HS.out.2.2.2.2 _ e.symm;omega)
   have hB7:Below w.heap.size w w7:=Below.grown HX.out.2.2.2 hgrow HX.out.2.2.2.size (fun j hj=>by have h1:=HS.out.2.2.2.2 _ hj;have h2:=HGG.out;omega)
   have HF:=Lib.hid (And.intro hB7 (And.intro hA7 (And.intro hQ7 (And.intro hrow4 hv8))))
   clear hrow4 hrow3 hgrow hv7 hv8 hA7 hQ7 hB7 q1 q2 q3 q4 hR6 HOn one9 hlen hsz6 hsz7 hi_ hz0 hz1 hz2
   clear i0_
   go_wp2_with fail
   go_roundw
   case rel=>exact ⟨i+1,by omega,by go_num,HF.out⟩
   case measure=>simp [intOf];omega
  ·
   have i1:¬ (i:Int)<(m:Int):=by omega
   have hks:(kids.take i).map Qy.smp=kids.map Qy.smp:=by rw [List.take_of_length_le (by have:=HM.out;omega)]
   rw [hks] at hrow
   have y0:=hA.cell 0
   have y8:=hA.cell 8
   obtain ⟨ks,hkse⟩:∃ ks,kids.map Qy.smp=ks:=⟨_,rfl⟩
   have HKs:Hid (ks.length=m∧Qy.nodesL ks≤400000∧∀ x∈ks,Qy.nodeE x=0):=Lib.hid (by
    subst hkse
    have h1:=smps_nodes HV.out.1
    have h2:=HV.out.2
    refine ⟨by rw [List.length_map];exact HM.out,by omega,fun x hx=>?_⟩
    obtain ⟨y,hy,rfl⟩:=List.mem_map.1 hx
    exact (Qy.smp_good _ y (Nat.le_refl _) (HV.out.1 y hy)).2.1)
   rw [hkse] at hrow
   obtain ⟨A3,c3,hv3,hK3⟩:=hrow.kids
   rw [HKs.out.1] at hv3
   subst hv3
   have HS:=Lib.hid (And.intro hB (And.intro hA (And.intro hQ hK3)))
   clear hks heq hrow hrv hB hA hQ hK3 HIH HK
   obtain rfl:ks=[Qy.smp x]:=by rw [← hkse,HKX.out];rfl
   obtain rfl:m=1:=HKs.out.1.symm
   obtain ⟨sx,hsx⟩:∃ sx,Qy.smp x=sx:=⟨_,rfl⟩
   rw [hsx] at HS HKs HSM
   clear hkse hsx
   obtain ⟨gk,off,t1,d2,d3,d4,d5,d6,d7,B8,c8,rfl,_,hgl,⟨a0,a1,a2,a3,a4,a5,a6,a7,a8⟩,hRx,hKx⟩:=HS.out.2.2.2.litk (i:=0) (R:=sx) rfl
   simp only [Nat.zero_mul,Nat.add_zero] at a0 a1 a2 a3 a4 a5 a6 a7 a8
   obtain ⟨kx,hkx⟩:∃ k,sx.kind=k:=⟨_,rfl⟩
   obtain ⟨lx,hlx⟩:∃ m,sx.kids.length=m:=⟨_,rfl⟩
   rw [hkx] at a0
   rw [hlx] at a8
   rw [hkx,hlx] at hRx
   have HKK:=Lib.hid (And.intro hkx hlx)
   have HR:=Lib.hid (And.intro hRx hKx)
   clear hkx hlx hRx hKx hgl
   go_upto_region 10 with fail
   refine wp_new1 fun W2 hA2 k2=>?_
   obtain ⟨⟨x0,x1,x2,x3,x4,x5,x6,x7,x8⟩,_⟩:=hA2.all9
   have HB2:=Lib.hid (Below.call HS.out.1 k2)
   have HQ2:=Lib.hid (HS.out.2.2.1.on k2)
   have HR2:=Lib.hid (HR.out.1.on k2)
   have HK2:=Lib.hid (HR.out.2.on k2)
   have HK3:=Lib.hid (HS.out.2.2.2.on k2)
   clear k2 hA2 a0 a1 a2 a3 a4 a5 a6 a7 a8 y0 y8
   by_cases h6:kx=6
   ·
    subst h6
    obtain ⟨y,hy1,hy2⟩:∃ y,sx=Qy.kidsR 6 [y]∧Qy.nodeE y=0:=by
     have h8:=HKK.out.1
     rcases Qy.node_cases (HKs.out.2.2 sx (by simp)) with h9 | h9 | h9
     ·omega
     ·exact h9
     ·omega
    subst hy1
    have HS2:Hid (Qy.smp (Qy.kidsR 6 kids)=y):=Lib.hid (by rw [HSM.out];unfold Qy.notP;rw [if_pos (by rfl:(Qy.kidsR 6 [y]).kind=6)];rfl)
    obtain rfl:lx=1:=HKK.out.2.symm
    have hK2:KidsAt W2 N B8 0 [y]:=HK2.out
    obtain ⟨gy,of2,b0,v1,b2,b3,b4,b5,b6,b7,V8,k8,j8,rfl,_,hgl,⟨a0,a1,a2,a3,a4,a5,a6,a7,a8⟩,hRy⟩:=hK2.lit (i:=0) (R:=y) rfl
    simp only [Nat.zero_mul,Nat.add_zero] at a0 a1 a2 a3 a4 a5 a6 a7 a8
    have HRY:=Lib.hid hRy
    clear hRy hgl hy2 hK2
    obtain ⟨⟨e0,e1,e2,e3,e4,e5,e6,e7,e8⟩,f0,f1,f2,f3,f4,f5,f6,f7,f8⟩:=(HQ2.out).all9
    go_wp2_with fail
    obtain ⟨hO9,hk9⟩:=(HQ2.out).put9 (x0:=.int .i64 b0) (x1:=.string v1) (x2:=.int .i64 b2) (x3:=.int .i64 b3) (x4:=.int .i64 b4) (x5:=.int .i64 b5) (x6:=.int .i64 b6) (x7:=.int .i64 b7) (x8:=.slice V8 k8 j8)
    clear e0 e1 e2 e3 e4 e5 e6 e7 e8 f0 f1 f2 f3 f4 f5 f6 f7 f8
    revert hO9 hk9
    generalize (((((((((W2.setCell _ _).setCell _ _).setCell _ _).setCell _ _).setCell _ _).setCell _ _).setCell _ _).setCell _ _).setCell _ _)=W9
    intro hO9 hk9
    obtain ⟨⟨q0,q1,q2,q3,q4,q5,q6,q7,q8⟩,_⟩:=hO9.all9
    refine bodyPost_ret (v:=.agg #[.int .i64 b0,.string v1,.int .i64 b2,.int .i64 b3,.int .i64 b4,.int .i64 b5,.int .i64 b6,.int .i64 b7,.slice V8 k8 j8]) (by simp [results,Tryd.results24,go_sem,q0,q1,q2,q3,q4,q5,q6,q7,q8]) rfl ?_
    exact ⟨_,rfl,Below.grown (HB2.out) hk9 (HB2.out).size (fun j hj=>by cases hj;exact HG2.out),[.int .i64 b0,.string v1,.int .i64 b2,.int .i64 b3,.int .i64 b4,.int .i64 b5,.int .i64 b6,.int .i64 b7,.slice V8 k8 j8],rfl,by rw [HS2.out];exact (RegAt.atg (HRY.out) hk9 HNn.out).wider fun g hg _=>HNw.out g hg⟩
   by_cases h0:kx=0
   ·
    subst h0
    have HS2:Hid (Qy.smp (Qy.kidsR 6 kids)=Qy.nothingR):=Lib.hid (by
     have h8:=HKK.out.1
     rw [HSM.out];unfold Qy.notP;rw [if_neg (by omega),if_pos h8])
    obtain ⟨⟨e0,e1,e2,e3,e4,e5,e6,e7,e8⟩,f0,f1,f2,f3,f4,f5,f6,f7,f8⟩:=(HQ2.out).all9
    go_wp2_with fail
    obtain ⟨hO9,hk9⟩:=(HQ2.out).put9 (x0:=.int .i64 5) (x1:=.string ⟨#[]⟩) (x2:=.int .i64 0) (x3:=.int .i64 0) (x4:=.int .i64 0) (x5:=.int .i64 0) (x6:=.int .i64 0) (x7:=.int .i64 0) (x8:=.slice none 0 0)
    clear e0 e1 e2 e3 e4 e5 e6 e7 e8 f0 f1 f2 f3 f4 f5 f6 f7 f8
    revert hO9 hk9
    generalize (((((((((W2.setCell _ _).setCell _ _).setCell _ _).setCell _ _).setCell _ _).setCell _ _).setCell _ _).setCell _ _).setCell _ _)=W9
    intro hO9 hk9
    obtain ⟨⟨q0,q1,q2,q3,q4,q5,q6,q7,q8⟩,_⟩:=hO9.all9
    refine bodyPost_ret (v:=.agg #[.int .i64 5,.string ⟨#[]⟩,.int .i64 0,.int .i64 0,.int .i64 0,.int .i64 0,.int .i64 0,.int .i64 0,.slice none 0 0]) (by simp [results,Tryd.results24,go_sem,q0,q1,q2,q3,q4,q5,q6,q7,q8]) rfl ?_
    exact ⟨_,rfl,Below.grown (HB2.out) hk9 (HB2.out).size (fun j hj=>by cases hj;exact HG2.out),[.int .i64 5,.string ⟨#[]⟩,.int .i64 0,.int .i64 0,.int .i64 0,.int .i64 0,.int .i64 0,.int .i64 0,.slice none 0 0],rfl,by rw [HS2.out];exact nothing_reg _ _⟩
   by_cases h5:kx=5∧lx=0
   ·
    obtain ⟨h5,hl0⟩:=h5
    subst h5
    subst hl0
    have HS2:Hid (Qy.smp (Qy.kidsR 6 kids)=Qy.wholeR):=Lib.hid (by
     have h8:=HKK.out
     rw [HSM.out];unfold Qy.notP;rw [if_neg (by omega),if_neg (by omega),if_pos (by unfold Qy.nothingB;rw [h8.1,h8.2];rfl)])
    obtain ⟨⟨e0,e1,e2,e3,e4,e5,e6,e7,e8⟩,f0,f1,f2,f3,f4,f5,f6,f7,f8⟩:=(HQ2.out).all9
    go_wp2_with fail
    obtain ⟨hO9,hk9⟩:=(HQ2.out).put9 (x0:=.int .i64 0) (x1:=.string ⟨#[]⟩) (x2:=.int .i64 0) (x3:=.int .i64 0) (x4:=.int .i64 0) (x5:=.int .i64 0) (x6:=.int .i64 0) (x7:=.int .i64 0) (x8:=.slice none 0 0)
    clear e0 e1 e2 e3 e4 e5 e6 e7 e8 f0 f1 f2 f3 f4 f5 f6 f7 f8
    revert hO9 hk9
    generalize (((((((((W2.setCell _ _).setCell _ _).setCell _ _).setCell _ _).setCell _ _).setCell _ _).setCell _ _).setCell _ _).setCell _ _)=W9
    intro hO9 hk9
    obtain ⟨⟨q0,q1,q2,q3,q4,q5,q6,q7,q8⟩,_⟩:=hO9.all9
    refine bodyPost_ret (v:=.agg #[.int .i64 0,.string ⟨#[]⟩,.int .i64 0,.int .i64 0,.int .i64 0,.int .i64 0,.int .i64 0,.int .i64 0,.slice none 0 0]) (by simp [results,Tryd.results24,go_sem,q0,q1,q2,q3,q4,q5,q6,q7,q8]) rfl ?_
    exact ⟨_,rfl,Below.grown (HB2.out) hk9 (HB2.out).size (fun j hj=>by cases hj;exact HG2.out),[.int .i64 0,.string ⟨#[]⟩,.int .i64 0,.int .i64 0,.int .i64 0,.int .i64 0,.int .i64 0,.int .i64 0,.slice none 0 0],rfl,by rw [HS2.out];exact zcells_reg _ _⟩
   have HS2:Hid (Qy.smp (Qy.kidsR 6 kids)=Qy.kidsR 6 [sx]):=Lib.hid (by
    have h8:=HKK.out
    rw [HSM.out];unfold Qy.notP;rw [if_neg (by omega),if_neg (by omega),if_neg (by unfold Qy.nothingB;rw [h8.1,h8.2];simpa using h5)])
   by_cases h5a:kx=5
   ·
    subst h5a
    have hl0:¬ (lx:Int)=0:=by omega
    obtain ⟨⟨e0,e1,e2,e3,e4,e5,e6,e7,e8⟩,f0,f1,f2,f3,f4,f5,f6,f7,f8⟩:=(HQ2.out).all9
    go_wp2_with fail
    obtain ⟨hO9,hk9⟩:=(HQ2.out).put9 (x0:=.int .i64 6) (x1:=.string ⟨#[]⟩) (x2:=.int .i64 0) (x3:=.int .i64 0) (x4:=.int .i64 0) (x5:=.int .i64 0) (x6:=.int .i64 0) (x7:=.int .i64 0) (x8:=.slice (some ⟨gk,off,none⟩) 1 c3)
    clear e0 e1 e2 e3 e4 e5 e6 e7 e8 f0 f1 f2 f3 f4 f5 f6 f7 f8
    revert hO9 hk9
    generalize (((((((((W2.setCell _ _).setCell _ _).setCell _ _).setCell _ _).setCell _ _).setCell _ _).setCell _ _).setCell _ _).setCell _ _)=W9
    intro hO9 hk9
    obtain ⟨⟨q0,q1,q2,q3,q4,q5,q6,q7,q8⟩,_⟩:=hO9.all9
    refine bodyPost_ret (v:=.agg #[.int .i64 6,.string ⟨#[]⟩,.int .i64 0,.int .i64 0,.int .i64 0,.int .i64 0,.int .i64 0,.int .i64 0,.slice (some ⟨gk,off,none⟩) 1 c3]) (by simp [results,Tryd.results24,go_sem,q0,q1,q2,q3,q4,q5,q6,q7,q8]) rfl ?_
    exact ⟨_,rfl,Below.grown (HB2.out) hk9 (HB2.out).size (fun j hj=>by cases hj;exact HG2.out),[.int .i64 6,.string ⟨#[]⟩,.int .i64 0,.int .i64 0,.int .i64 0,.int .i64 0,.int .i64 0,.int .i64 0,.slice (some ⟨gk,off,none⟩) 1 c3],rfl,by rw [HS2.out];exact (RegAt.atg (kids_reg HK3.out rfl) hk9 HNn.out).wider fun g hg _=>HNw.out g hg⟩
   ·
    obtain ⟨⟨e0,e1,e2,e3,e4,e5,e6,e7,e8⟩,f0,f1,f2,f3,f4,f5,f6,f7,f8⟩:=(HQ2.out).all9
    go_wp2_with fail
    obtain ⟨hO9,hk9⟩:=(HQ2.out).put9 (x0:=.int .i64 6) (x1:=.string ⟨#[]⟩) (x2:=.int .i64 0) (x3:=.int .i64 0) (x4:=.int .i64 0) (x5:=.int .i64 0) (x6:=.int .i64 0) (x7:=.int .i64 0) (x8:=.slice (some ⟨gk,off,none⟩) 1 c3)
    clear e0 e1 e2 e3 e4 e5 e6 e7 e8 f0 f1 f2 f3 f4 f5 f6 f7 f8
    revert hO9 hk9
    generalize (((((((((W2.setCell _ _).setCell _ _).setCell _ _).setCell _ _).setCell _ _).setCell _ _).setCell _ _).setCell _ _).setCell _ _)=W9
    intro hO9 hk9
    obtain ⟨⟨q0,q1,q2,q3,q4,q5,q6,q7,q8⟩,_⟩:=hO9.all9
    refine bodyPost_ret (v:=.agg #[.int .i64 6,.string ⟨#[]⟩,.int .i64 0,.int .i64 0,.int .i64 0,.int .i64 0,.int .i64 0,.int .i64 0,.slice (some ⟨gk,off,none⟩) 1 c3]) (by simp [results,Tryd.results24,go_sem,q0,q1,q2,q3,q4,q5,q6,q7,q8]) rfl ?_
    exact ⟨_,rfl,Below.grown (HB2.out) hk9 (HB2.out).size (fun j hj=>by cases hj;exact HG2.out),[.int .i64 6,.string ⟨#[]⟩,.int .i64 0,.int .i64 0,.int .i64 0,.int .i64 0,.int .i64 0,.int .i64 0,.slice (some ⟨gk,off,none⟩) 1 c3],rfl,by rw [HS2.out];exact (RegAt.atg (kids_reg HK3.out rfl) hk9 HNn.out).wider fun g hg _=>HNw.out g hg⟩
end Go.Proofs.YtmlpibdincfgbaaDoor
