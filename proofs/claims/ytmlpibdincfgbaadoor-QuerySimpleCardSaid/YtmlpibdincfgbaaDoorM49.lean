/-
  Chapter 38's reference: Simple, at 'and' and 'or'.
-/
import Derived.Test.YtmlpibdincfgbaaDoorM48
namespace Go.Proofs.YtmlpibdincfgbaaDoor
open Go.RowKit
set_option linter.unusedSimpArgs false
set_option linter.unusedVariables false
set_option maxRecDepth 100000 in
set_option maxHeartbeats 6400000 in
theorem rs_kids4 {n:Nat} (ih:RSimIH n) {kids:List Qy.Reg} (hn:Qy.nodesL kids≤n) (hn2:n≤400000) (hv:∀ x∈kids,Qy.nodeE x=0) (S:Nat→Prop) (cs:List Value) (w:World) (h:RegAt w S cs (Qy.kidsR 4 kids)):Calls Tryd.prog 24 #[.agg cs.toArray] w (SimP S w (Qy.kidsR 4 kids)):=by
 have HSM:Hid (Qy.smp (Qy.kidsR 4 kids)=Qy.fin 4 ((Qy.flatP 4 (kids.map Qy.smp)).foldl (Qy.addP 4) [])):=Lib.hid (Qy.smp_kids 4 kids (.inl rfl))
 obtain ⟨s1,n2,n3,n4,n5,n6,n7,A,c,rfl,hK⟩:=h.litk
 have hK:KidsAt w S A 0 kids:=hK
 rw [show (Qy.kidsR 4 kids).kind=4 from rfl,show (Qy.kidsR 4 kids).kids.length=kids.length from rfl]
 have hml:=Qy.len_nodesL kids
 obtain ⟨m,hm⟩:∃ m,kids.length=m:=⟨_,rfl⟩
 have HM:=Lib.hid hm
 rw [hm] at hml ⊢
 have hmb:m≤400000:=by omega
 have HK:=Lib.hid hK
 have HV:=Lib.hid (And.intro hv (And.intro hn hn2))
 have HIH:Hid (∀ R∈kids,∀ (cs:List Value) (u:World),RegAt u (fun g=>S g∧g<w.heap.size) cs R→Calls Tryd.prog 24 #[.agg cs.toArray] u (SimP (fun g=>S g∧g<w.heap.size) u R)):=Lib.hid fun R hR cs u h=>ih R (by have:=Qy.nodes_in1 hR;omega) (hv R hR) _ cs u h
 clear h hK hn hn2 hv ih hm hml
 go_enter Tryd.func24,Tryd.ntmps24
 go_upto_region 1 with fail
 refine wp_new2 fun W0 hA hQ hB=>?_
 obtain ⟨g2,hg2⟩:∃ g2,w.heap.size+1=g2:=⟨_,rfl⟩
 rw [hg2] at hQ ⊢
 have HG2:Hid (w.heap.size≤g2):=Lib.hid (by omega)
 obtain ⟨N,hN⟩:∃ N:Nat→Prop,N=fun g=>(S g∧g<w.heap.size)∨g2<g:=⟨_,rfl⟩
 have HN:Hid (∀ g,N g↔(S g∧g<w.heap.size)∨g2<g):=Lib.hid fun g=>by rw [hN]
 have HNn:Hid (¬ N g2):=Lib.hid fun h=>by rcases (HN.out g2).1 h with h | h <;> omega
 have HNw:Hid (∀ g,N g→S g∨w.heap.size≤g):=Lib.hid fun g h=>((HN.out g).1 h).imp (fun h=>h.1) fun h=>by omega
 have HZ2:Hid (g2<W0.heap.size):=Lib.hid hQ.lt
 have HB:=Lib.hid hB
 have HQ:=Lib.hid hQ
 have HA:=Lib.hid hA
 clear hN
 have hz1:=hA.lt
 obtain ⟨⟨y0,y1,y2,y3,y4,y5,y6,y7,y8⟩,_⟩:=hA.all9
 clear hA hQ hB
 have HGG:Hid (w.heap.size<g2):=Lib.hid (by omega)
 clear hg2
 go_wp2_with fail
 go_loopw [3,4] (fun s3 s4 wr=>∃ i:Nat,i≤m∧s4=.int .i64 (i:Int)∧Below w.heap.size w wr∧Own wr w.heap.size 42 [.int .i64 4,.string s1,.int .i64 n2,.int .i64 n3,.int .i64 n4,.int .i64 n5,.int .i64 n6,.int .i64 n7,.slice A m c]∧Own wr g2 42 [.int .i64 0,.string ⟨#[]⟩,.int .i64 0,.int .i64 0,.int .i64 0,.int .i64 0,.int .i64 0,.int .i64 0,.slice none 0 0]∧KRow 42 N wr s3 ((kids.take i).map Qy.smp)∧(∀ b,s3.ownBlock=some b→g2<b)) (fun _ s _=>m - (intOf s).toNat)
 case atStart=>exact ⟨0,Nat.zero_le _,rfl,HB.out,HA.out,HQ.out,KRow.nil _ _,fun b hb=>by cases hb⟩
 case round=>
  obtain ⟨i,hi,rfl,hB,hA,hQ,hrow,hrv⟩:=hrel
  clear HB HA HQ y0 y1 y2 y3 y4 y5 y6 y7 y8
  rcases Nat.lt_or_eq_of_le hi with hlt | heq
  ·
   have i0:(0:Int)≤(i:Int):=by omega
   have i1:(i:Int)<(m:Int):=by omega
   obtain ⟨Ri,hRi⟩:∃ R,kids[i]? = some R:=⟨_,List.getElem?_eq_getElem (by have:=HM.out;omega)⟩
   obtain ⟨gk,off,d0,t1,d2,d3,d4,d5,d6,d7,B8,l8,c8,rfl,hSg,hgl,⟨a0,a1,a2,a3,a4,a5,a6,a7,a8⟩,hR⟩:=HK.out.lit hRi
   have ce:∀ o,wr.cell? ⟨gk,o,none⟩=w.cell? ⟨gk,o,none⟩:=fun o=>World.cell?_of_block (a:=⟨gk,o,none⟩) (hB.block gk hgl)
   rw [← ce] at a0 a1 a2 a3 a4 a5 a6 a7 a8
   have hmem:=List.mem_of_getElem? hRi
   have HC:=Lib.hid (HIH.out Ri hmem [.int .i64 d0,.string t1,.int .i64 d2,.int .i64 d3,.int .i64 d4,.int .i64 d5,.int .i64 d6,.int .i64 d7,.slice B8 l8 c8] wr ((hR.wider fun g h1 h2=>⟨h1,h2⟩).on hB))
   have y8:wr.cell? ⟨w.heap.size,8,none⟩=some (.slice (some ⟨gk,off,none⟩) m c):=hA.cell 8
   have HT:Hid ((kids.take (i+1)).map Qy.smp=(kids.take i).map Qy.smp++[Qy.smp Ri]):=Lib.hid (by rw [List.take_add_one,hRi,List.map_append];rfl)
   have HS:=Lib.hid (And.intro hB (And.intro hA (And.intro hQ (And.intro hrow hrv))))
   have hg2r:=hQ.lt
   clear ce hRi hR hSg hgl hmem hB hA hQ hrow hrv
   go_wp2_with fail
   refine HC.out.mono ?_
   rintro e w1 ⟨v1,rfl,k1,cs1,rfl,hR1⟩
   obtain ⟨e0,f1,e2,e3,e4,e5,e6,e7,E8,q8,h8,rfl⟩:=hR1.lit11
   have kn:=below_new w1 (.cells #[.int .i64 e0,.string f1,.int .i64 e2,.int .i64 e3,.int .i64 e4,.int .i64 e5,.int .i64 e6,.int .i64 e7,.slice E8 q8 h8] 42)
   have hB6:Below w.heap.size w (w1.alloc (.cells #[.int .i64 e0,.string f1,.int .i64 e2,.int .i64 e3,.int .i64 e4,.int .i64 e5,.int .i64 e6,.int .i64 e7,.slice E8 q8 h8] 42)):=Below.call (Below.call HS.out.1 k1) kn
   have hown:∀ g,u3.ownBlock=some g→N g∧g<wr.heap.size:=HS.out.2.2.2.1.own
   have hR6:RegAt (w1.alloc (.cells #[.int .i64 e0,.string f1,.int .i64 e2,.int .i64 e3,.int .i64 e4,.int .i64 e5,.int .i64 e6,.int .i64 e7,.slice E8 q8 h8] 42)) (fun g=>N g∧u3.ownBlock≠some g) [.int .i64 e0,.string f1,.int .i64 e2,.int .i64 e3,.int .i64 e4,.int .i64 e5,.int .i64 e6,.int .i64 e7,.slice E8 q8 h8] (Qy.smp Ri):=RegAt.keep kn.size (fun g hg hl=>⟨⟨(HN.out g).2 (hg.imp id fun h=>by omega),fun e=>by
    have h1:=HS.out.2.2.2.2 g e
    have h2:=(hown g e).2
    have h3:=HGG.out
    rcases hg with h | h <;> omega⟩,kn.block g hl⟩) _ _ hR1
   have hrow6:=(HS.out.2.2.2.1.on k1).on kn
   have HOn:=own_news (Own.new w1 42 [.int .i64 e0,.string f1,.int .i64 e2,.int .i64 e3,.int .i64 e4,.int .i64 e5,.int .i64 e6,.int .i64 e7,.slice E8 q8 h8])
   have one9:=(reg_one9 hR1).2
   have hnew6:N (w1.alloc (.cells #[.int .i64 e0,.string f1,.int .i64 e2,.int .i64 e3,.int .i64 e4,.int .i64 e5,.int .i64 e6,.int .i64 e7,.slice E8 q8 h8] 42)).heap.size:=(HN.out _).2 (.inr (by have h1:=k1.size;have h2:=kn.size;omega))
   have hsz7:g2<w1.heap.size:=by have h1:=k1.size;omega
   have hsz6:w.heap.size≤w1.heap.size:=by have h1:=k1.size;have h2:=HS.out.1.size;omega
   have hlen:((kids.take i).map Qy.smp).length=i:=by rw [List.length_map,List.length_take];have:=HM.out;omega
   obtain ⟨css,q1,q2,q4,q3⟩:=hrow6
   have HX:=Lib.hid (And.intro ((HS.out.2.1.on k1).on kn) (And.intro ((HS.out.2.2.1.on k1).on kn) (And.intro hnew6 hB6)))
   clear kn hB6 hown hR1 hnew6 k1 a0 a1 a2 a3 a4 a5 a6 a7 a8 y8
   obtain ⟨i0_,hi_,hz0,hz1,hz2⟩:=info_parts reg_infoP
   rw [hlen] at q2
   go_wp2_with (at_builtin;refine wpList_pushO _ rfl _ _ 40 rfl 42 i0_ (.agg #[.int .i64 0,.string ⟨#[]⟩,.int .i64 0,.int .i64 0,.int .i64 0,.int .i64 0,.int .i64 0,.int .i64 0,.slice none 0 0]) 9 96 Tryd.underlying40 hi_ hz0 hz1 hz2 rfl (by decide) 0 _ _ _ rfl q2 ⟨w1.heap.size,0,none⟩ 1 [.int .i64 e0,.string f1,.int .i64 e2,.int .i64 e3,.int .i64 e4,.int .i64 e5,.int .i64 e6,.int .i64 e7,.slice E8 q8 h8] rfl rfl HOn one9 ?c4 ?c5 (Nat.zero_le _) ?_)
   case c4=>unfold maxLen;omega
   case c5=>omega
   intro v7 w7 hrow3 hgrow hv7
   rw [← hlen] at hrow3
   have hrow4:=KRow.push2 q1 q4 q3 rfl hR6 HX.out.2.2.1 hrow3 hgrow (hv7.imp id fun e=>e.trans (by simp))
   rw [← HT.out] at hrow4
   have hv8:∀ b,v7.ownBlock=some b→g2<b:=fun b hb=>by
    rcases hv7 with e | e
    ·exact HS.out.2.2.2.2 b (e.symm.trans hb)
    ·rw [e] at hb
     cases hb
     omega
   have hA7:=HX.out.1.grown hgrow (fun e=>by have h1:=HS.out.2.2.2.2 _ e.symm;have h2:=HGG.out;omega)
   have hQ7:=HX.out.2.1.grown hgrow (fun e=>by have h1:=HS.out.2.2.2.2 _ e.symm;omega)
   have hB7:Below w.heap.size w w7:=Below.grown HX.out.2.2.2 hgrow HX.out.2.2.2.size (fun j hj=>by have h1:=HS.out.2.2.2.2 _ hj;have h2:=HGG.out;omega)
   have HF:=Lib.hid (And.intro hB7 (And.intro hA7 (And.intro hQ7 (And.intro hrow4 hv8))))
   clear hrow4 hrow3 hgrow hv7 hv8 hA7 hQ7 hB7 q1 q2 q3 q4 hR6 HOn one9 hlen hsz6 hsz7 hi_ hz0 hz1 hz2
   clear i0_
   go_wp2_with fail
   go_roundw
   case rel=>exact ⟨i+1,by omega,by go_num,HF.out⟩
   case measure=>simp [intOf];omega
  ·
   have i1:¬ (i:Int)<(m:Int):=by omega
   have hks:(kids.take i).map Qy.smp=kids.map Qy.smp:=by rw [List.take_of_length_le (by have:=HM.out;omega)]
   rw [hks] at hrow
   have y0:=hA.cell 0
   have y8:=hA.cell 8
   obtain ⟨ks,hkse⟩:∃ ks,kids.map Qy.smp=ks:=⟨_,rfl⟩
   have HKs:Hid (ks.length=m∧Qy.nodesL ks≤400000∧∀ x∈ks,Qy.nodeE x=0):=Lib.hid (by
    subst hkse
    have h1:=smps_nodes HV.out.1
    have h2:=HV.out.2
    refine ⟨by rw [List.length_map];exact HM.out,by omega,fun x hx=>?_⟩
    obtain ⟨y,hy,rfl⟩:=List.mem_map.1 hx
    exact (Qy.smp_good _ y (Nat.le_refl _) (HV.out.1 y hy)).2.1)
   rw [hkse] at hrow
   obtain ⟨A3,c3,hv3,hK3⟩:=hrow.kids
   rw [HKs.out.1] at hv3
   subst hv3
   have HS:=Lib.hid (And.intro hB (And.intro hA (And.intro hQ hK3)))
   clear hks heq hrow hrv hB hA hQ hK3 HIH HK
   rw [hkse] at HSM
   clear hkse
   obtain ⟨B1,hB1⟩:∃ B,wr.heap.size=B:=⟨_,rfl⟩
   have HB1:Hid (g2<B1):=Lib.hid (by rw [← hB1];exact HS.out.2.2.1.lt)
   have HNB:Hid (∀ g,B1≤g→N g):=Lib.hid fun g hg=>(HN.out g).2 (.inr (by have:=HB1.out;omega))
   have HK3:Hid (∀ wz,Below B1 wr wz→KidsAt wz (fun g=>N g∧g<B1) A3 0 ks):=Lib.hid fun wz k=>KidsAt.keep k.size (fun g hg hl=>⟨⟨hg,by omega⟩,k.block g (by omega)⟩) _ _ _ HS.out.2.2.2
   have HAz:Hid (∀ wz,Below B1 wr wz→Own wz w.heap.size 42 [.int .i64 4,.string s1,.int .i64 n2,.int .i64 n3,.int .i64 n4,.int .i64 n5,.int .i64 n6,.int .i64 n7,.slice A m c]):=Lib.hid fun wz k=>HS.out.2.1.below k (by have h1:=HB1.out;have h2:=HGG.out;omega)
   have HQz:Hid (∀ wz,Below B1 wr wz→Own wz g2 42 [.int .i64 0,.string ⟨#[]⟩,.int .i64 0,.int .i64 0,.int .i64 0,.int .i64 0,.int .i64 0,.int .i64 0,.slice none 0 0]):=Lib.hid fun wz k=>HS.out.2.2.1.below k (by have h1:=HB1.out;omega)
   have HBz:Hid (∀ wz,Below B1 wr wz→Below w.heap.size w wz):=Lib.hid fun wz k=>Below.call HS.out.1 (by rw [hB1];exact k)
   have HW1:=Lib.hid hB1
   have hwz:B1≤wr.heap.size:=by omega
   clear hB1 HS hi
   obtain ⟨wL,hwL⟩:∃ u,u=wr:=⟨_,rfl⟩
   rw [← hwL] at y0 y8 HW1 HK3 HAz HQz HBz hwz ⊢
   clear hwL
   go_wp2_with fail
   go_loopw [6,7] (fun s6 s7 wr=>∃ i:Nat,i≤m∧s7=.int .i64 (i:Int)∧KR 42 N B1 wr s6 (Qy.flatP 4 (ks.take i))∧Below B1 wL wr) (fun _ s _=>m - (intOf s).toNat)
   case atStart=>exact ⟨0,Nat.zero_le _,rfl,KR.nil,Below.refl _ _⟩
   case round=>
    obtain ⟨i,hi,rfl,hrow,hB⟩:=hrel
    clear y0 y8
    have HS:=Lib.hid (And.intro hrow hB)
    have hzr:B1≤wr.heap.size:=Nat.le_trans hwz hB.size
    clear hrow
    rcases Nat.lt_or_eq_of_le hi with hlt | heq
    ·
     have i0:(0:Int)≤(i:Int):=Int.natCast_nonneg i
     have i1:(i:Int)<(m:Int):=by omega
     have HI:=Lib.hid (And.intro i0 i1)
     obtain ⟨sx,hsx⟩:∃ R,ks[i]? = some R:=⟨_,List.getElem?_eq_getElem (by have:=HKs.out.1;omega)⟩
     obtain ⟨gk,off,t1,d2,d3,d4,d5,d6,d7,B8,c8,rfl,_,hgl,⟨a0,a1,a2,a3,a4,a5,a6,a7,a8⟩,hRx,hKx⟩:=(HK3.out wr hB).litk hsx
     have hst:=flat_step (K:=4) hsx
     have hfl:=flat_take_le 4 ks i
     have hxn:sx.kids.length≤400000:=by
      have h1:=Qy.nodes_in1 (List.mem_of_getElem? hsx)
      have h2:=Qy.nodes_of_kids sx
      have h3:=Qy.len_nodesL sx.kids
      have h4:=HKs.out.2.1
      omega
     have hfl2:(Qy.flatP 4 (ks.take i)).length≤400000:=by have:=HKs.out.2.1;omega
     obtain ⟨kx,hkx⟩:∃ k,sx.kind=k:=⟨_,rfl⟩
     obtain ⟨lx,hlx⟩:∃ m,sx.kids.length=m:=⟨_,rfl⟩
     rw [hkx] at a0
     rw [hlx] at a8
     rw [hkx,hlx] at hRx
     rw [hlx] at hxn
     have y0:wr.cell? ⟨w.heap.size,0,none⟩=some (.int .i64 4):=(HAz.out wr hB).cell 0
     have hyl:=(HAz.out wr hB).lt
     have HR:=Lib.hid (And.intro hRx (And.intro hKx (And.intro hlx hkx)))
     have HST:=Lib.hid hst
     clear hst hfl hRx hKx hsx hi
     by_cases hk:kx=4
     ·
      subst hk
      have HE:Hid ((∀ wz,Below wr.heap.size wr wz→wz.cell? ⟨gk,off+i * 9,none⟩=some (.int .i64 4))∧(∀ wz,Below wr.heap.size wr wz→wz.cell? ⟨w.heap.size,0,none⟩=some (.int .i64 4))∧True):=Lib.hid ⟨fun wz k=>(k.cell (p:=⟨gk,off+i * 9,none⟩) hgl).trans a0,fun wz k=>(k.cell (p:=⟨w.heap.size,0,none⟩) hyl).trans y0,trivial⟩
      go_upto_region 21 with fail
      refine wp_region_specs wr [Spec.eq (.slice (some ⟨gk,off,none⟩) m c3),Spec.eq (.int .i64 (i:Int)),Spec.eq (.pointer (some ⟨gk,off+i * 9,none⟩)),Spec.eq (.pointer (some ⟨gk,off+i * 9,none⟩)),Spec.eq (.int .i64 4),Spec.eq (.pointer (some ⟨w.heap.size,0,none⟩)),Spec.eq (.int .i64 4),Spec.eq (.bool true)]
       (by kernel_rfl) (by kernel_rfl) rfl (by kernel_rfl) (Below.drew (Below.refl _ _)) ?_ ?_
      ·
       refine RegSteps.cons ?_ ?_
       ·intro _ az wz hC hF hD _ K hK
        have q3:az.tmps[3]? = some (.slice (some ⟨gk,off,none⟩) m c3):=hF 3 rfl
        clear hF hD
        refine want_none rfl ?_
        go_simp
        exact hK _ _ hC (Below.refl _ _) rfl
       refine RegSteps.cons ?_ ?_
       ·intro _ az wz hC hF hD _ K hK
        have q7:az.tmps[7]? = some (.int .i64 (i:Int)):=hF 7 rfl
        clear hF hD
        refine want_none rfl ?_
        go_simp
        exact hK _ _ hC (Below.refl _ _) rfl
       refine RegSteps.cons ?_ ?_
       ·intro _ az wz hC hF hD _ K hK
        obtain ⟨_,q66,rfl⟩:=dep hD 0 rfl rfl rfl rfl
        obtain ⟨_,q67,rfl⟩:=dep hD 1 rfl rfl rfl rfl
        have i0_:=HI.out.1
        have i1_:=HI.out.2
        clear hF hD
        refine want_none rfl ?_
        go_simp
        exact hK _ _ hC (Below.refl _ _) rfl
       refine RegSteps.cons ?_ ?_
       ·intro _ az wz hC hF hD _ K hK
        obtain ⟨_,q68,rfl⟩:=dep hD 2 rfl rfl rfl rfl
        clear hF hD
        refine want_none rfl ?_
        go_simp
        exact hK _ _ hC (Below.refl _ _) rfl
       refine RegSteps.cons ?_ ?_
       ·intro _ az wz hC hF hD _ K hK
        obtain ⟨_,q69,rfl⟩:=dep hD 3 rfl rfl rfl rfl
        have a0_:=HE.out.1 _ hC
        clear hF hD
        refine want_none rfl ?_
        go_simp
        exact hK _ _ hC (Below.refl _ _) rfl
       refine RegSteps.cons ?_ ?_
       ·intro _ az wz hC hF hD _ K hK
        have q1:az.tmps[1]? = some (.pointer (some ⟨w.heap.size,0,none⟩)):=hF 1 rfl
        clear hF hD
        refine want_none rfl ?_
        go_simp
        exact hK _ _ hC (Below.refl _ _) rfl
       refine RegSteps.cons ?_ ?_
       ·intro _ az wz hC hF hD _ K hK
        obtain ⟨_,q71,rfl⟩:=dep hD 5 rfl rfl rfl rfl
        have y0_:=HE.out.2.1 _ hC
        clear hF hD
        refine want_none rfl ?_
        go_simp
        exact hK _ _ hC (Below.refl _ _) rfl
       refine RegSteps.cons ?_ ?_
       ·intro _ az wz hC hF hD _ K hK
        obtain ⟨_,q70,rfl⟩:=dep hD 4 rfl rfl rfl rfl
        obtain ⟨_,q72,rfl⟩:=dep hD 6 rfl rfl rfl rfl
        clear hF hD
        refine want_none rfl ?_
        go_simp
        exact hK _ _ hC (Below.refl _ _) rfl
       exact RegSteps.nil
      intro w6 hC6
      rintro _ rfl _ rfl _ rfl _ rfl _ rfl _ rfl _ rfl _ rfl
      simp only [FinOK,Act.put,List.setIfInBounds_toArray,List.set_cons_zero,List.set_cons_succ]
      have a8':w6.cell? ⟨gk,off+i * 9+8,none⟩=some (.slice B8 lx c8):=(hC6.cell (p:=⟨gk,off+i * 9+8,none⟩) hgl).trans a8
      have hK6:=HR.out.2.1.on hC6
      have hrow6:=HS.out.1.on hC6
      have hB6:Below B1 wL w6:=HS.out.2.trans (hC6.mono hzr)
      have hz6:=Nat.le_trans hzr hC6.size
      have hlx:=HR.out.2.2.1
      have HX:=Lib.hid hB6
      clear a0 a1 a2 a3 a4 a5 a6 a7 a8 y0 hC6 hB6
      go_wp2_with (at_builtin;refine append_kids rfl _ _ rfl rfl hrow6 rfl hlx hK6 ?c4 hz6 ?_)
      case c4=>omega
      intro v7 w7 hrow7 hB7
      have HF:Hid (KR 42 N B1 w7 v7 (Qy.flatP 4 (ks.take (i+1)))∧Below B1 wL w7):=Lib.hid ⟨by rw [HST.out];unfold Qy.flat1;rw [if_pos HR.out.2.2.2];exact hrow7,HX.out.trans hB7⟩
      clear hrow7 hB7 hrow6 hK6 a8' hz6 hlx
      go_wp2_with fail
      go_roundw
      case rel=>exact ⟨i+1,by omega,by go_num,HF.out⟩
      case measure=>simp [intOf];omega
     ·
      have HE:Hid ((∀ wz,Below wr.heap.size wr wz→wz.cell? ⟨gk,off+i * 9,none⟩=some (.int .i64 kx))∧(∀ wz,Below wr.heap.size wr wz→wz.cell? ⟨w.heap.size,0,none⟩=some (.int .i64 4))∧¬ kx=4):=Lib.hid ⟨fun wz k=>(k.cell (p:=⟨gk,off+i * 9,none⟩) hgl).trans a0,fun wz k=>(k.cell (p:=⟨w.heap.size,0,none⟩) hyl).trans y0,hk⟩
      go_upto_region 21 with fail
      refine wp_region_specs wr [Spec.eq (.slice (some ⟨gk,off,none⟩) m c3),Spec.eq (.int .i64 (i:Int)),Spec.eq (.pointer (some ⟨gk,off+i * 9,none⟩)),Spec.eq (.pointer (some ⟨gk,off+i * 9,none⟩)),Spec.eq (.int .i64 kx),Spec.eq (.pointer (some ⟨w.heap.size,0,none⟩)),Spec.eq (.int .i64 4),Spec.eq (.bool false)]
       (by kernel_rfl) (by kernel_rfl) rfl (by kernel_rfl) (Below.drew (Below.refl _ _)) ?_ ?_
      ·
       refine RegSteps.cons ?_ ?_
       ·intro _ az wz hC hF hD _ K hK
        have q3:az.tmps[3]? = some (.slice (some ⟨gk,off,none⟩) m c3):=hF 3 rfl
        clear hF hD
        refine want_none rfl ?_
        go_simp
        exact hK _ _ hC (Below.refl _ _) rfl
       refine RegSteps.cons ?_ ?_
       ·intro _ az wz hC hF hD _ K hK
        have q7:az.tmps[7]? = some (.int .i64 (i:Int)):=hF 7 rfl
        clear hF hD
        refine want_none rfl ?_
        go_simp
        exact hK _ _ hC (Below.refl _ _) rfl
       refine RegSteps.cons ?_ ?_
       ·intro _ az wz hC hF hD _ K hK
        obtain ⟨_,q66,rfl⟩:=dep hD 0 rfl rfl rfl rfl
        obtain ⟨_,q67,rfl⟩:=dep hD 1 rfl rfl rfl rfl
        have i0_:=HI.out.1
        have i1_:=HI.out.2
        clear hF hD
        refine want_none rfl ?_
        go_simp
        exact hK _ _ hC (Below.refl _ _) rfl
       refine RegSteps.cons ?_ ?_
       ·intro _ az wz hC hF hD _ K hK
        obtain ⟨_,q68,rfl⟩:=dep hD 2 rfl rfl rfl rfl
        clear hF hD
        refine want_none rfl ?_
        go_simp
        exact hK _ _ hC (Below.refl _ _) rfl
       refine RegSteps.cons ?_ ?_
       ·intro _ az wz hC hF hD _ K hK
        obtain ⟨_,q69,rfl⟩:=dep hD 3 rfl rfl rfl rfl
        have a0_:=HE.out.1 _ hC
        clear hF hD
        refine want_none rfl ?_
        go_simp
        exact hK _ _ hC (Below.refl _ _) rfl
       refine RegSteps.cons ?_ ?_
       ·intro _ az wz hC hF hD _ K hK
        have q1:az.tmps[1]? = some (.pointer (some ⟨w.heap.size,0,none⟩)):=hF 1 rfl
        clear hF hD
        refine want_none rfl ?_
        go_simp
        exact hK _ _ hC (Below.refl _ _) rfl
       refine RegSteps.cons ?_ ?_
       ·intro _ az wz hC hF hD _ K hK
        obtain ⟨_,q71,rfl⟩:=dep hD 5 rfl rfl rfl rfl
        have y0_:=HE.out.2.1 _ hC
        clear hF hD
        refine want_none rfl ?_
        go_simp
        exact hK _ _ hC (Below.refl _ _) rfl
       refine RegSteps.cons ?_ ?_
       ·intro _ az wz hC hF hD _ K hK
        obtain ⟨_,q70,rfl⟩:=dep hD 4 rfl rfl rfl rfl
        obtain ⟨_,q72,rfl⟩:=dep hD 6 rfl rfl rfl rfl
        have hk_:(kx==4)=false:=by have:=HE.out.2.2;simpa using this
        clear hF hD
        refine want_none rfl ?_
        go_simp
        exact hK _ _ hC (Below.refl _ _) rfl
       exact RegSteps.nil
      intro w6 hC6
      rintro _ rfl _ rfl _ rfl _ rfl _ rfl _ rfl _ rfl _ rfl
      simp only [FinOK,Act.put,List.setIfInBounds_toArray,List.set_cons_zero,List.set_cons_succ]
      have b0:w6.cell? ⟨gk,off+i * 9,none⟩=_:=(hC6.cell (p:=⟨gk,off+i * 9,none⟩) hgl).trans a0
      have b1:w6.cell? ⟨gk,off+i * 9+1,none⟩=_:=(hC6.cell (p:=⟨gk,off+i * 9+1,none⟩) hgl).trans a1
      have b2:w6.cell? ⟨gk,off+i * 9+2,none⟩=_:=(hC6.cell (p:=⟨gk,off+i * 9+2,none⟩) hgl).trans a2
      have b3:w6.cell? ⟨gk,off+i * 9+3,none⟩=_:=(hC6.cell (p:=⟨gk,off+i * 9+3,none⟩) hgl).trans a3
      have b4:w6.cell? ⟨gk,off+i * 9+4,none⟩=_:=(hC6.cell (p:=⟨gk,off+i * 9+4,none⟩) hgl).trans a4
      have b5:w6.cell? ⟨gk,off+i * 9+5,none⟩=_:=(hC6.cell (p:=⟨gk,off+i * 9+5,none⟩) hgl).trans a5
      have b6:w6.cell? ⟨gk,off+i * 9+6,none⟩=_:=(hC6.cell (p:=⟨gk,off+i * 9+6,none⟩) hgl).trans a6
      have b7:w6.cell? ⟨gk,off+i * 9+7,none⟩=_:=(hC6.cell (p:=⟨gk,off+i * 9+7,none⟩) hgl).trans a7
      have b8:w6.cell? ⟨gk,off+i * 9+8,none⟩=_:=(hC6.cell (p:=⟨gk,off+i * 9+8,none⟩) hgl).trans a8
      have hR6:=HR.out.1.on hC6
      have hrow6:=HS.out.1.on hC6
      have hB6:Below B1 wL w6:=HS.out.2.trans (hC6.mono hzr)
      have hz6:=Nat.le_trans hzr hC6.size
      have HX:=Lib.hid hB6
      clear a0 a1 a2 a3 a4 a5 a6 a7 a8 y0 hC6 hB6
      go_wp2_with (at_builtin;refine push_kid (cs:=[.int .i64 kx,.string t1,.int .i64 d2,.int .i64 d3,.int .i64 d4,.int .i64 d5,.int .i64 d6,.int .i64 d7,.slice B8 lx c8]) (R:=sx) rfl _ _ rfl rfl hrow6 rfl hR6 ?c4 hz6 ?_)
      case c4=>omega
      intro v7 w7 hrow7 hB7
      have HF:Hid (KR 42 N B1 w7 v7 (Qy.flatP 4 (ks.take (i+1)))∧Below B1 wL w7):=Lib.hid ⟨by rw [HST.out];unfold Qy.flat1;rw [if_neg (by rw [HR.out.2.2.2];exact hk)];exact hrow7,HX.out.trans hB7⟩
      clear hrow7 hB7 hrow6 hR6 b0 b1 b2 b3 b4 b5 b6 b7 b8 hz6
      go_wp2_with fail
      go_roundw
      case rel=>exact ⟨i+1,by omega,by go_num,HF.out⟩
      case measure=>simp [intOf];omega
    ·
     have i1:¬ (i:Int)<(m:Int):=by omega
     have hLT:ks.take i=ks:=List.take_of_length_le (by have:=HKs.out.1;omega)
     have hrow:=HS.out.1
     rw [hLT] at hrow
     have hfl:=flat_take_le 4 ks i
     have hfn:=Qy.flat_nodes 4 ks
     rw [hLT] at hfl
     obtain ⟨fl,hfle⟩:∃ fl,Qy.flatP 4 ks=fl:=⟨_,rfl⟩
     rw [hfle] at hrow hfl hfn HSM
     have HFl:Hid (Qy.nodesL fl≤400000):=Lib.hid (by have:=HKs.out.2.1;omega)
     obtain ⟨A6,c6,hv6,hK6⟩:=(hrow.row HNB.out).kids
     obtain ⟨nf,hnf⟩:∃ n,fl.length=n:=⟨_,rfl⟩
     have HNF:=Lib.hid hnf
     rw [hnf] at hv6 hfl
     have hnfb:nf≤400000:=by have:=HKs.out.2.1;omega
     subst hv6
     have hBw:=HS.out.2
     obtain ⟨B2,hB2⟩:∃ B,wr.heap.size=B:=⟨_,rfl⟩
     have HB2:Hid (B1≤B2):=Lib.hid (by omega)
     have HK4:Hid (∀ wz,Below B2 wr wz→KidsAt wz (fun g=>N g∧g<B2) A6 0 fl):=Lib.hid fun wz k=>KidsAt.keep k.size (fun g hg hl=>⟨⟨hg,by omega⟩,k.block g (by omega)⟩) _ _ _ hK6
     have HBy:Hid (∀ wz,Below B2 wr wz→Below B1 wL wz):=Lib.hid fun wz k=>hBw.trans (k.mono HB2.out)
     have HW2:=Lib.hid hB2
     have hwz2:B2≤wr.heap.size:=by omega
     clear hB2 HS heq hrow hLT hfle hK6 hBw hfn hfl hnf hi hzr hB
     obtain ⟨wM,hwM⟩:∃ u,u=wr:=⟨_,rfl⟩
     rw [← hwM] at HW2 HK4 HBy hwz2 ⊢
     clear hwM
     go_wp2_with fail
     go_loopw [8,9] (fun s8 s9 wr=>∃ i:Nat,i≤nf∧s9=.int .i64 (i:Int)∧KRow 42 N wr s8 ((fl.take i).foldl (Qy.addP 4) [])∧(∀ b,s8.ownBlock=some b→B2≤b)∧(fl.take i).any Qy.nothingB=false∧Below B2 wM wr) (fun _ s _=>nf - (intOf s).toNat)
     case atStart=>exact ⟨0,Nat.zero_le _,rfl,KRow.nil _ _,(fun b hb=>by cases hb),(by simp),Below.refl _ _⟩
     case round=>
      obtain ⟨i,hi,rfl,hrow,hrv,hno,hB⟩:=hrel
      have HS:=Lib.hid (And.intro hrow (And.intro hrv (And.intro hno hB)))
      have hzr:B2≤wr.heap.size:=Nat.le_trans hwz2 hB.size
      clear hrow hrv hno
      rcases Nat.lt_or_eq_of_le hi with hlt | heq
      ·
       have i0:(0:Int)≤(i:Int):=Int.natCast_nonneg i
       have i1:(i:Int)<(nf:Int):=by omega
       obtain ⟨sx,hsx⟩:∃ R,fl[i]? = some R:=⟨_,List.getElem?_eq_getElem (by have:=HNF.out;omega)⟩
       obtain ⟨gk,off,t1,d2,d3,d4,d5,d6,d7,B8,c8,rfl,_,hgl,⟨a0,a1,a2,a3,a4,a5,a6,a7,a8⟩,hRx,_⟩:=(HK4.out wr hB).litk hsx
       have hst:=fold_step (K:=4) hsx
       have hsn:=any_snoc (p:=Qy.nothingB) hsx
       have hhit:=any_hit (p:=Qy.nothingB) hsx
       have hac:=acc_take_le 4 fl i
       have hxn:=Qy.nodes_in1 (List.mem_of_getElem? hsx)
       have hsz:Hid (((fl.take i).foldl (Qy.addP 4) []).length≤1000000∧(∀ x∈(fl.take i).foldl (Qy.addP 4) [],Qy.nodes x≤1000000)∧Qy.nodes sx≤1000000):=Lib.hid (by
        have h1:=HFl.out
        have h2:=small_acc (acc:=(fl.take i).foldl (Qy.addP 4) []) (by omega)
        exact ⟨by omega,h2.2,by omega⟩)
       rw [HS.out.2.2.1,Bool.false_or] at hsn
       have HST:=Lib.hid (And.intro hst (And.intro hsn hhit))
       obtain ⟨kx,hkx⟩:∃ k,sx.kind=k:=⟨_,rfl⟩
       obtain ⟨lx,hlx⟩:∃ m,sx.kids.length=m:=⟨_,rfl⟩
       rw [hkx] at a0
       rw [hlx] at a8
       rw [hkx,hlx] at hRx
       have HR:=Lib.hid (And.intro hRx (And.intro hlx hkx))
       clear hst hsn hhit hac hxn hRx hsx
       go_upto_region 29 with fail
       refine wp_new1 fun W2 hA2 k2=>?_
       obtain ⟨⟨x0,x1,x2,x3,x4,x5,x6,x7,x8⟩,_⟩:=hA2.all9
       have hBM:Below B2 wM W2:=HS.out.2.2.2.trans (k2.mono hzr)
       have HBM:=Lib.hid hBM
       have y0:W2.cell? ⟨w.heap.size,0,none⟩=some (.int .i64 4):=(HAz.out W2 (HBy.out W2 hBM)).cell 0
       have HA2:=Lib.hid hA2
       have hPut:Hid (Calls Tryd.prog 46 #[u8,.agg #[.int .i64 kx,.string t1,.int .i64 d2,.int .i64 d3,.int .i64 d4,.int .i64 d5,.int .i64 d6,.int .i64 d7,.slice B8 lx c8]] W2 (PutP N W2 u8 ((fl.take i).foldl (Qy.addP 4) []) sx)):=Lib.hid (put_any u8 _ sx [.int .i64 kx,.string t1,.int .i64 d2,.int .i64 d3,.int .i64 d4,.int .i64 d5,.int .i64 d6,.int .i64 d7,.slice B8 lx c8] W2 (HS.out.1.on k2) ((HR.out.1.on k2).wider fun g hg _=>⟨hg.1,fun e=>by have h1:=HS.out.2.1 g e;omega⟩) (fun g hg=>HNB.out g (by have h1:=HB2.out;have h2:=k2.size;omega)) hsz.out.1 hsz.out.2.1 hsz.out.2.2)
       clear a0 a1 a2 a3 a4 a5 a6 a7 a8 hgl hBM hA2
       have HKw:=Lib.hid k2
       have hzW:B2≤W2.heap.size:=Nat.le_trans hzr k2.size
       clear k2
       by_cases hn:kx=5∧lx=0
       ·
        obtain ⟨h5,h0⟩:=hn
        subst h5
        subst h0
        have HS2:Hid (Qy.smp (Qy.kidsR 4 kids)=Qy.nothingR):=Lib.hid (by
         rw [HSM.out]
         unfold Qy.fin
         rw [if_pos ⟨rfl,by rw [nothing_any_acc];exact HST.out.2.2 (by unfold Qy.nothingB;rw [HR.out.2.2,HR.out.2.1];rfl)⟩])
        have HQr:=Lib.hid (HQz.out W2 (HBy.out W2 HBM.out))
        have HBr:=Lib.hid (HBz.out W2 (HBy.out W2 HBM.out))
        obtain ⟨⟨e0,e1,e2,e3,e4,e5,e6,e7,e8⟩,f0,f1,f2,f3,f4,f5,f6,f7,f8⟩:=(HQr.out).all9
        go_wp2_with fail
        obtain ⟨hO9,hk9⟩:=(HQr.out).put9 (x0:=.int .i64 5) (x1:=.string ⟨#[]⟩) (x2:=.int .i64 0) (x3:=.int .i64 0) (x4:=.int .i64 0) (x5:=.int .i64 0) (x6:=.int .i64 0) (x7:=.int .i64 0) (x8:=.slice none 0 0)
        clear e0 e1 e2 e3 e4 e5 e6 e7 e8 f0 f1 f2 f3 f4 f5 f6 f7 f8
        revert hO9 hk9
        generalize (((((((((W2.setCell _ _).setCell _ _).setCell _ _).setCell _ _).setCell _ _).setCell _ _).setCell _ _).setCell _ _).setCell _ _)=W9
        intro hO9 hk9
        obtain ⟨⟨q0,q1,q2,q3,q4,q5,q6,q7,q8⟩,_⟩:=hO9.all9
        refine bodyPost_ret (v:=.agg #[.int .i64 5,.string ⟨#[]⟩,.int .i64 0,.int .i64 0,.int .i64 0,.int .i64 0,.int .i64 0,.int .i64 0,.slice none 0 0]) (by simp [results,Tryd.results24,go_sem,q0,q1,q2,q3,q4,q5,q6,q7,q8]) rfl ?_
        exact ⟨_,rfl,Below.grown (HBr.out) hk9 (HBr.out).size (fun j hj=>by cases hj;exact HG2.out),[.int .i64 5,.string ⟨#[]⟩,.int .i64 0,.int .i64 0,.int .i64 0,.int .i64 0,.int .i64 0,.int .i64 0,.slice none 0 0],rfl,by rw [HS2.out];exact nothing_reg _ _⟩
       have HNo:Hid (Qy.nothingB sx=false):=Lib.hid (by unfold Qy.nothingB;rw [HR.out.2.2,HR.out.2.1];simpa using hn)
       by_cases h5:kx=5
       ·
        subst h5
        have hl0:¬ (lx:Int)=0:=by omega
        go_wp2_with fail
        refine hPut.out.mono ?_
        rintro e w7 ⟨v7,rfl,hrow7,hg7,hv7⟩
        have hrv7:∀ b,v7.ownBlock=some b→B2≤b:=fun b hb=>(hv7 b hb).elim (HS.out.2.1 b) fun h=>Nat.le_trans hzW h
        have hB7:Below B2 wM w7:=Below.grown HBM.out hg7 hzW HS.out.2.1
        have HF:Hid (KRow 42 N w7 v7 ((fl.take (i+1)).foldl (Qy.addP 4) [])∧(∀ b,v7.ownBlock=some b→B2≤b)∧(fl.take (i+1)).any Qy.nothingB=false∧Below B2 wM w7):=Lib.hid ⟨by rw [HST.out.1,add_put4 (by rw [HR.out.2.2];omega)];exact hrow7,hrv7,by rw [HST.out.2.1];exact HNo.out,hB7⟩
        clear hrow7 hg7 hv7 hrv7 hB7 x0 x1 x2 x3 x4 x5 x6 x7 x8 y0
        go_wp2_with fail
        go_roundw
        case rel=>exact ⟨i+1,by omega,by go_num,HF.out⟩
        case measure=>simp [intOf];omega
       by_cases h0:kx=0
       ·
        subst h0
        have HF:Hid (KRow 42 N W2 u8 ((fl.take (i+1)).foldl (Qy.addP 4) [])∧(∀ b,u8.ownBlock=some b→B2≤b)∧(fl.take (i+1)).any Qy.nothingB=false∧Below B2 wM W2):=Lib.hid ⟨by rw [HST.out.1,add_skip4 HR.out.2.2];exact HS.out.1.on HKw.out,HS.out.2.1,by rw [HST.out.2.1];exact HNo.out,HBM.out⟩
        go_wp2_with fail
        go_roundw
        case rel=>exact ⟨i+1,by omega,by go_num,HF.out⟩
        case measure=>simp [intOf];omega
       ·
        go_wp2_with fail
        refine hPut.out.mono ?_
        rintro e w7 ⟨v7,rfl,hrow7,hg7,hv7⟩
        have hrv7:∀ b,v7.ownBlock=some b→B2≤b:=fun b hb=>(hv7 b hb).elim (HS.out.2.1 b) fun h=>Nat.le_trans hzW h
        have hB7:Below B2 wM w7:=Below.grown HBM.out hg7 hzW HS.out.2.1
        have HF:Hid (KRow 42 N w7 v7 ((fl.take (i+1)).foldl (Qy.addP 4) [])∧(∀ b,v7.ownBlock=some b→B2≤b)∧(fl.take (i+1)).any Qy.nothingB=false∧Below B2 wM w7):=Lib.hid ⟨by rw [HST.out.1,add_put4 (by rw [HR.out.2.2];exact h0)];exact hrow7,hrv7,by rw [HST.out.2.1];exact HNo.out,hB7⟩
        clear hrow7 hg7 hv7 hrv7 hB7 x0 x1 x2 x3 x4 x5 x6 x7 x8 y0
        go_wp2_with fail
        go_roundw
        case rel=>exact ⟨i+1,by omega,by go_num,HF.out⟩
        case measure=>simp [intOf];omega
      ·
       have i1:¬ (i:Int)<(nf:Int):=by omega
       have hLT:fl.take i=fl:=List.take_of_length_le (by have:=HNF.out;omega)
       have hrow:=HS.out.1
       have hno:=HS.out.2.2.1
       rw [hLT] at hrow hno
       have hac:=acc_take_le 4 fl i
       rw [hLT] at hac
       obtain ⟨acc,hacc⟩:∃ acc,fl.foldl (Qy.addP 4) []=acc:=⟨_,rfl⟩
       have hna:acc.any Qy.nothingB=false:=by rw [← hacc,nothing_any_acc];exact hno
       rw [hacc] at hrow hac HSM
       have hab:=Qy.len_nodesL acc
       obtain ⟨na,hnae⟩:∃ n,acc.length=n:=⟨_,rfl⟩
       have HNA:=Lib.hid (And.intro hnae hna)
       obtain ⟨A7,c7,hv7,hK7⟩:=hrow.kids
       rw [hnae] at hv7 hab
       have hnab:na≤400000:=by have:=HFl.out;omega
       subst hv7
       have y0:wr.cell? ⟨w.heap.size,0,none⟩=some (.int .i64 4):=(HAz.out wr (HBy.out wr hB)).cell 0
       have HQr:=Lib.hid (HQz.out wr (HBy.out wr hB))
       have HBr:=Lib.hid (HBz.out wr (HBy.out wr hB))
       have HK7:=Lib.hid hK7
       clear hLT hrow hno hac hacc hna hab hnae heq hB HS
       by_cases h1:na=1
       ·
        subst h1
        obtain ⟨R1,rfl⟩:∃ R,acc=[R]:=List.length_eq_one_iff.1 HNA.out.1
        have HS2:Hid (Qy.smp (Qy.kidsR 4 kids)=R1):=Lib.hid (by
         rw [HSM.out]
         have h9:=HNA.out.2
         unfold Qy.fin
         rw [if_neg (by rw [h9];simp),if_neg (by simp)]
         rfl)
        obtain ⟨gy,of2,b0,v1,b2,b3,b4,b5,b6,b7,V8,k8,j8,rfl,_,hgl,⟨a0,a1,a2,a3,a4,a5,a6,a7,a8⟩,hRy⟩:=HK7.out.lit (i:=0) (R:=R1) rfl
        simp only [Nat.zero_mul,Nat.add_zero] at a0 a1 a2 a3 a4 a5 a6 a7 a8
        have HRY:=Lib.hid hRy
        clear hRy hgl
        obtain ⟨⟨e0,e1,e2,e3,e4,e5,e6,e7,e8⟩,f0,f1,f2,f3,f4,f5,f6,f7,f8⟩:=(HQr.out).all9
        go_wp2_with fail
        obtain ⟨hO9,hk9⟩:=(HQr.out).put9 (x0:=.int .i64 b0) (x1:=.string v1) (x2:=.int .i64 b2) (x3:=.int .i64 b3) (x4:=.int .i64 b4) (x5:=.int .i64 b5) (x6:=.int .i64 b6) (x7:=.int .i64 b7) (x8:=.slice V8 k8 j8)
        clear e0 e1 e2 e3 e4 e5 e6 e7 e8 f0 f1 f2 f3 f4 f5 f6 f7 f8
        revert hO9 hk9
        generalize (((((((((wr.setCell _ _).setCell _ _).setCell _ _).setCell _ _).setCell _ _).setCell _ _).setCell _ _).setCell _ _).setCell _ _)=W9
        intro hO9 hk9
        obtain ⟨⟨q0,q1,q2,q3,q4,q5,q6,q7,q8⟩,_⟩:=hO9.all9
        refine bodyPost_ret (v:=.agg #[.int .i64 b0,.string v1,.int .i64 b2,.int .i64 b3,.int .i64 b4,.int .i64 b5,.int .i64 b6,.int .i64 b7,.slice V8 k8 j8]) (by simp [results,Tryd.results24,go_sem,q0,q1,q2,q3,q4,q5,q6,q7,q8]) rfl ?_
        exact ⟨_,rfl,Below.grown (HBr.out) hk9 (HBr.out).size (fun j hj=>by cases hj;exact HG2.out),[.int .i64 b0,.string v1,.int .i64 b2,.int .i64 b3,.int .i64 b4,.int .i64 b5,.int .i64 b6,.int .i64 b7,.slice V8 k8 j8],rfl,by rw [HS2.out];exact (RegAt.atg (HRY.out) hk9 HNn.out).wider fun g hg _=>HNw.out g hg⟩
       by_cases h0:na=0
       ·
        subst h0
        have HS2:Hid (Qy.smp (Qy.kidsR 4 kids)=Qy.wholeR):=Lib.hid (by
         rw [HSM.out]
         have h9:=HNA.out
         unfold Qy.fin
         rw [if_neg (by rw [h9.2];simp),if_pos (.inr ⟨rfl,h9.1⟩)])
        obtain ⟨⟨e0,e1,e2,e3,e4,e5,e6,e7,e8⟩,f0,f1,f2,f3,f4,f5,f6,f7,f8⟩:=(HQr.out).all9
        go_wp2_with fail
        obtain ⟨hO9,hk9⟩:=(HQr.out).put9 (x0:=.int .i64 0) (x1:=.string ⟨#[]⟩) (x2:=.int .i64 0) (x3:=.int .i64 0) (x4:=.int .i64 0) (x5:=.int .i64 0) (x6:=.int .i64 0) (x7:=.int .i64 0) (x8:=.slice none 0 0)
        clear e0 e1 e2 e3 e4 e5 e6 e7 e8 f0 f1 f2 f3 f4 f5 f6 f7 f8
        revert hO9 hk9
        generalize (((((((((wr.setCell _ _).setCell _ _).setCell _ _).setCell _ _).setCell _ _).setCell _ _).setCell _ _).setCell _ _).setCell _ _)=W9
        intro hO9 hk9
        obtain ⟨⟨q0,q1,q2,q3,q4,q5,q6,q7,q8⟩,_⟩:=hO9.all9
        refine bodyPost_ret (v:=.agg #[.int .i64 0,.string ⟨#[]⟩,.int .i64 0,.int .i64 0,.int .i64 0,.int .i64 0,.int .i64 0,.int .i64 0,.slice none 0 0]) (by simp [results,Tryd.results24,go_sem,q0,q1,q2,q3,q4,q5,q6,q7,q8]) rfl ?_
        exact ⟨_,rfl,Below.grown (HBr.out) hk9 (HBr.out).size (fun j hj=>by cases hj;exact HG2.out),[.int .i64 0,.string ⟨#[]⟩,.int .i64 0,.int .i64 0,.int .i64 0,.int .i64 0,.int .i64 0,.int .i64 0,.slice none 0 0],rfl,by rw [HS2.out];exact zcells_reg _ _⟩
       have h0':¬ (na:Int)=0:=by omega
       have h1':¬ (na:Int)=1:=by omega
       have HS2:Hid (Qy.smp (Qy.kidsR 4 kids)=Qy.kidsR 4 acc):=Lib.hid (by
        rw [HSM.out]
        have h9:=HNA.out
        unfold Qy.fin
        rw [if_neg (by rw [h9.2];simp),if_neg (by rw [h9.1];simpa using h0),if_neg (by omega)])
       obtain ⟨⟨e0,e1,e2,e3,e4,e5,e6,e7,e8⟩,f0,f1,f2,f3,f4,f5,f6,f7,f8⟩:=(HQr.out).all9
       go_wp2_with fail
       obtain ⟨hO9,hk9⟩:=(HQr.out).put9 (x0:=.int .i64 4) (x1:=.string ⟨#[]⟩) (x2:=.int .i64 0) (x3:=.int .i64 0) (x4:=.int .i64 0) (x5:=.int .i64 0) (x6:=.int .i64 0) (x7:=.int .i64 0) (x8:=.slice A7 na c7)
       clear e0 e1 e2 e3 e4 e5 e6 e7 e8 f0 f1 f2 f3 f4 f5 f6 f7 f8
       revert hO9 hk9
       generalize (((((((((wr.setCell _ _).setCell _ _).setCell _ _).setCell _ _).setCell _ _).setCell _ _).setCell _ _).setCell _ _).setCell _ _)=W9
       intro hO9 hk9
       obtain ⟨⟨q0,q1,q2,q3,q4,q5,q6,q7,q8⟩,_⟩:=hO9.all9
       refine bodyPost_ret (v:=.agg #[.int .i64 4,.string ⟨#[]⟩,.int .i64 0,.int .i64 0,.int .i64 0,.int .i64 0,.int .i64 0,.int .i64 0,.slice A7 na c7]) (by simp [results,Tryd.results24,go_sem,q0,q1,q2,q3,q4,q5,q6,q7,q8]) rfl ?_
       exact ⟨_,rfl,Below.grown (HBr.out) hk9 (HBr.out).size (fun j hj=>by cases hj;exact HG2.out),[.int .i64 4,.string ⟨#[]⟩,.int .i64 0,.int .i64 0,.int .i64 0,.int .i64 0,.int .i64 0,.int .i64 0,.slice A7 na c7],rfl,by rw [HS2.out];exact (RegAt.atg (kids_reg HK7.out HNA.out.1) hk9 HNn.out).wider fun g hg _=>HNw.out g hg⟩
set_option maxRecDepth 100000 in
set_option maxHeartbeats 6400000 in
theorem rs_kids5 {n:Nat} (ih:RSimIH n) {kids:List Qy.Reg} (hn:Qy.nodesL kids≤n) (hn2:n≤400000) (hv:∀ x∈kids,Qy.nodeE x=0) (S:Nat→Prop) (cs:List Value) (w:World) (h:RegAt w S cs (Qy.kidsR 5 kids)):Calls Tryd.prog 24 #[.agg cs.toArray] w (SimP S w (Qy.kidsR 5 kids)):=by
 have HSM:Hid (Qy.smp (Qy.kidsR 5 kids)=Qy.fin 5 ((Qy.flatP 5 (kids.map Qy.smp)).foldl (Qy.addP 5) [])):=Lib.hid (Qy.smp_kids 5 kids (.inr rfl))
 obtain ⟨s1,n2,n3,n4,n5,n6,n7,A,c,rfl,hK⟩:=h.litk
 have hK:KidsAt w S A 0 kids:=hK
 rw [show (Qy.kidsR 5 kids).kind=5 from rfl,show (Qy.kidsR 5 kids).kids.length=kids.length from rfl]
 have hml:=Qy.len_nodesL kids
 obtain ⟨m,hm⟩:∃ m,kids.length=m:=⟨_,rfl⟩
 have HM:=Lib.hid hm
 rw [hm] at hml ⊢
 have hmb:m≤400000:=by omega
 have HK:=Lib.hid hK
 have HV:=Lib.hid (And.intro hv (And.intro hn hn2))
 have HIH:Hid (∀ R∈kids,∀ (cs:List Value) (u:World),RegAt u (fun g=>S g∧g<w.heap.size) cs R→Calls Tryd.prog 24 #[.agg cs.toArray] u (SimP (fun g=>S g∧g<w.heap.size) u R)):=Lib.hid fun R hR cs u h=>ih R (by have:=Qy.nodes_in1 hR;omega) (hv R hR) _ cs u h
 clear h hK hn hn2 hv ih hm hml
 go_enter Tryd.func24,Tryd.ntmps24
 go_upto_region 1 with fail
 refine wp_new2 fun W0 hA hQ hB=>?_
 obtain ⟨g2,hg2⟩:∃ g2,w.heap.size+1=g2:=⟨_,rfl⟩
 rw [hg2] at hQ ⊢
 have HG2:Hid (w.heap.size≤g2):=Lib.hid (by omega)
 obtain ⟨N,hN⟩:∃ N:Nat→Prop,N=fun g=>(S g∧g<w.heap.size)∨g2<g:=⟨_,rfl⟩
 have HN:Hid (∀ g,N g↔(S g∧g<w.heap.size)∨g2<g):=Lib.hid fun g=>by rw [hN]
 have HNn:Hid (¬ N g2):=Lib.hid fun h=>by rcases (HN.out g2).1 h with h | h <;> omega
 have HNw:Hid (∀ g,N g→S g∨w.heap.size≤g):=Lib.hid fun g h=>((HN.out g).1 h).imp (fun h=>h.1) fun h=>by omega
 have HZ2:Hid (g2<W0.heap.size):=Lib.hid hQ.lt
 have HB:=Lib.hid hB
 have HQ:=Lib.hid hQ
 have HA:=Lib.hid hA
 clear hN
 have hz1:=hA.lt
 obtain ⟨⟨y0,y1,y2,y3,y4,y5,y6,y7,y8⟩,_⟩:=hA.all9
 clear hA hQ hB
 have HGG:Hid (w.heap.size<g2):=Lib.hid (by omega)
 clear hg2
 go_wp2_with fail
 go_loopw [3,4] (fun s3 s4 wr=>∃ i:Nat,i≤m∧s4=.int .i64 (i:Int)∧Below w.heap.size w wr∧Own wr w.heap.size 42 [.int .i64 5,.string s1,.int .i64 n2,.int .i64 n3,.int .i64 n4,.int .i64 n5,.int .i64 n6,.int .i64 n7,.slice A m c]∧Own wr g2 42 [.int .i64 0,.string ⟨#[]⟩,.int .i64 0,.int .i64 0,.int .i64 0,.int .i64 0,.int .i64 0,.int .i64 0,.slice none 0 0]∧KRow 42 N wr s3 ((kids.take i).map Qy.smp)∧(∀ b,s3.ownBlock=some b→g2<b)) (fun _ s _=>m - (intOf s).toNat)
 case atStart=>exact ⟨0,Nat.zero_le _,rfl,HB.out,HA.out,HQ.out,KRow.nil _ _,fun b hb=>by cases hb⟩
 case round=>
  obtain ⟨i,hi,rfl,hB,hA,hQ,hrow,hrv⟩:=hrel
  clear HB HA HQ y0 y1 y2 y3 y4 y5 y6 y7 y8
  rcases Nat.lt_or_eq_of_le hi with hlt | heq
  ·
   have i0:(0:Int)≤(i:Int):=by omega
   have i1:(i:Int)<(m:Int):=by omega
   obtain ⟨Ri,hRi⟩:∃ R,kids[i]? = some R:=⟨_,List.getElem?_eq_getElem (by have:=HM.out;omega)⟩
   obtain ⟨gk,off,d0,t1,d2,d3,d4,d5,d6,d7,B8,l8,c8,rfl,hSg,hgl,⟨a0,a1,a2,a3,a4,a5,a6,a7,a8⟩,hR⟩:=HK.out.lit hRi
   have ce:∀ o,wr.cell? ⟨gk,o,none⟩=w.cell? ⟨gk,o,none⟩:=fun o=>World.cell?_of_block (a:=⟨gk,o,none⟩) (hB.block gk hgl)
   rw [← ce] at a0 a1 a2 a3 a4 a5 a6 a7 a8
   have hmem:=List.mem_of_getElem? hRi
   have HC:=Lib.hid (HIH.out Ri hmem [.int .i64 d0,.string t1,.int .i64 d2,.int .i64 d3,.int .i64 d4,.int .i64 d5,.int .i64 d6,.int .i64 d7,.slice B8 l8 c8] wr ((hR.wider fun g h1 h2=>⟨h1,h2⟩).on hB))
   have y8:wr.cell? ⟨w.heap.size,8,none⟩=some (.slice (some ⟨gk,off,none⟩) m c):=hA.cell 8
   have HT:Hid ((kids.take (i+1)).map Qy.smp=(kids.take i).map Qy.smp++[Qy.smp Ri]):=Lib.hid (by rw [List.take_add_one,hRi,List.map_append];rfl)
   have HS:=Lib.hid (And.intro hB (And.intro hA (And.intro hQ (And.intro hrow hrv))))
   have hg2r:=hQ.lt
   clear ce hRi hR hSg hgl hmem hB hA hQ hrow hrv
   go_wp2_with fail
   refine HC.out.mono ?_
   rintro e w1 ⟨v1,rfl,k1,cs1,rfl,hR1⟩
   obtain ⟨e0,f1,e2,e3,e4,e5,e6,e7,E8,q8,h8,rfl⟩:=hR1.lit11
   have kn:=below_new w1 (.cells #[.int .i64 e0,.string f1,.int .i64 e2,.int .i64 e3,.int .i64 e4,.int .i64 e5,.int .i64 e6,.int .i64 e7,.slice E8 q8 h8] 42)
   have hB6:Below w.heap.size w (w1.alloc (.cells #[.int .i64 e0,.string f1,.int .i64 e2,.int .i64 e3,.int .i64 e4,.int .i64 e5,.int .i64 e6,.int .i64 e7,.slice E8 q8 h8] 42)):=Below.call (Below.call HS.out.1 k1) kn
   have hown:∀ g,u3.ownBlock=some g→N g∧g<wr.heap.size:=HS.out.2.2.2.1.own
   have hR6:RegAt (w1.alloc (.cells #[.int .i64 e0,.string f1,.int .i64 e2,.int .i64 e3,.int .i64 e4,.int .i64 e5,.int .i64 e6,.int .i64 e7,.slice E8 q8 h8] 42)) (fun g=>N g∧u3.ownBlock≠some g) [.int .i64 e0,.string f1,.int .i64 e2,.int .i64 e3,.int .i64 e4,.int .i64 e5,.int .i64 e6,.int .i64 e7,.slice E8 q8 h8] (Qy.smp Ri):=RegAt.keep kn.size (fun g hg hl=>⟨⟨(HN.out g).2 (hg.imp id fun h=>by omega),fun e=>by
    have h1:=HS.out.2.2.2.2 g e
    have h2:=(hown g e).2
    have h3:=HGG.out
    rcases hg with h | h <;> omega⟩,kn.block g hl⟩) _ _ hR1
   have hrow6:=(HS.out.2.2.2.1.on k1).on kn
   have HOn:=own_news (Own.new w1 42 [.int .i64 e0,.string f1,.int .i64 e2,.int .i64 e3,.int .i64 e4,.int .i64 e5,.int .i64 e6,.int .i64 e7,.slice E8 q8 h8])
   have one9:=(reg_one9 hR1).2
   have hnew6:N (w1.alloc (.cells #[.int .i64 e0,.string f1,.int .i64 e2,.int .i64 e3,.int .i64 e4,.int .i64 e5,.int .i64 e6,.int .i64 e7,.slice E8 q8 h8] 42)).heap.size:=(HN.out _).2 (.inr (by have h1:=k1.size;have h2:=kn.size;omega))
   have hsz7:g2<w1.heap.size:=by have h1:=k1.size;omega
   have hsz6:w.heap.size≤w1.heap.size:=by have h1:=k1.size;have h2:=HS.out.1.size;omega
   have hlen:((kids.take i).map Qy.smp).length=i:=by rw [List.length_map,List.length_take];have:=HM.out;omega
   obtain ⟨css,q1,q2,q4,q3⟩:=hrow6
   have HX:=Lib.hid (And.intro ((HS.out.2.1.on k1).on kn) (And.intro ((HS.out.2.2.1.on k1).on kn) (And.intro hnew6 hB6)))
   clear kn hB6 hown hR1 hnew6 k1 a0 a1 a2 a3 a4 a5 a6 a7 a8 y8
   obtain ⟨i0_,hi_,hz0,hz1,hz2⟩:=info_parts reg_infoP
   rw [hlen] at q2
   go_wp2_with (at_builtin;refine wpList_pushO _ rfl _ _ 40 rfl 42 i0_ (.agg #[.int .i64 0,.string ⟨#[]⟩,.int .i64 0,.int .i64 0,.int .i64 0,.int .i64 0,.int .i64 0,.int .i64 0,.slice none 0 0]) 9 96 Tryd.underlying40 hi_ hz0 hz1 hz2 rfl (by decide) 0 _ _ _ rfl q2 ⟨w1.heap.size,0,none⟩ 1 [.int .i64 e0,.string f1,.int .i64 e2,.int .i64 e3,.int .i64 e4,.int .i64 e5,.int .i64 e6,.int .i64 e7,.slice E8 q8 h8] rfl rfl HOn one9 ?c4 ?c5 (Nat.zero_le _) ?_)
   case c4=>unfold maxLen;omega
   case c5=>omega
   intro v7 w7 hrow3 hgrow hv7
   rw [← hlen] at hrow3
   have hrow4:=KRow.push2 q1 q4 q3 rfl hR6 HX.out.2.2.1 hrow3 hgrow (hv7.imp id fun e=>e.trans (by simp))
   rw [← HT.out] at hrow4
   have hv8:∀ b,v7.ownBlock=some b→g2<b:=fun b hb=>by
    rcases hv7 with e | e
    ·exact HS.out.2.2.2.2 b (e.symm.trans hb)
    ·rw [e] at hb
     cases hb
     omega
   have hA7:=HX.out.1.grown hgrow (fun e=>by have h1:=HS.out.2.2.2.2 _ e.symm;have h2:=HGG.out;omega)
   have hQ7:=HX.out.2.1.grown hgrow (fun e=>by have h1:=HS.out.2.2.2.2 _ e.symm;omega)
   have hB7:Below w.heap.size w w7:=Below.grown HX.out.2.2.2 hgrow HX.out.2.2.2.size (fun j hj=>by have h1:=HS.out.2.2.2.2 _ hj;have h2:=HGG.out;omega)
   have HF:=Lib.hid (And.intro hB7 (And.intro hA7 (And.intro hQ7 (And.intro hrow4 hv8))))
   clear hrow4 hrow3 hgrow hv7 hv8 hA7 hQ7 hB7 q1 q2 q3 q4 hR6 HOn one9 hlen hsz6 hsz7 hi_ hz0 hz1 hz2
   clear i0_
   go_wp2_with fail
   go_roundw
   case rel=>exact ⟨i+1,by omega,by go_num,HF.out⟩
   case measure=>simp [intOf];omega
  ·
   have i1:¬ (i:Int)<(m:Int):=by omega
   have hks:(kids.take i).map Qy.smp=kids.map Qy.smp:=by rw [List.take_of_length_le (by have:=HM.out;omega)]
   rw [hks] at hrow
   have y0:=hA.cell 0
   have y8:=hA.cell 8
   obtain ⟨ks,hkse⟩:∃ ks,kids.map Qy.smp=ks:=⟨_,rfl⟩
   have HKs:Hid (ks.length=m∧Qy.nodesL ks≤400000∧∀ x∈ks,Qy.nodeE x=0):=Lib.hid (by
    subst hkse
    have h1:=smps_nodes HV.out.1
    have h2:=HV.out.2
    refine ⟨by rw [List.length_map];exact HM.out,by omega,fun x hx=>?_⟩
    obtain ⟨y,hy,rfl⟩:=List.mem_map.1 hx
    exact (Qy.smp_good _ y (Nat.le_refl _) (HV.out.1 y hy)).2.1)
   rw [hkse] at hrow
   obtain ⟨A3,c3,hv3,hK3⟩:=hrow.kids
   rw [HKs.out.1] at hv3
   subst hv3
   have HS:=Lib.hid (And.intro hB (And.intro hA (And.intro hQ hK3)))
   clear hks heq hrow hrv hB hA hQ hK3 HIH HK
   rw [hkse] at HSM
   clear hkse
   obtain ⟨B1,hB1⟩:∃ B,wr.heap.size=B:=⟨_,rfl⟩
   have HB1:Hid (g2<B1):=Lib.hid (by rw [← hB1];exact HS.out.2.2.1.lt)
   have HNB:Hid (∀ g,B1≤g→N g):=Lib.hid fun g hg=>(HN.out g).2 (.inr (by have:=HB1.out;omega))
   have HK3:Hid (∀ wz,Below B1 wr wz→KidsAt wz (fun g=>N g∧g<B1) A3 0 ks):=Lib.hid fun wz k=>KidsAt.keep k.size (fun g hg hl=>⟨⟨hg,by omega⟩,k.block g (by omega)⟩) _ _ _ HS.out.2.2.2
   have HAz:Hid (∀ wz,Below B1 wr wz→Own wz w.heap.size 42 [.int .i64 5,.string s1,.int .i64 n2,.int .i64 n3,.int .i64 n4,.int .i64 n5,.int .i64 n6,.int .i64 n7,.slice A m c]):=Lib.hid fun wz k=>HS.out.2.1.below k (by have h1:=HB1.out;have h2:=HGG.out;omega)
   have HQz:Hid (∀ wz,Below B1 wr wz→Own wz g2 42 [.int .i64 0,.string ⟨#[]⟩,.int .i64 0,.int .i64 0,.int .i64 0,.int .i64 0,.int .i64 0,.int .i64 0,.slice none 0 0]):=Lib.hid fun wz k=>HS.out.2.2.1.below k (by have h1:=HB1.out;omega)
   have HBz:Hid (∀ wz,Below B1 wr wz→Below w.heap.size w wz):=Lib.hid fun wz k=>Below.call HS.out.1 (by rw [hB1];exact k)
   have HW1:=Lib.hid hB1
   have hwz:B1≤wr.heap.size:=by omega
   clear hB1 HS hi
   obtain ⟨wL,hwL⟩:∃ u,u=wr:=⟨_,rfl⟩
   rw [← hwL] at y0 y8 HW1 HK3 HAz HQz HBz hwz ⊢
   clear hwL
   go_wp2_with fail
   go_loopw [6,7] (fun s6 s7 wr=>∃ i:Nat,i≤m∧s7=.int .i64 (i:Int)∧KR 42 N B1 wr s6 (Qy.flatP 5 (ks.take i))∧Below B1 wL wr) (fun _ s _=>m - (intOf s).toNat)
   case atStart=>exact ⟨0,Nat.zero_le _,rfl,KR.nil,Below.refl _ _⟩
   case round=>
    obtain ⟨i,hi,rfl,hrow,hB⟩:=hrel
    clear y0 y8
    have HS:=Lib.hid (And.intro hrow hB)
    have hzr:B1≤wr.heap.size:=Nat.le_trans hwz hB.size
    clear hrow
    rcases Nat.lt_or_eq_of_le hi with hlt | heq
    ·
     have i0:(0:Int)≤(i:Int):=Int.natCast_nonneg i
     have i1:(i:Int)<(m:Int):=by omega
     have HI:=Lib.hid (And.intro i0 i1)
     obtain ⟨sx,hsx⟩:∃ R,ks[i]? = some R:=⟨_,List.getElem?_eq_getElem (by have:=HKs.out.1;omega)⟩
     obtain ⟨gk,off,t1,d2,d3,d4,d5,d6,d7,B8,c8,rfl,_,hgl,⟨a0,a1,a2,a3,a4,a5,a6,a7,a8⟩,hRx,hKx⟩:=(HK3.out wr hB).litk hsx
     have hst:=flat_step (K:=5) hsx
     have hfl:=flat_take_le 5 ks i
     have hxn:sx.kids.length≤400000:=by
      have h1:=Qy.nodes_in1 (List.mem_of_getElem? hsx)
      have h2:=Qy.nodes_of_kids sx
      have h3:=Qy.len_nodesL sx.kids
      have h4:=HKs.out.2.1
      omega
     have hfl2:(Qy.flatP 5 (ks.take i)).length≤400000:=by have:=HKs.out.2.1;omega
     obtain ⟨kx,hkx⟩:∃ k,sx.kind=k:=⟨_,rfl⟩
     obtain ⟨lx,hlx⟩:∃ m,sx.kids.length=m:=⟨_,rfl⟩
     rw [hkx] at a0
     rw [hlx] at a8
     rw [hkx,hlx] at hRx
     rw [hlx] at hxn
     have y0:wr.cell? ⟨w.heap.size,0,none⟩=some (.int .i64 5):=(HAz.out wr hB).cell 0
     have hyl:=(HAz.out wr hB).lt
     have HR:=Lib.hid (And.intro hRx (And.intro hKx (And.intro hlx hkx)))
     have HST:=Lib.hid hst
     clear hst hfl hRx hKx hsx hi
     by_cases hk:kx=5
     ·
      subst hk
      have HE:Hid ((∀ wz,Below wr.heap.size wr wz→wz.cell? ⟨gk,off+i * 9,none⟩=some (.int .i64 5))∧(∀ wz,Below wr.heap.size wr wz→wz.cell? ⟨w.heap.size,0,none⟩=some (.int .i64 5))∧True):=Lib.hid ⟨fun wz k=>(k.cell (p:=⟨gk,off+i * 9,none⟩) hgl).trans a0,fun wz k=>(k.cell (p:=⟨w.heap.size,0,none⟩) hyl).trans y0,trivial⟩
      go_upto_region 21 with fail
      refine wp_region_specs wr [Spec.eq (.slice (some ⟨gk,off,none⟩) m c3),Spec.eq (.int .i64 (i:Int)),Spec.eq (.pointer (some ⟨gk,off+i * 9,none⟩)),Spec.eq (.pointer (some ⟨gk,off+i * 9,none⟩)),Spec.eq (.int .i64 5),Spec.eq (.pointer (some ⟨w.heap.size,0,none⟩)),Spec.eq (.int .i64 5),Spec.eq (.bool true)]
       (by kernel_rfl) (by kernel_rfl) rfl (by kernel_rfl) (Below.drew (Below.refl _ _)) ?_ ?_
      ·
       refine RegSteps.cons ?_ ?_
       ·intro _ az wz hC hF hD _ K hK
        have q3:az.tmps[3]? = some (.slice (some ⟨gk,off,none⟩) m c3):=hF 3 rfl
        clear hF hD
        refine want_none rfl ?_
        go_simp
        exact hK _ _ hC (Below.refl _ _) rfl
       refine RegSteps.cons ?_ ?_
       ·intro _ az wz hC hF hD _ K hK
        have q7:az.tmps[7]? = some (.int .i64 (i:Int)):=hF 7 rfl
        clear hF hD
        refine want_none rfl ?_
        go_simp
        exact hK _ _ hC (Below.refl _ _) rfl
       refine RegSteps.cons ?_ ?_
       ·intro _ az wz hC hF hD _ K hK
        obtain ⟨_,q66,rfl⟩:=dep hD 0 rfl rfl rfl rfl
        obtain ⟨_,q67,rfl⟩:=dep hD 1 rfl rfl rfl rfl
        have i0_:=HI.out.1
        have i1_:=HI.out.2
        clear hF hD
        refine want_none rfl ?_
        go_simp
        exact hK _ _ hC (Below.refl _ _) rfl
       refine RegSteps.cons ?_ ?_
       ·intro _ az wz hC hF hD _ K hK
        obtain ⟨_,q68,rfl⟩:=dep hD 2 rfl rfl rfl rfl
        clear hF hD
        refine want_none rfl ?_
        go_simp
        exact hK _ _ hC (Below.refl _ _) rfl
       refine RegSteps.cons ?_ ?_
       ·intro _ az wz hC hF hD _ K hK
        obtain ⟨_,q69,rfl⟩:=dep hD 3 rfl rfl rfl rfl
        have a0_:=HE.out.1 _ hC
        clear hF hD
        refine want_none rfl ?_
        go_simp
        exact hK _ _ hC (Below.refl _ _) rfl
       refine RegSteps.cons ?_ ?_
       ·intro _ az wz hC hF hD _ K hK
        have q1:az.tmps[1]? = some (.pointer (some ⟨w.heap.size,0,none⟩)):=hF 1 rfl
        clear hF hD
        refine want_none rfl ?_
        go_simp
        exact hK _ _ hC (Below.refl _ _) rfl
       refine RegSteps.cons ?_ ?_
       ·intro _ az wz hC hF hD _ K hK
        obtain ⟨_,q71,rfl⟩:=dep hD 5 rfl rfl rfl rfl
        have y0_:=HE.out.2.1 _ hC
        clear hF hD
        refine want_none rfl ?_
        go_simp
        exact hK _ _ hC (Below.refl _ _) rfl
       refine RegSteps.cons ?_ ?_
       ·intro _ az wz hC hF hD _ K hK
        obtain ⟨_,q70,rfl⟩:=dep hD 4 rfl rfl rfl rfl
        obtain ⟨_,q72,rfl⟩:=dep hD 6 rfl rfl rfl rfl
        clear hF hD
        refine want_none rfl ?_
        go_simp
        exact hK _ _ hC (Below.refl _ _) rfl
       exact RegSteps.nil
      intro w6 hC6
      rintro _ rfl _ rfl _ rfl _ rfl _ rfl _ rfl _ rfl _ rfl
      simp only [FinOK,Act.put,List.setIfInBounds_toArray,List.set_cons_zero,List.set_cons_succ]
      have a8':w6.cell? ⟨gk,off+i * 9+8,none⟩=some (.slice B8 lx c8):=(hC6.cell (p:=⟨gk,off+i * 9+8,none⟩) hgl).trans a8
      have hK6:=HR.out.2.1.on hC6
      have hrow6:=HS.out.1.on hC6
      have hB6:Below B1 wL w6:=HS.out.2.trans (hC6.mono hzr)
      have hz6:=Nat.le_trans hzr hC6.size
      have hlx:=HR.out.2.2.1
      have HX:=Lib.hid hB6
      clear a0 a1 a2 a3 a4 a5 a6 a7 a8 y0 hC6 hB6
      go_wp2_with (at_builtin;refine append_kids rfl _ _ rfl rfl hrow6 rfl hlx hK6 ?c4 hz6 ?_)
      case c4=>omega
      intro v7 w7 hrow7 hB7
      have HF:Hid (KR 42 N B1 w7 v7 (Qy.flatP 5 (ks.take (i+1)))∧Below B1 wL w7):=Lib.hid ⟨by rw [HST.out];unfold Qy.flat1;rw [if_pos HR.out.2.2.2];exact hrow7,HX.out.trans hB7⟩
      clear hrow7 hB7 hrow6 hK6 a8' hz6 hlx
      go_wp2_with fail
      go_roundw
      case rel=>exact ⟨i+1,by omega,by go_num,HF.out⟩
      case measure=>simp [intOf];omega
     ·
      have HE:Hid ((∀ wz,Below wr.heap.size wr wz→wz.cell? ⟨gk,off+i * 9,none⟩=some (.int .i64 kx))∧(∀ wz,Below wr.heap.size wr wz→wz.cell? ⟨w.heap.size,0,none⟩=some (.int .i64 5))∧¬ kx=5):=Lib.hid ⟨fun wz k=>(k.cell (p:=⟨gk,off+i * 9,none⟩) hgl).trans a0,fun wz k=>(k.cell (p:=⟨w.heap.size,0,none⟩) hyl).trans y0,hk⟩
      go_upto_region 21 with fail
      refine wp_region_specs wr [Spec.eq (.slice (some ⟨gk,off,none⟩) m c3),Spec.eq (.int .i64 (i:Int)),Spec.eq (.pointer (some ⟨gk,off+i * 9,none⟩)),Spec.eq (.pointer (some ⟨gk,off+i * 9,none⟩)),Spec.eq (.int .i64 kx),Spec.eq (.pointer (some ⟨w.heap.size,0,none⟩)),Spec.eq (.int .i64 5),Spec.eq (.bool false)]
       (by kernel_rfl) (by kernel_rfl) rfl (by kernel_rfl) (Below.drew (Below.refl _ _)) ?_ ?_
      ·
       refine RegSteps.cons ?_ ?_
       ·intro _ az wz hC hF hD _ K hK
        have q3:az.tmps[3]? = some (.slice (some ⟨gk,off,none⟩) m c3):=hF 3 rfl
        clear hF hD
        refine want_none rfl ?_
        go_simp
        exact hK _ _ hC (Below.refl _ _) rfl
       refine RegSteps.cons ?_ ?_
       ·intro _ az wz hC hF hD _ K hK
        have q7:az.tmps[7]? = some (.int .i64 (i:Int)):=hF 7 rfl
        clear hF hD
        refine want_none rfl ?_
        go_simp
        exact hK _ _ hC (Below.refl _ _) rfl
       refine RegSteps.cons ?_ ?_
       ·intro _ az wz hC hF hD _ K hK
        obtain ⟨_,q66,rfl⟩:=dep hD 0 rfl rfl rfl rfl
        obtain ⟨_,q67,rfl⟩:=dep hD 1 rfl rfl rfl rfl
        have i0_:=HI.out.1
        have i1_:=HI.out.2
        clear hF hD
        refine want_none rfl ?_
        go_simp
        exact hK _ _ hC (Below.refl _ _) rfl
       refine RegSteps.cons ?_ ?_
       ·intro _ az wz hC hF hD _ K hK
        obtain ⟨_,q68,rfl⟩:=dep hD 2 rfl rfl rfl rfl
        clear hF hD
        refine want_none rfl ?_
        go_simp
        exact hK _ _ hC (Below.refl _ _) rfl
       refine RegSteps.cons ?_ ?_
       ·intro _ az wz hC hF hD _ K hK
        obtain ⟨_,q69,rfl⟩:=dep hD 3 rfl rfl rfl rfl
        have a0_:=HE.out.1 _ hC
        clear hF hD
        refine want_none rfl ?_
        go_simp
        exact hK _ _ hC (Below.refl _ _) rfl
       refine RegSteps.cons ?_ ?_
       ·intro _ az wz hC hF hD _ K hK
        have q1:az.tmps[1]? = some (.pointer (some ⟨w.heap.size,0,none⟩)):=hF 1 rfl
        clear hF hD
        refine want_none rfl ?_
        go_simp
        exact hK _ _ hC (Below.refl _ _) rfl
       refine RegSteps.cons ?_ ?_
       ·intro _ az wz hC hF hD _ K hK
        obtain ⟨_,q71,rfl⟩:=dep hD 5 rfl rfl rfl rfl
        have y0_:=HE.out.2.1 _ hC
        clear hF hD
        refine want_none rfl ?_
        go_simp
        exact hK _ _ hC (Below.refl _ _) rfl
       refine RegSteps.cons ?_ ?_
       ·intro _ az wz hC hF hD _ K hK
        obtain ⟨_,q70,rfl⟩:=dep hD 4 rfl rfl rfl rfl
        obtain ⟨_,q72,rfl⟩:=dep hD 6 rfl rfl rfl rfl
        have hk_:(kx==5)=false:=by have:=HE.out.2.2;simpa using this
        clear hF hD
        refine want_none rfl ?_
        go_simp
        exact hK _ _ hC (Below.refl _ _) rfl
       exact RegSteps.nil
      intro w6 hC6
      rintro _ rfl _ rfl _ rfl _ rfl _ rfl _ rfl _ rfl _ rfl
      simp only [FinOK,Act.put,List.setIfInBounds_toArray,List.set_cons_zero,List.set_cons_succ]
      have b0:w6.cell? ⟨gk,off+i * 9,none⟩=_:=(hC6.cell (p:=⟨gk,off+i * 9,none⟩) hgl).trans a0
      have b1:w6.cell? ⟨gk,off+i * 9+1,none⟩=_:=(hC6.cell (p:=⟨gk,off+i * 9+1,none⟩) hgl).trans a1
      have b2:w6.cell? ⟨gk,off+i * 9+2,none⟩=_:=(hC6.cell (p:=⟨gk,off+i * 9+2,none⟩) hgl).trans a2
      have b3:w6.cell? ⟨gk,off+i * 9+3,none⟩=_:=(hC6.cell (p:=⟨gk,off+i * 9+3,none⟩) hgl).trans a3
      have b4:w6.cell? ⟨gk,off+i * 9+4,none⟩=_:=(hC6.cell (p:=⟨gk,off+i * 9+4,none⟩) hgl).trans a4
      have b5:w6.cell? ⟨gk,off+i * 9+5,none⟩=_:=(hC6.cell (p:=⟨gk,off+i * 9+5,none⟩) hgl).trans a5
      have b6:w6.cell? ⟨gk,off+i * 9+6,none⟩=_:=(hC6.cell (p:=⟨gk,off+i * 9+6,none⟩) hgl).trans a6
      have b7:w6.cell? ⟨gk,off+i * 9+7,none⟩=_:=(hC6.cell (p:=⟨gk,off+i * 9+7,none⟩) hgl).trans a7
      have b8:w6.cell? ⟨gk,off+i * 9+8,none⟩=_:=(hC6.cell (p:=⟨gk,off+i * 9+8,none⟩) hgl).trans a8
      have hR6:=HR.out.1.on hC6
      have hrow6:=HS.out.1.on hC6
      have hB6:Below B1 wL w6:=HS.out.2.trans (hC6.mono hzr)
      have hz6:=Nat.le_trans hzr hC6.size
      have HX:=Lib.hid hB6
      clear a0 a1 a2 a3 a4 a5 a6 a7 a8 y0 hC6 hB6
      go_wp2_with (at_builtin;refine push_kid (cs:=[.int .i64 kx,.string t1,.int .i64 d2,.int .i64 d3,.int .i64 d4,.int .i64 d5,.int .i64 d6,.int .i64 d7,.slice B8 lx c8]) (R:=sx) rfl _ _ rfl rfl hrow6 rfl hR6 ?c4 hz6 ?_)
      case c4=>omega
      intro v7 w7 hrow7 hB7
      have HF:Hid (KR 42 N B1 w7 v7 (Qy.flatP 5 (ks.take (i+1)))∧Below B1 wL w7):=Lib.hid ⟨by rw [HST.out];unfold Qy.flat1;rw [if_neg (by rw [HR.out.2.2.2];exact hk)];exact hrow7,HX.out.trans hB7⟩
      clear hrow7 hB7 hrow6 hR6 b0 b1 b2 b3 b4 b5 b6 b7 b8 hz6
      go_wp2_with fail
      go_roundw
      case rel=>exact ⟨i+1,by omega,by go_num,HF.out⟩
      case measure=>simp [intOf];omega
    ·
     have i1:¬ (i:Int)<(m:Int):=by omega
     have hLT:ks.take i=ks:=List.take_of_length_le (by have:=HKs.out.1;omega)
     have hrow:=HS.out.1
     rw [hLT] at hrow
     have hfl:=flat_take_le 5 ks i
     have hfn:=Qy.flat_nodes 5 ks
     rw [hLT] at hfl
     obtain ⟨fl,hfle⟩:∃ fl,Qy.flatP 5 ks=fl:=⟨_,rfl⟩
     rw [hfle] at hrow hfl hfn HSM
     have HFl:Hid (Qy.nodesL fl≤400000):=Lib.hid (by have:=HKs.out.2.1;omega)
     obtain ⟨A6,c6,hv6,hK6⟩:=(hrow.row HNB.out).kids
     obtain ⟨nf,hnf⟩:∃ n,fl.length=n:=⟨_,rfl⟩
     have HNF:=Lib.hid hnf
     rw [hnf] at hv6 hfl
     have hnfb:nf≤400000:=by have:=HKs.out.2.1;omega
     subst hv6
     have hBw:=HS.out.2
     obtain ⟨B2,hB2⟩:∃ B,wr.heap.size=B:=⟨_,rfl⟩
     have HB2:Hid (B1≤B2):=Lib.hid (by omega)
     have HK4:Hid (∀ wz,Below B2 wr wz→KidsAt wz (fun g=>N g∧g<B2) A6 0 fl):=Lib.hid fun wz k=>KidsAt.keep k.size (fun g hg hl=>⟨⟨hg,by omega⟩,k.block g (by omega)⟩) _ _ _ hK6
     have HBy:Hid (∀ wz,Below B2 wr wz→Below B1 wL wz):=Lib.hid fun wz k=>hBw.trans (k.mono HB2.out)
     have HW2:=Lib.hid hB2
     have hwz2:B2≤wr.heap.size:=by omega
     clear hB2 HS heq hrow hLT hfle hK6 hBw hfn hfl hnf hi hzr hB
     obtain ⟨wM,hwM⟩:∃ u,u=wr:=⟨_,rfl⟩
     rw [← hwM] at HW2 HK4 HBy hwz2 ⊢
     clear hwM
     go_wp2_with fail
     go_loopw [8,9] (fun s8 s9 wr=>∃ i:Nat,i≤nf∧s9=.int .i64 (i:Int)∧KRow 42 N wr s8 ((fl.take i).foldl (Qy.addP 5) [])∧(∀ b,s8.ownBlock=some b→B2≤b)∧(fl.take i).any Qy.wholeB=false∧Below B2 wM wr) (fun _ s _=>nf - (intOf s).toNat)
     case atStart=>exact ⟨0,Nat.zero_le _,rfl,KRow.nil _ _,(fun b hb=>by cases hb),(by simp),Below.refl _ _⟩
     case round=>
      obtain ⟨i,hi,rfl,hrow,hrv,hno,hB⟩:=hrel
      have HS:=Lib.hid (And.intro hrow (And.intro hrv (And.intro hno hB)))
      have hzr:B2≤wr.heap.size:=Nat.le_trans hwz2 hB.size
      clear hrow hrv hno
      rcases Nat.lt_or_eq_of_le hi with hlt | heq
      ·
       have i0:(0:Int)≤(i:Int):=Int.natCast_nonneg i
       have i1:(i:Int)<(nf:Int):=by omega
       obtain ⟨sx,hsx⟩:∃ R,fl[i]? = some R:=⟨_,List.getElem?_eq_getElem (by have:=HNF.out;omega)⟩
       obtain ⟨gk,off,t1,d2,d3,d4,d5,d6,d7,B8,c8,rfl,_,hgl,⟨a0,a1,a2,a3,a4,a5,a6,a7,a8⟩,hRx,_⟩:=(HK4.out wr hB).litk hsx
       have hst:=fold_step (K:=5) hsx
       have hsn:=any_snoc (p:=Qy.wholeB) hsx
       have hhit:=any_hit (p:=Qy.wholeB) hsx
       have hac:=acc_take_le 5 fl i
       have hxn:=Qy.nodes_in1 (List.mem_of_getElem? hsx)
       have hsz:Hid (((fl.take i).foldl (Qy.addP 5) []).length≤1000000∧(∀ x∈(fl.take i).foldl (Qy.addP 5) [],Qy.nodes x≤1000000)∧Qy.nodes sx≤1000000):=Lib.hid (by
        have h1:=HFl.out
        have h2:=small_acc (acc:=(fl.take i).foldl (Qy.addP 5) []) (by omega)
        exact ⟨by omega,h2.2,by omega⟩)
       rw [HS.out.2.2.1,Bool.false_or] at hsn
       have HST:=Lib.hid (And.intro hst (And.intro hsn hhit))
       obtain ⟨kx,hkx⟩:∃ k,sx.kind=k:=⟨_,rfl⟩
       obtain ⟨lx,hlx⟩:∃ m,sx.kids.length=m:=⟨_,rfl⟩
       rw [hkx] at a0
       rw [hlx] at a8
       rw [hkx,hlx] at hRx
       have HR:=Lib.hid (And.intro hRx (And.intro hlx hkx))
       clear hst hsn hhit hac hxn hRx hsx
       go_upto_region 29 with fail
       refine wp_new1 fun W2 hA2 k2=>?_
       obtain ⟨⟨x0,x1,x2,x3,x4,x5,x6,x7,x8⟩,_⟩:=hA2.all9
       have hBM:Below B2 wM W2:=HS.out.2.2.2.trans (k2.mono hzr)
       have HBM:=Lib.hid hBM
       have y0:W2.cell? ⟨w.heap.size,0,none⟩=some (.int .i64 5):=(HAz.out W2 (HBy.out W2 hBM)).cell 0
       have HA2:=Lib.hid hA2
       have hPut:Hid (Calls Tryd.prog 46 #[u8,.agg #[.int .i64 kx,.string t1,.int .i64 d2,.int .i64 d3,.int .i64 d4,.int .i64 d5,.int .i64 d6,.int .i64 d7,.slice B8 lx c8]] W2 (PutP N W2 u8 ((fl.take i).foldl (Qy.addP 5) []) sx)):=Lib.hid (put_any u8 _ sx [.int .i64 kx,.string t1,.int .i64 d2,.int .i64 d3,.int .i64 d4,.int .i64 d5,.int .i64 d6,.int .i64 d7,.slice B8 lx c8] W2 (HS.out.1.on k2) ((HR.out.1.on k2).wider fun g hg _=>⟨hg.1,fun e=>by have h1:=HS.out.2.1 g e;omega⟩) (fun g hg=>HNB.out g (by have h1:=HB2.out;have h2:=k2.size;omega)) hsz.out.1 hsz.out.2.1 hsz.out.2.2)
       clear a0 a1 a2 a3 a4 a5 a6 a7 a8 hgl hBM hA2
       have HKw:=Lib.hid k2
       have hzW:B2≤W2.heap.size:=Nat.le_trans hzr k2.size
       clear k2
       by_cases h0:kx=0
       ·
        subst h0
        have HS2:Hid (Qy.smp (Qy.kidsR 5 kids)=Qy.wholeR):=Lib.hid (by
         rw [HSM.out]
         unfold Qy.fin
         rw [if_neg (fun h=>by have:=h.1;omega),if_pos (.inl ⟨rfl,by rw [whole_any_acc];exact HST.out.2.2 (by unfold Qy.wholeB;rw [HR.out.2.2];rfl)⟩)])
        have HQr:=Lib.hid (HQz.out W2 (HBy.out W2 HBM.out))
        have HBr:=Lib.hid (HBz.out W2 (HBy.out W2 HBM.out))
        obtain ⟨⟨e0,e1,e2,e3,e4,e5,e6,e7,e8⟩,f0,f1,f2,f3,f4,f5,f6,f7,f8⟩:=(HQr.out).all9
        go_wp2_with fail
        obtain ⟨hO9,hk9⟩:=(HQr.out).put9 (x0:=.int .i64 0) (x1:=.string ⟨#[]⟩) (x2:=.int .i64 0) (x3:=.int .i64 0) (x4:=.int .i64 0) (x5:=.int .i64 0) (x6:=.int .i64 0) (x7:=.int .i64 0) (x8:=.slice none 0 0)
        clear e0 e1 e2 e3 e4 e5 e6 e7 e8 f0 f1 f2 f3 f4 f5 f6 f7 f8
        revert hO9 hk9
        generalize (((((((((W2.setCell _ _).setCell _ _).setCell _ _).setCell _ _).setCell _ _).setCell _ _).setCell _ _).setCell _ _).setCell _ _)=W9
        intro hO9 hk9
        obtain ⟨⟨q0,q1,q2,q3,q4,q5,q6,q7,q8⟩,_⟩:=hO9.all9
        refine bodyPost_ret (v:=.agg #[.int .i64 0,.string ⟨#[]⟩,.int .i64 0,.int .i64 0,.int .i64 0,.int .i64 0,.int .i64 0,.int .i64 0,.slice none 0 0]) (by simp [results,Tryd.results24,go_sem,q0,q1,q2,q3,q4,q5,q6,q7,q8]) rfl ?_
        exact ⟨_,rfl,Below.grown (HBr.out) hk9 (HBr.out).size (fun j hj=>by cases hj;exact HG2.out),[.int .i64 0,.string ⟨#[]⟩,.int .i64 0,.int .i64 0,.int .i64 0,.int .i64 0,.int .i64 0,.int .i64 0,.slice none 0 0],rfl,by rw [HS2.out];exact zcells_reg _ _⟩
       ·
        have HNo:Hid (Qy.wholeB sx=false):=Lib.hid (by unfold Qy.wholeB;rw [HR.out.2.2];simpa using h0)
        go_wp2_with fail
        refine hPut.out.mono ?_
        rintro e w7 ⟨v7,rfl,hrow7,hg7,hv7⟩
        have hrv7:∀ b,v7.ownBlock=some b→B2≤b:=fun b hb=>(hv7 b hb).elim (HS.out.2.1 b) fun h=>Nat.le_trans hzW h
        have hB7:Below B2 wM w7:=Below.grown HBM.out hg7 hzW HS.out.2.1
        have HF:Hid (KRow 42 N w7 v7 ((fl.take (i+1)).foldl (Qy.addP 5) [])∧(∀ b,v7.ownBlock=some b→B2≤b)∧(fl.take (i+1)).any Qy.wholeB=false∧Below B2 wM w7):=Lib.hid ⟨by rw [HST.out.1,add_put5];exact hrow7,hrv7,by rw [HST.out.2.1];exact HNo.out,hB7⟩
        clear hrow7 hg7 hv7 hrv7 hB7 x0 x1 x2 x3 x4 x5 x6 x7 x8 y0
        go_wp2_with fail
        go_roundw
        case rel=>exact ⟨i+1,by omega,by go_num,HF.out⟩
        case measure=>simp [intOf];omega
      ·
       have i1:¬ (i:Int)<(nf:Int):=by omega
       have hLT:fl.take i=fl:=List.take_of_length_le (by have:=HNF.out;omega)
       have hrow:=HS.out.1
       have hno:=HS.out.2.2.1
       rw [hLT] at hrow hno
       have hac:=acc_take_le 5 fl i
       rw [hLT] at hac
       obtain ⟨acc,hacc⟩:∃ acc,fl.foldl (Qy.addP 5) []=acc:=⟨_,rfl⟩
       have hna:acc.any Qy.wholeB=false:=by rw [← hacc,whole_any_acc];exact hno
       rw [hacc] at hrow hac HSM
       have hab:=Qy.len_nodesL acc
       obtain ⟨na,hnae⟩:∃ n,acc.length=n:=⟨_,rfl⟩
       have HNA:=Lib.hid (And.intro hnae hna)
       obtain ⟨A7,c7,hv7,hK7⟩:=hrow.kids
       rw [hnae] at hv7 hab
       have hnab:na≤400000:=by have:=HFl.out;omega
       subst hv7
       have y0:wr.cell? ⟨w.heap.size,0,none⟩=some (.int .i64 5):=(HAz.out wr (HBy.out wr hB)).cell 0
       have HQr:=Lib.hid (HQz.out wr (HBy.out wr hB))
       have HBr:=Lib.hid (HBz.out wr (HBy.out wr hB))
       have HK7:=Lib.hid hK7
       clear hLT hrow hno hac hacc hna hab hnae heq hB HS
       by_cases h1:na=1
       ·
        subst h1
        obtain ⟨R1,rfl⟩:∃ R,acc=[R]:=List.length_eq_one_iff.1 HNA.out.1
        have HS2:Hid (Qy.smp (Qy.kidsR 5 kids)=R1):=Lib.hid (by
         rw [HSM.out]
         have h9:=HNA.out.2
         unfold Qy.fin
         rw [if_neg (fun h=>by have:=h.1;omega),if_neg (by simp [h9])]
         rfl)
        obtain ⟨gy,of2,b0,v1,b2,b3,b4,b5,b6,b7,V8,k8,j8,rfl,_,hgl,⟨a0,a1,a2,a3,a4,a5,a6,a7,a8⟩,hRy⟩:=HK7.out.lit (i:=0) (R:=R1) rfl
        simp only [Nat.zero_mul,Nat.add_zero] at a0 a1 a2 a3 a4 a5 a6 a7 a8
        have HRY:=Lib.hid hRy
        clear hRy hgl
        obtain ⟨⟨e0,e1,e2,e3,e4,e5,e6,e7,e8⟩,f0,f1,f2,f3,f4,f5,f6,f7,f8⟩:=(HQr.out).all9
        go_wp2_with fail
        obtain ⟨hO9,hk9⟩:=(HQr.out).put9 (x0:=.int .i64 b0) (x1:=.string v1) (x2:=.int .i64 b2) (x3:=.int .i64 b3) (x4:=.int .i64 b4) (x5:=.int .i64 b5) (x6:=.int .i64 b6) (x7:=.int .i64 b7) (x8:=.slice V8 k8 j8)
        clear e0 e1 e2 e3 e4 e5 e6 e7 e8 f0 f1 f2 f3 f4 f5 f6 f7 f8
        revert hO9 hk9
        generalize (((((((((wr.setCell _ _).setCell _ _).setCell _ _).setCell _ _).setCell _ _).setCell _ _).setCell _ _).setCell _ _).setCell _ _)=W9
        intro hO9 hk9
        obtain ⟨⟨q0,q1,q2,q3,q4,q5,q6,q7,q8⟩,_⟩:=hO9.all9
        refine bodyPost_ret (v:=.agg #[.int .i64 b0,.string v1,.int .i64 b2,.int .i64 b3,.int .i64 b4,.int .i64 b5,.int .i64 b6,.int .i64 b7,.slice V8 k8 j8]) (by simp [results,Tryd.results24,go_sem,q0,q1,q2,q3,q4,q5,q6,q7,q8]) rfl ?_
        exact ⟨_,rfl,Below.grown (HBr.out) hk9 (HBr.out).size (fun j hj=>by cases hj;exact HG2.out),[.int .i64 b0,.string v1,.int .i64 b2,.int .i64 b3,.int .i64 b4,.int .i64 b5,.int .i64 b6,.int .i64 b7,.slice V8 k8 j8],rfl,by rw [HS2.out];exact (RegAt.atg (HRY.out) hk9 HNn.out).wider fun g hg _=>HNw.out g hg⟩
       have h1':¬ (na:Int)=1:=by omega
       have HS2:Hid (Qy.smp (Qy.kidsR 5 kids)=Qy.kidsR 5 acc):=Lib.hid (by
        rw [HSM.out]
        have h9:=HNA.out
        unfold Qy.fin
        rw [if_neg (fun h=>by have:=h.1;omega),if_neg (by rw [h9.2];simp),if_neg (by omega)])
       by_cases h0:na=0
       ·
        subst h0
        obtain ⟨⟨e0,e1,e2,e3,e4,e5,e6,e7,e8⟩,f0,f1,f2,f3,f4,f5,f6,f7,f8⟩:=(HQr.out).all9
        go_wp2_with fail
        obtain ⟨hO9,hk9⟩:=(HQr.out).put9 (x0:=.int .i64 5) (x1:=.string ⟨#[]⟩) (x2:=.int .i64 0) (x3:=.int .i64 0) (x4:=.int .i64 0) (x5:=.int .i64 0) (x6:=.int .i64 0) (x7:=.int .i64 0) (x8:=.slice A7 0 c7)
        clear e0 e1 e2 e3 e4 e5 e6 e7 e8 f0 f1 f2 f3 f4 f5 f6 f7 f8
        revert hO9 hk9
        generalize (((((((((wr.setCell _ _).setCell _ _).setCell _ _).setCell _ _).setCell _ _).setCell _ _).setCell _ _).setCell _ _).setCell _ _)=W9
        intro hO9 hk9
        obtain ⟨⟨q0,q1,q2,q3,q4,q5,q6,q7,q8⟩,_⟩:=hO9.all9
        refine bodyPost_ret (v:=.agg #[.int .i64 5,.string ⟨#[]⟩,.int .i64 0,.int .i64 0,.int .i64 0,.int .i64 0,.int .i64 0,.int .i64 0,.slice A7 0 c7]) (by simp [results,Tryd.results24,go_sem,q0,q1,q2,q3,q4,q5,q6,q7,q8]) rfl ?_
        exact ⟨_,rfl,Below.grown (HBr.out) hk9 (HBr.out).size (fun j hj=>by cases hj;exact HG2.out),[.int .i64 5,.string ⟨#[]⟩,.int .i64 0,.int .i64 0,.int .i64 0,.int .i64 0,.int .i64 0,.int .i64 0,.slice A7 0 c7],rfl,by rw [HS2.out];exact (RegAt.atg (kids_reg HK7.out HNA.out.1) hk9 HNn.out).wider fun g hg _=>HNw.out g hg⟩
       ·
        have h0':¬ (na:Int)=0:=by omega
        obtain ⟨⟨e0,e1,e2,e3,e4,e5,e6,e7,e8⟩,f0,f1,f2,f3,f4,f5,f6,f7,f8⟩:=(HQr.out).all9
        go_wp2_with fail
        obtain ⟨hO9,hk9⟩:=(HQr.out).put9 (x0:=.int .i64 5) (x1:=.string ⟨#[]⟩) (x2:=.int .i64 0) (x3:=.int .i64 0) (x4:=.int .i64 0) (x5:=.int .i64 0) (x6:=.int .i64 0) (x7:=.int .i64 0) (x8:=.slice A7 na c7)
        clear e0 e1 e2 e3 e4 e5 e6 e7 e8 f0 f1 f2 f3 f4 f5 f6 f7 f8
        revert hO9 hk9
        generalize (((((((((wr.setCell _ _).setCell _ _).setCell _ _).setCell _ _).setCell _ _).setCell _ _).setCell _ _).setCell _ _).setCell _ _)=W9
        intro hO9 hk9
        obtain ⟨⟨q0,q1,q2,q3,q4,q5,q6,q7,q8⟩,_⟩:=hO9.all9
        refine bodyPost_ret (v:=.agg #[.int .i64 5,.string ⟨#[]⟩,.int .i64 0,.int .i64 0,.int .i64 0,.int .i64 0,.int .i64 0,.int .i64 0,.slice A7 na c7]) (by simp [results,Tryd.results24,go_sem,q0,q1,q2,q3,q4,q5,q6,q7,q8]) rfl ?_
        exact ⟨_,rfl,Below.grown (HBr.out) hk9 (HBr.out).size (fun j hj=>by cases hj;exact HG2.out),[.int .i64 5,.string ⟨#[]⟩,.int .i64 0,.int .i64 0,.int .i64 0,.int .i64 0,.int .i64 0,.int .i64 0,.slice A7 na c7],rfl,by rw [HS2.out];exact (RegAt.atg (kids_reg HK7.out HNA.out.1) hk9 HNn.out).wider fun g hg _=>HNw.out g hg⟩
theorem rsimple_any:∀ n,n≤400000→RSimIH n:=by
 intro n
 induction n with
 | zero=>intro _ R h;have:=Qy.nodes_pos R;omega
 | succ n ih=>
  intro hn2 R hn hv S cs w h
  rcases Qy.node_cases hv with ⟨h0,h1,_⟩ | ⟨x,rfl,hx⟩ | ⟨hk,e,hx⟩
  ·exact rs_leaf ⟨h0,h1⟩ S cs w h
  ·rw [Qy.nodes_kids] at hn
   exact rs_not (ih (by omega)) rfl (by omega) (by omega) (fun y hy=>by rw [List.mem_singleton.1 hy];exact hx) S cs w h
  ·rw [Qy.nodes_of_kids] at hn
   rcases hk with hk | hk
   ·rw [hk] at e
    rw [e] at h ⊢
    exact rs_kids4 (ih (by omega)) (by omega) (by omega) hx S cs w h
   ·rw [hk] at e
    rw [e] at h ⊢
    exact rs_kids5 (ih (by omega)) (by omega) (by omega) hx S cs w h
end Go.Proofs.YtmlpibdincfgbaaDoor
