/-
  Chapter 38: QueryViews.
-/
import Derived.Test.YtmlpibdincfgbaaGreatDoorM38
import Derived.Test.YtmlpibdincfgbaaGreatDoorM39
import Derived.Test.YtmlpibdincfgbaaGreatDoorM40
import Derived.Test.YtmlpibdincfgbaaGreatDoorK21
import Derived.Test.YtmlpibdincfgbaaGreatDoorQS6
namespace Go.Proofs.YtmlpibdincfgbaaGreatDoor
open Go.RowKit
set_option linter.unusedSimpArgs false
set_option linter.unusedVariables false
def qvw (k:Int) (l:List Int):Qy.Qry:=⟨0,Qy.kidsR 0 [],k,l,0,0⟩
theorem qvw_valid (k:Int) (l:List Int):Qy.validE (qvw k l)=if Qy.viewOK k l=true then 0 else 1:=by
 unfold Qy.validE qvw
 rw [if_neg (by simp only;omega)]
 simp only
 by_cases h:Qy.viewOK k l=true
 ·rw [if_neg (by simp [h]),if_pos h]
  rfl
 ·rw [if_pos (by simpa using h),if_neg h]
theorem viewOK_bd {k:Int} {l:List Int} (h:Qy.viewOK k l=true):l.length≤8∧∀ n∈l,0≤n∧n≤63:=by
 unfold Qy.viewOK at h
 simp only [Bool.and_eq_true,Bool.or_eq_true,decide_eq_true_eq] at h
 exact ⟨by omega,h.2.1⟩
theorem qvw_len {k:Int} {l:List Int} (h:Qy.viewOK k l=true):(Qy.printT (qvw k l)).length≤4000:=by
 obtain ⟨hl,hm⟩:=viewOK_bd h
 have i4:∀ l:List Int,(∀ n∈l,0≤n∧n≤63)→((l.map Go.Lib.itoa).map fun t=>t.length+5).sum≤16 * l.length:=by
  intro l
  induction l with
  | nil=>simp
  | cons n l ih=>
   intro ha
   have h1:=Qy.itoa_len n (by have:=ha n (by simp);omega) (by have:=ha n (by simp);omega)
   have h2:=ih fun x hx=>ha x (List.mem_cons_of_mem _ hx)
   simp only [List.map_cons,List.sum_cons,List.length_cons]
   omega
 have i5:=Qy.join_len [44] (by simp) _ _ (i4 l hm)
 have i6:(Qy.vtext k).length≤11:=by
  unfold Qy.vtext
  split
  ·simp
  split <;> simp
 have i7:(Qy.text (Qy.kidsR 0 []) false).length≤100:=by decide
 have i8:=Qy.itoa_len 0 (by omega) (by omega)
 unfold Qy.printT qvw
 simp only [List.length_append,List.length_cons,List.length_nil]
 omega
theorem qvw_print {k:Int} {l:List Int} (h:Qy.viewOK k l=true):Qy.printQ (qvw k l)=(Qy.printT (qvw k l),0):=by
 have hv:=qvw_valid k l
 rw [if_pos h] at hv
 unfold Qy.printQ
 rw [if_neg (by omega),if_neg (by have:=qvw_len h;omega)]
theorem qvw_parse {k:Int} {l:List Int} (h:Qy.viewOK k l=true):Qy.parse (Qy.printT (qvw k l))=(qvw k l,0,0):=by
 have hv:=qvw_valid k l
 rw [if_pos h] at hv
 exact Qy.parse_print hv (by have:=qvw_len h;omega)
theorem qvw_is {w:World} {S:Nat→Prop} {k:Int} {l:List Int} {A:Option Addr} {c:Nat} (hI:IntsAt w S A l) (hc:l.length≤c) (hd:c≤maxLen) :
 IsQry w (qvw k l) (.agg #[.int .i64 0,.int .i64 0,.string ⟨#[]⟩,.int .i64 0,.int .i64 0,.int .i64 0,.int .i64 0,.int .i64 0,.int .i64 0,.slice none 0 0,.int .i64 k,.slice A l.length c,.int .i64 0,.int .i64 0]):=
 ⟨0,⟨#[]⟩,0,0,0,0,0,0,none,0,0,A,_,c,rfl,rfl,RegAt.leaf 0 [] 0 0 0 0 0 0,hI.keep (Nat.le_refl _) fun _ _ _=>⟨trivial,rfl⟩,hc,hd⟩
def VBx (w:World) (x:Value):Prop:=∃ (k:Int) (l:List Int) (A:Option Addr) (c:Nat),x=.agg #[.int .i64 k,.slice A l.length c]∧IntsAt w (fun _=>True) A l∧l.length≤17∧l.length≤c∧c≤maxLen
theorem VBx.on {w w':World} {x:Value} (h:VBx w x) (k:Below w.heap.size w w'):VBx w' x:=by
 obtain ⟨k1,l,A,c,e,hI,h2⟩:=h
 exact ⟨k1,l,A,c,e,hI.on k,h2⟩
def sVB:Spec Bel:=⟨fun v w=>∃ x:Value,v=x∧VBx w x,fun ⟨x,e,h⟩ k=>⟨x,e,h.on k⟩⟩
def V2 (w:World) (g:Nat):Prop:=g<w.heap.size∧∀ i,i<2→∃ (k:Int) (l:List Int) (A:Option Addr) (c:Nat),w.cell? ⟨g,2 * i,none⟩=some (.int .i64 k)∧w.cell? ⟨g,2 * i+1,none⟩=some (.slice A l.length c)∧IntsAt w (fun _=>True) A l∧l.length≤17∧l.length≤c∧c≤maxLen
theorem V2.on {w w':World} {g:Nat} (h:V2 w g) (k:Below w.heap.size w w'):V2 w' g:=by
 refine ⟨Nat.lt_of_lt_of_le h.1 k.size,fun i hi=>?_⟩
 obtain ⟨k1,l,A,c,h1,h2,hI,h3⟩:=h.2 i hi
 exact ⟨k1,l,A,c,(k.cell (p:=⟨g,2 * i,none⟩) h.1).trans h1,(k.cell (p:=⟨g,2 * i+1,none⟩) h.1).trans h2,hI.on k,h3⟩
def sV2:Spec Bel:=⟨fun v w=>∃ g,v=.slice (some ⟨g,0,none⟩) 2 2∧V2 w g,fun ⟨g,e,h⟩ k=>⟨g,e,h.on k⟩⟩
theorem V2.mk {w:World} {t:TypeId} {k1 k2:Int} {l1 l2:List Int} {A1 A2:Option Addr} {c1 c2:Nat} (h1:IntsAt w (fun _=>True) A1 l1∧l1.length≤17∧l1.length≤c1∧c1≤maxLen) (h2:IntsAt w (fun _=>True) A2 l2∧l2.length≤17∧l2.length≤c2∧c2≤maxLen) :
 V2 (w.alloc (.cells #[.int .i64 k1,.slice A1 l1.length c1,.int .i64 k2,.slice A2 l2.length c2] t)) w.heap.size:=by
 have hO:Own (w.alloc (.cells #[.int .i64 k1,.slice A1 l1.length c1,.int .i64 k2,.slice A2 l2.length c2] t)) w.heap.size t [.int .i64 k1,.slice A1 l1.length c1,.int .i64 k2,.slice A2 l2.length c2]:=Own.new w t _
 have hb:=below_new w (.cells #[.int .i64 k1,.slice A1 l1.length c1,.int .i64 k2,.slice A2 l2.length c2] t)
 refine ⟨hO.lt,fun i hi=>?_⟩
 match i,hi with
 | 0,_=>exact ⟨k1,l1,A1,c1,hO.c0,hO.c1,h1.1.on hb,h1.2⟩
 | 1,_=>exact ⟨k2,l2,A2,c2,hO.c2,hO.c3,h2.1.on hb,h2.2⟩
set_option maxRecDepth 100000 in
set_option maxHeartbeats 6400000 in
theorem QueryViews_any {w:World} (hT:TabQ w) {n how by_:Int} (b0:in64 n) (b1:in64 how) (b2:in64 by_) :
 Calls Tryz.prog 5 #[.int .i64 n,.int .i64 how,.int .i64 by_] w (RetB w true):=by
 have HL0:=Lib.hid fun u=>lives_any u
 have HVw:=Lib.hid (View_any n b0 w)
 have HB:=Lib.hid (And.intro b1 b2)
 have HT:=Lib.hid hT
 clear hT b0 b1 b2
 go_enter Tryz.func5,Tryz.ntmps5
 go_wp2_with fail
 refine HVw.out.mono ?_
 rintro e w1 ⟨k1,l1,A1,c1,rfl,hB1,hI1,hc1,hd1,hok⟩
 have hl1:=(viewOK_bd hok).1
 clear hok HVw
 go_upto_region 2 with fail
 refine wp_new1 fun W1 hV kn=>?_
 have hBV0:∀ u,Below W1.heap.size W1 u→Calls Tryz.prog 22 #[.agg #[.int .i64 k1,.slice A1 l1.length c1],.int .i64 how,.int .i64 by_] u fun e w'=>∃ x,e=.returned x∧Below u.heap.size u w'∧VBx w' x:=fun u hu=>
  (BentView_any (k:=k1) (c:=c1) ((hI1.on kn).on hu) (by omega) how by_ HB.out.1 HB.out.2).mono fun e w' ⟨k,o,A,c,he,hb,hI,h1,h2,h3⟩=>⟨_,he,hb,k,o,A,c,rfl,hI.keep (Nat.le_refl _) fun _ _ _=>⟨trivial,rfl⟩,by omega,h2,h3⟩
 have HBV:=Lib.hid hBV0
 have HI1:=Lib.hid (And.intro (hI1.on kn) (And.intro hl1 (And.intro hc1 hd1)))
 obtain ⟨n1,hn1⟩:∃ n,l1.length=n:=⟨_,rfl⟩
 have HN1:=Lib.hid hn1
 rw [hn1] at HBV hV ⊢
 obtain ⟨g7,hg7⟩:∃ g,w1.heap.size=g:=⟨_,rfl⟩
 have HK:=Lib.hid (Below.call hB1 kn)
 rw [hg7] at hV ⊢
 have HV:=Lib.hid (And.intro hV hV.lt)
 clear hBV0 hn1 hI1 hl1 hc1 hd1 hg7 kn hV hB1
 refine wp_region_specs W1 [Spec.eq (.agg #[.int .i64 k1,.slice A1 n1 c1]),Spec.eq (.agg #[.int .i64 k1,.slice A1 n1 c1]),Spec.eq (.int .i64 how),Spec.eq (.int .i64 by_),sVB ,sV2 ,sV2 ]
  (by kernel_rfl) (by kernel_rfl) rfl (by kernel_rfl) (Below.drew (Below.refl _ _)) ?_ ?_
 ·
  refine RegSteps.cons ?_ ?_
  ·intro _ az wz hC hF hD _ K hK
   have q7:az.tmps[7]? = some (.pointer (some ⟨g7,0,none⟩)):=hF 7 rfl
   obtain ⟨z0,z1,_⟩:=(HV.out.1.on hC).all2
   clear hF hD
   refine want_none rfl ?_
   go_simp
   exact hK _ _ hC (Below.refl _ _) rfl
  refine RegSteps.cons ?_ ?_
  ·intro _ az wz hC hF hD _ K hK
   have q7:az.tmps[7]? = some (.pointer (some ⟨g7,0,none⟩)):=hF 7 rfl
   obtain ⟨z0,z1,_⟩:=(HV.out.1.on hC).all2
   clear hF hD
   refine want_none rfl ?_
   go_simp
   exact hK _ _ hC (Below.refl _ _) rfl
  refine RegSteps.cons ?_ ?_
  ·intro _ az wz hC hF hD _ K hK
   have q1:az.tmps[1]? = some (.int .i64 how):=hF 1 rfl
   clear hF hD
   refine want_none rfl ?_
   go_simp
   exact hK _ _ hC (Below.refl _ _) rfl
  refine RegSteps.cons ?_ ?_
  ·intro _ az wz hC hF hD _ K hK
   have q2:az.tmps[2]? = some (.int .i64 by_):=hF 2 rfl
   clear hF hD
   refine want_none rfl ?_
   go_simp
   exact hK _ _ hC (Below.refl _ _) rfl
  refine RegSteps.cons ?_ ?_
  ·intro _ az wz hC hF hD _ K hK
   obtain ⟨_,q19,rfl⟩:=dep hD 1 rfl rfl rfl rfl
   obtain ⟨_,q20,rfl⟩:=dep hD 2 rfl rfl rfl rfl
   obtain ⟨_,q21,rfl⟩:=dep hD 3 rfl rfl rfl rfl
   clear hF hD
   refine want_none rfl ?_
   go_simp
   refine (HBV.out _ hC).mono ?_
   rintro e wy ⟨x,rfl,k,hx⟩
   exact hK _ _ (Below.call hC k) k ⟨x,rfl,hx⟩
  refine RegSteps.cons ?_ ?_
  ·intro _ az wz hC hF hD _ K hK
   obtain ⟨_,q18,rfl⟩:=dep hD 0 rfl rfl rfl rfl
   obtain ⟨_,q22,x22,rfl,hx22⟩:=dep hD 4 rfl rfl rfl rfl
   obtain ⟨k2,l2,A2,c2,e2,hI2,hl2,hc2,hd2⟩:=hx22
   subst e2
   have hI1_:IntsAt wz (fun _=>True) A1 l1:=(HI1.out.1.on hC).keep (Nat.le_refl _) fun _ _ _=>⟨trivial,rfl⟩
   have hn1_:=HN1.out
   subst hn1_
   clear hF hD
   refine want_none rfl ?_
   go_simp
   exact hK _ _ (Below.alloc hC hC.size _) (below_new _ _) ⟨_,rfl,V2.mk ⟨hI1_,by have:=HI1.out.2.1;omega,HI1.out.2.2⟩ ⟨hI2,hl2,hc2,hd2⟩⟩
  refine RegSteps.cons ?_ ?_
  ·intro _ az wz hC hF hD _ K hK
   obtain ⟨_,q23,x23,rfl,hx23⟩:=dep hD 5 rfl rfl rfl rfl
   clear hF hD
   refine want_none rfl ?_
   go_simp
   exact hK _ _ hC (Below.refl _ _) ⟨x23,rfl,hx23⟩
  exact RegSteps.nil
 intro w2 hC2
 rintro _ rfl _ rfl _ rfl _ rfl _ ⟨y22,rfl,_⟩ _ ⟨y23,rfl,_⟩ _ ⟨y8,rfl,hy8⟩
 simp only [FinOK,Act.put,List.setIfInBounds_toArray,List.set_cons_zero,List.set_cons_succ]
 have HX:=Lib.hid hy8
 have HB2:=Lib.hid (And.intro (Below.call HK.out hC2) hC2)
 clear hC2 hy8 HBV HI1 HN1 HV HK HB
 go_wp2_with fail
 go_loopw [9] (fun s wr=>∃ i:Nat,i≤2∧s=.int .i64 (i:Int)∧Below w2.heap.size w2 wr) (fun s _=>2 - (intOf s).toNat)
 case atStart=>exact ⟨0,by omega,rfl,Below.refl _ _⟩
 case round=>
  obtain ⟨i,hi,rfl,hB⟩:=hrel
  have hcase:i=0∨i=1∨i=2:=by omega
  rcases hcase with rfl | rfl | rfl
  ·
   obtain ⟨K,l,A,c,z0,z1,hI,hl,hc,hd⟩:=HX.out.2 0 (by omega)
   have x0:wr.cell? ⟨y8,0,none⟩=some (.int .i64 K):=(hB.cell (p:=⟨y8,0,none⟩) HX.out.1).trans z0
   have x1:wr.cell? ⟨y8,1,none⟩=some (.slice A l.length c):=(hB.cell (p:=⟨y8,1,none⟩) HX.out.1).trans z1
   have hPr0:∀ u,Below w2.heap.size w2 u→Calls Tryz.prog 18 #[.agg #[.int .i64 0,.int .i64 0,.string ⟨#[]⟩,.int .i64 0,.int .i64 0,.int .i64 0,.int .i64 0,.int .i64 0,.int .i64 0,.slice none 0 0,.int .i64 K,.slice A l.length c,.int .i64 0,.int .i64 0]] u fun e w'=>e=.returned (.tuple #[.string ⟨(Qy.printQ (qvw K l)).1.toArray⟩,.int .i64 (Qy.printQ (qvw K l)).2])∧Below u.heap.size u w':=fun u hu=>pPrint_any (qvw K l) (by show Qy.nodes (Qy.kidsR 0 [])≤1000000;decide) (by show l.length≤1000000;omega) _ u ((HT.out.on HB2.out.1).on hu) (qvw_is (hI.on hu) hc hd)
   have hVV0:∀ u,Below w2.heap.size w2 u→Calls Tryz.prog 23 #[.agg #[.int .i64 K,.slice A l.length c]] u (RetInt u (if Qy.viewOK K l=true then 0 else 1)):=fun u hu=>pView_any (hI.on hu) (by omega)
   have HPr:=Lib.hid hPr0
   have HVV0:=Lib.hid hVV0
   have HI:=Lib.hid (And.intro hI (And.intro hl (And.intro hc (And.intro hd (And.intro z0 z1)))))
   obtain ⟨m,hm⟩:∃ m,l.length=m:=⟨_,rfl⟩
   have HM:=Lib.hid hm
   have HBr:=Lib.hid hB
   rw [hm] at x1 HPr HVV0
   clear hPr0 hVV0 hm hI hl hc hd z0 z1 hB hi
   by_cases hok:Qy.viewOK K l=true
   ·rw [qvw_print hok] at HPr
    rw [if_pos hok] at HVV0
    have HOK:=Lib.hid hok
    have hTl:=qvw_len hok
    have hPa:=qvw_parse hok
    obtain ⟨T,hTT⟩:∃ T,Qy.printT (qvw K l)=T:=⟨_,rfl⟩
    rw [hTT] at hTl hPa HPr
    have HPa:Hid (∀ u,Calls Tryz.prog 13 #[.string ⟨T.toArray⟩] u (ParseR u (qvw K l,0,0))):=Lib.hid fun u=>by rw [← hPa];exact qParse T u (by omega)
    clear hok hTl hPa hTT
    go_wp2_with fail
    refine (HPr.out _ HBr.out).mono ?_
    rintro e w3 ⟨rfl,k3⟩
    have HB3:=Lib.hid (Below.trans HBr.out (k3.mono HBr.out.size))
    have y0:=(k3.cell (p:=⟨y8,0,none⟩) (Nat.lt_of_lt_of_le HX.out.1 HBr.out.size)).trans x0
    have y1:=(k3.cell (p:=⟨y8,1,none⟩) (Nat.lt_of_lt_of_le HX.out.1 HBr.out.size)).trans x1
    clear x0 x1 k3
    go_wp2_with fail
    refine (HVV0.out _ HB3.out).mono ?_
    rintro e w4 ⟨rfl,k4⟩
    have HB4:=Lib.hid (Below.trans HB3.out (k4.mono HB3.out.size))
    clear y0 y1 k4
    go_wp2_with fail
    refine (HPa.out _).mono ?_
    rintro e w6 ⟨v,rfl,hq,hb6⟩
    obtain ⟨an0,as1,an2,an3,an4,an5,an6,an7,aA8,al8,ac8,vA,vl,vc,rfl,hvl,_,hIq,hq1,hq2⟩:=hq.lit
    simp only [qvw] at hvl hIq hq1 ⊢
    rw [HM.out] at hvl hq1
    subst hvl
    have HB6:=Lib.hid (Below.trans HB4.out (hb6.mono HB4.out.size))
    have HIq:=Lib.hid (And.intro hIq (And.intro hq1 hq2))
    clear hIq hq1 hq2 hb6 hq
    go_upto_region 12 with fail
    refine wp_new1 fun W4 hOq kn=>?_
    obtain ⟨gq,hgq⟩:∃ g,w6.heap.size=g:=⟨_,rfl⟩
    rw [hgq] at hOq ⊢
    have hB4w:=Below.trans HB6.out (kn.mono HB6.out.size)
    have HB7:=Lib.hid hB4w
    have HOq:=Lib.hid hOq
    have HC4:=Lib.hid (And.intro (Nat.lt_of_lt_of_le HX.out.1 hB4w.size) (And.intro ((hB4w.cell (p:=⟨y8,0,none⟩) HX.out.1).trans HI.out.2.2.2.2.1) (show W4.cell? ⟨y8,1,none⟩=some (.slice A vl c) from (hB4w.cell (p:=⟨y8,1,none⟩) HX.out.1).trans (by rw [← HM.out];exact HI.out.2.2.2.2.2))))
    have HSI:Hid (∀ u,Below W4.heap.size W4 u→Calls Tryz.prog 24 #[.slice vA vl vc,.slice A vl c] u (RetB u true)):=Lib.hid fun u hu=>by
     have h:=SameInts_any (c:=vc) (c':=c) (w:=u) ((HIq.out.1.on kn).on hu) ((HI.out.1.on hB4w).on hu) (by have:=HI.out.2.1;omega) (by have:=HI.out.2.1;omega)
     rw [HM.out,decide_eq_true (rfl:l=l)] at h
     exact h
    have HVV:Hid (∀ u,Below W4.heap.size W4 u→Calls Tryz.prog 23 #[.agg #[.int .i64 K,.slice vA vl vc]] u (RetInt u 0)):=Lib.hid fun u hu=>by
     have h:=pView_any (k:=K) (c:=vc) ((HIq.out.1.on kn).on hu) (by have:=HI.out.2.1;omega)
     rw [HM.out,if_pos HOK.out] at h
     exact h
    clear hOq kn hgq hB4w HVV0 HPr HPa HB6 HB4 HB3
    refine wp_region_specs W4 [Spec.eq (.int .i64 0),Spec.eq (.bool false),Spec.eq (.bool false),Spec.eq (.pointer (some ⟨gq,10,none⟩)),Spec.eq (.pointer (some ⟨gq,10,none⟩)),Spec.eq (.int .i64 K),Spec.eq (.slice (some ⟨y8,0,none⟩) 2 2),Spec.eq (.int .i64 0),Spec.eq (.pointer (some ⟨y8,0,none⟩)),Spec.eq (.pointer (some ⟨y8,0,none⟩)),Spec.eq (.int .i64 K),Spec.eq (.bool false),Spec.eq (.bool false),Spec.eq (.bool false),Spec.eq (.pointer (some ⟨gq,10,none⟩)),Spec.eq (.pointer (some ⟨gq,11,none⟩)),Spec.eq (.slice vA vl vc),Spec.eq (.slice (some ⟨y8,0,none⟩) 2 2),Spec.eq (.int .i64 0),Spec.eq (.pointer (some ⟨y8,0,none⟩)),Spec.eq (.pointer (some ⟨y8,1,none⟩)),Spec.eq (.slice A vl c),Spec.eq (.bool true),Spec.eq (.bool false),Spec.eq (.bool false),Spec.eq (.bool false),Spec.eq (.pointer (some ⟨gq,10,none⟩)),Spec.eq (.agg #[.int .i64 K,.slice vA vl vc]),Spec.eq (.int .i64 0),Spec.eq (.bool false),Spec.eq (.bool false)]
     (by kernel_rfl) (by kernel_rfl) rfl (by kernel_rfl) (Below.drew (Below.refl _ _)) ?_ ?_
    ·
     refine RegSteps.cons ?_ ?_
     ·intro _ az wz hC hF hD _ K hK
      have q15:az.tmps[15]? = some (.int .i64 0):=hF 15 rfl
      clear hF hD
      refine want_none rfl ?_
      go_simp
      exact hK _ _ hC (Below.refl _ _) rfl
     refine RegSteps.cons ?_ ?_
     ·intro _ az wz hC hF hD _ K hK
      obtain ⟨_,q53,rfl⟩:=dep hD 0 rfl rfl rfl rfl
      clear hF hD
      refine want_none rfl ?_
      go_simp
      exact hK _ _ hC (Below.refl _ _) rfl
     refine RegSteps.cons ?_ ?_
     ·intro _ az wz hC hF hD _ K hK
      obtain ⟨_,q54,rfl⟩:=dep hD 1 rfl rfl rfl rfl
      clear hF hD
      refine want_none rfl ?_
      go_simp
      exact hK _ _ hC (Below.refl _ _) rfl
     refine RegSteps.cons ?_ ?_
     ·intro _ az wz hC hF hD _ K hK
      have q13:az.tmps[13]? = some (.pointer (some ⟨gq,0,none⟩)):=hF 13 rfl
      obtain ⟨_,qg,rfl⟩:=dep hD 2 rfl rfl rfl rfl
      clear hF hD
      refine want_yes rfl rfl rfl qg ?_
      go_simp
      exact hK _ _ hC (Below.refl _ _) rfl
     refine RegSteps.cons ?_ ?_
     ·intro _ az wz hC hF hD _ K hK
      obtain ⟨_,q56,rfl⟩:=dep hD 3 rfl rfl rfl rfl
      obtain ⟨_,qg,rfl⟩:=dep hD 2 rfl rfl rfl rfl
      clear hF hD
      refine want_yes rfl rfl rfl qg ?_
      go_simp
      exact hK _ _ hC (Below.refl _ _) rfl
     refine RegSteps.cons ?_ ?_
     ·intro _ az wz hC hF hD _ K hK
      obtain ⟨_,q57,rfl⟩:=dep hD 4 rfl rfl rfl rfl
      obtain ⟨_,qg,rfl⟩:=dep hD 2 rfl rfl rfl rfl
      obtain ⟨⟨z0,z1,z2,z3,z4,z5,z6,z7,z8,z9,z10,z11,z12,z13⟩,_⟩:=(HOq.out.on hC).all14
      clear hF hD
      refine want_yes rfl rfl rfl qg ?_
      go_simp
      exact hK _ _ hC (Below.refl _ _) rfl
     refine RegSteps.cons ?_ ?_
     ·intro _ az wz hC hF hD _ K hK
      have q8:az.tmps[8]? = some (.slice (some ⟨y8,0,none⟩) 2 2):=hF 8 rfl
      obtain ⟨_,qg,rfl⟩:=dep hD 2 rfl rfl rfl rfl
      clear hF hD
      refine want_yes rfl rfl rfl qg ?_
      go_simp
      exact hK _ _ hC (Below.refl _ _) rfl
     refine RegSteps.cons ?_ ?_
     ·intro _ az wz hC hF hD _ K hK
      have q9:az.tmps[9]? = some (.int .i64 0):=hF 9 rfl
      obtain ⟨_,qg,rfl⟩:=dep hD 2 rfl rfl rfl rfl
      clear hF hD
      refine want_yes rfl rfl rfl qg ?_
      go_simp
      exact hK _ _ hC (Below.refl _ _) rfl
     refine RegSteps.cons ?_ ?_
     ·intro _ az wz hC hF hD _ K hK
      obtain ⟨_,q59,rfl⟩:=dep hD 6 rfl rfl rfl rfl
      obtain ⟨_,q60,rfl⟩:=dep hD 7 rfl rfl rfl rfl
      obtain ⟨_,qg,rfl⟩:=dep hD 2 rfl rfl rfl rfl
      clear hF hD
      refine want_yes rfl rfl rfl qg ?_
      go_simp
      exact hK _ _ hC (Below.refl _ _) rfl
     refine RegSteps.cons ?_ ?_
     ·intro _ az wz hC hF hD _ K hK
      obtain ⟨_,q61,rfl⟩:=dep hD 8 rfl rfl rfl rfl
      obtain ⟨_,qg,rfl⟩:=dep hD 2 rfl rfl rfl rfl
      clear hF hD
      refine want_yes rfl rfl rfl qg ?_
      go_simp
      exact hK _ _ hC (Below.refl _ _) rfl
     refine RegSteps.cons ?_ ?_
     ·intro _ az wz hC hF hD _ K hK
      obtain ⟨_,q62,rfl⟩:=dep hD 9 rfl rfl rfl rfl
      obtain ⟨_,qg,rfl⟩:=dep hD 2 rfl rfl rfl rfl
      have v0:=(hC.cell HC4.out.1).trans HC4.out.2.1
      have v1:=(hC.cell HC4.out.1).trans HC4.out.2.2
      clear hF hD
      refine want_yes rfl rfl rfl qg ?_
      go_simp
      exact hK _ _ hC (Below.refl _ _) rfl
     refine RegSteps.cons ?_ ?_
     ·intro _ az wz hC hF hD _ K hK
      obtain ⟨_,q58,rfl⟩:=dep hD 5 rfl rfl rfl rfl
      obtain ⟨_,q63,rfl⟩:=dep hD 10 rfl rfl rfl rfl
      obtain ⟨_,qg,rfl⟩:=dep hD 2 rfl rfl rfl rfl
      clear hF hD
      refine want_yes rfl rfl rfl qg ?_
      go_simp
      exact hK _ _ hC (Below.refl _ _) rfl
     refine RegSteps.cons ?_ ?_
     ·intro _ az wz hC hF hD _ K hK
      obtain ⟨_,q55,rfl⟩:=dep hD 2 rfl rfl rfl rfl
      obtain ⟨_,q64,rfl⟩:=dep hD 11 rfl rfl rfl rfl
      clear hF hD
      refine want_none rfl ?_
      go_simp
      exact hK _ _ hC (Below.refl _ _) rfl
     refine RegSteps.cons ?_ ?_
     ·intro _ az wz hC hF hD _ K hK
      obtain ⟨_,q65,rfl⟩:=dep hD 12 rfl rfl rfl rfl
      clear hF hD
      refine want_none rfl ?_
      go_simp
      exact hK _ _ hC (Below.refl _ _) rfl
     refine RegSteps.cons ?_ ?_
     ·intro _ az wz hC hF hD _ K hK
      have q13:az.tmps[13]? = some (.pointer (some ⟨gq,0,none⟩)):=hF 13 rfl
      obtain ⟨_,qg,rfl⟩:=dep hD 13 rfl rfl rfl rfl
      clear hF hD
      refine want_yes rfl rfl rfl qg ?_
      go_simp
      exact hK _ _ hC (Below.refl _ _) rfl
     refine RegSteps.cons ?_ ?_
     ·intro _ az wz hC hF hD _ K hK
      obtain ⟨_,q67,rfl⟩:=dep hD 14 rfl rfl rfl rfl
      obtain ⟨_,qg,rfl⟩:=dep hD 13 rfl rfl rfl rfl
      clear hF hD
      refine want_yes rfl rfl rfl qg ?_
      go_simp
      exact hK _ _ hC (Below.refl _ _) rfl
     refine RegSteps.cons ?_ ?_
     ·intro _ az wz hC hF hD _ K hK
      obtain ⟨_,q68,rfl⟩:=dep hD 15 rfl rfl rfl rfl
      obtain ⟨_,qg,rfl⟩:=dep hD 13 rfl rfl rfl rfl
      obtain ⟨⟨z0,z1,z2,z3,z4,z5,z6,z7,z8,z9,z10,z11,z12,z13⟩,_⟩:=(HOq.out.on hC).all14
      clear hF hD
      refine want_yes rfl rfl rfl qg ?_
      go_simp
      exact hK _ _ hC (Below.refl _ _) rfl
     refine RegSteps.cons ?_ ?_
     ·intro _ az wz hC hF hD _ K hK
      have q8:az.tmps[8]? = some (.slice (some ⟨y8,0,none⟩) 2 2):=hF 8 rfl
      obtain ⟨_,qg,rfl⟩:=dep hD 13 rfl rfl rfl rfl
      clear hF hD
      refine want_yes rfl rfl rfl qg ?_
      go_simp
      exact hK _ _ hC (Below.refl _ _) rfl
     refine RegSteps.cons ?_ ?_
     ·intro _ az wz hC hF hD _ K hK
      have q9:az.tmps[9]? = some (.int .i64 0):=hF 9 rfl
      obtain ⟨_,qg,rfl⟩:=dep hD 13 rfl rfl rfl rfl
      clear hF hD
      refine want_yes rfl rfl rfl qg ?_
      go_simp
      exact hK _ _ hC (Below.refl _ _) rfl
     refine RegSteps.cons ?_ ?_
     ·intro _ az wz hC hF hD _ K hK
      obtain ⟨_,q70,rfl⟩:=dep hD 17 rfl rfl rfl rfl
      obtain ⟨_,q71,rfl⟩:=dep hD 18 rfl rfl rfl rfl
      obtain ⟨_,qg,rfl⟩:=dep hD 13 rfl rfl rfl rfl
      clear hF hD
      refine want_yes rfl rfl rfl qg ?_
      go_simp
      exact hK _ _ hC (Below.refl _ _) rfl
     refine RegSteps.cons ?_ ?_
     ·intro _ az wz hC hF hD _ K hK
      obtain ⟨_,q72,rfl⟩:=dep hD 19 rfl rfl rfl rfl
      obtain ⟨_,qg,rfl⟩:=dep hD 13 rfl rfl rfl rfl
      clear hF hD
      refine want_yes rfl rfl rfl qg ?_
      go_simp
      exact hK _ _ hC (Below.refl _ _) rfl
     refine RegSteps.cons ?_ ?_
     ·intro _ az wz hC hF hD _ K hK
      obtain ⟨_,q73,rfl⟩:=dep hD 20 rfl rfl rfl rfl
      obtain ⟨_,qg,rfl⟩:=dep hD 13 rfl rfl rfl rfl
      have v0:=(hC.cell HC4.out.1).trans HC4.out.2.1
      have v1:=(hC.cell HC4.out.1).trans HC4.out.2.2
      clear hF hD
      refine want_yes rfl rfl rfl qg ?_
      go_simp
      exact hK _ _ hC (Below.refl _ _) rfl
     refine RegSteps.cons ?_ ?_
     ·intro _ az wz hC hF hD _ K hK
      obtain ⟨_,q69,rfl⟩:=dep hD 16 rfl rfl rfl rfl
      obtain ⟨_,q74,rfl⟩:=dep hD 21 rfl rfl rfl rfl
      obtain ⟨_,qg,rfl⟩:=dep hD 13 rfl rfl rfl rfl
      clear hF hD
      refine want_yes rfl rfl rfl qg ?_
      go_simp
      refine (HSI.out _ hC).mono ?_
      rintro e wy ⟨rfl,k⟩
      exact hK _ _ (Below.call hC k) k rfl
     refine RegSteps.cons ?_ ?_
     ·intro _ az wz hC hF hD _ K hK
      obtain ⟨_,q75,rfl⟩:=dep hD 22 rfl rfl rfl rfl
      obtain ⟨_,qg,rfl⟩:=dep hD 13 rfl rfl rfl rfl
      clear hF hD
      refine want_yes rfl rfl rfl qg ?_
      go_simp
      exact hK _ _ hC (Below.refl _ _) rfl
     refine RegSteps.cons ?_ ?_
     ·intro _ az wz hC hF hD _ K hK
      obtain ⟨_,q66,rfl⟩:=dep hD 13 rfl rfl rfl rfl
      obtain ⟨_,q76,rfl⟩:=dep hD 23 rfl rfl rfl rfl
      clear hF hD
      refine want_none rfl ?_
      go_simp
      exact hK _ _ hC (Below.refl _ _) rfl
     refine RegSteps.cons ?_ ?_
     ·intro _ az wz hC hF hD _ K hK
      obtain ⟨_,q77,rfl⟩:=dep hD 24 rfl rfl rfl rfl
      clear hF hD
      refine want_none rfl ?_
      go_simp
      exact hK _ _ hC (Below.refl _ _) rfl
     refine RegSteps.cons ?_ ?_
     ·intro _ az wz hC hF hD _ K hK
      have q13:az.tmps[13]? = some (.pointer (some ⟨gq,0,none⟩)):=hF 13 rfl
      obtain ⟨_,qg,rfl⟩:=dep hD 25 rfl rfl rfl rfl
      clear hF hD
      refine want_yes rfl rfl rfl qg ?_
      go_simp
      exact hK _ _ hC (Below.refl _ _) rfl
     refine RegSteps.cons ?_ ?_
     ·intro _ az wz hC hF hD _ K hK
      obtain ⟨_,q79,rfl⟩:=dep hD 26 rfl rfl rfl rfl
      obtain ⟨_,qg,rfl⟩:=dep hD 25 rfl rfl rfl rfl
      obtain ⟨⟨z0,z1,z2,z3,z4,z5,z6,z7,z8,z9,z10,z11,z12,z13⟩,_⟩:=(HOq.out.on hC).all14
      clear hF hD
      refine want_yes rfl rfl rfl qg ?_
      go_simp
      exact hK _ _ hC (Below.refl _ _) rfl
     refine RegSteps.cons ?_ ?_
     ·intro _ az wz hC hF hD _ K hK
      obtain ⟨_,q80,rfl⟩:=dep hD 27 rfl rfl rfl rfl
      obtain ⟨_,qg,rfl⟩:=dep hD 25 rfl rfl rfl rfl
      clear hF hD
      refine want_yes rfl rfl rfl qg ?_
      go_simp
      refine (HVV.out _ hC).mono ?_
      rintro e wy ⟨rfl,k⟩
      exact hK _ _ (Below.call hC k) k rfl
     refine RegSteps.cons ?_ ?_
     ·intro _ az wz hC hF hD _ K hK
      obtain ⟨_,q81,rfl⟩:=dep hD 28 rfl rfl rfl rfl
      obtain ⟨_,qg,rfl⟩:=dep hD 25 rfl rfl rfl rfl
      clear hF hD
      refine want_yes rfl rfl rfl qg ?_
      go_simp
      exact hK _ _ hC (Below.refl _ _) rfl
     refine RegSteps.cons ?_ ?_
     ·intro _ az wz hC hF hD _ K hK
      obtain ⟨_,q78,rfl⟩:=dep hD 25 rfl rfl rfl rfl
      obtain ⟨_,q82,rfl⟩:=dep hD 29 rfl rfl rfl rfl
      clear hF hD
      refine want_none rfl ?_
      go_simp
      exact hK _ _ hC (Below.refl _ _) rfl
     exact RegSteps.nil
    intro w5 hC5
    rintro _ rfl _ rfl _ rfl _ rfl _ rfl _ rfl _ rfl _ rfl _ rfl _ rfl _ rfl _ rfl _ rfl _ rfl _ rfl _ rfl _ rfl _ rfl _ rfl _ rfl _ rfl _ rfl _ rfl _ rfl _ rfl _ rfl _ rfl _ rfl _ rfl _ rfl _ rfl
    simp only [FinOK,Act.put,List.setIfInBounds_toArray,List.set_cons_zero,List.set_cons_succ]
    have HB8:=Lib.hid (Below.trans HB7.out (hC5.mono HB7.out.size))
    clear hC5 HOq HC4 HSI HVV HB7
    go_wp2_with fail
    go_roundw
    case rel=>exact ⟨1,by omega,by go_num,HB8.out⟩
    case measure=>simp [intOf]
   ·have hv1:=qvw_valid K l
    rw [if_neg hok] at HVV0 hv1
    have hpq:Qy.printQ (qvw K l)=([],1):=by unfold Qy.printQ;rw [if_pos (by omega),hv1]
    rw [hpq] at HPr
    clear hok hv1 hpq
    go_wp2_with fail
    refine (HPr.out _ HBr.out).mono ?_
    rintro e w3 ⟨rfl,k3⟩
    have HB3:=Lib.hid (Below.trans HBr.out (k3.mono HBr.out.size))
    have y0:=(k3.cell (p:=⟨y8,0,none⟩) (Nat.lt_of_lt_of_le HX.out.1 HBr.out.size)).trans x0
    have y1:=(k3.cell (p:=⟨y8,1,none⟩) (Nat.lt_of_lt_of_le HX.out.1 HBr.out.size)).trans x1
    clear x0 x1 k3
    go_wp2_with fail
    refine (HVV0.out _ HB3.out).mono ?_
    rintro e w4 ⟨rfl,k4⟩
    have HB4:=Lib.hid (Below.trans HB3.out (k4.mono HB3.out.size))
    clear y0 y1 k4
    go_wp2_with fail
    go_roundw
    case rel=>exact ⟨1,by omega,by go_num,HB4.out⟩
    case measure=>simp [intOf]
  ·
   obtain ⟨K,l,A,c,z0,z1,hI,hl,hc,hd⟩:=HX.out.2 1 (by omega)
   have x0:wr.cell? ⟨y8,2,none⟩=some (.int .i64 K):=(hB.cell (p:=⟨y8,2,none⟩) HX.out.1).trans z0
   have x1:wr.cell? ⟨y8,3,none⟩=some (.slice A l.length c):=(hB.cell (p:=⟨y8,3,none⟩) HX.out.1).trans z1
   have hPr0:∀ u,Below w2.heap.size w2 u→Calls Tryz.prog 18 #[.agg #[.int .i64 0,.int .i64 0,.string ⟨#[]⟩,.int .i64 0,.int .i64 0,.int .i64 0,.int .i64 0,.int .i64 0,.int .i64 0,.slice none 0 0,.int .i64 K,.slice A l.length c,.int .i64 0,.int .i64 0]] u fun e w'=>e=.returned (.tuple #[.string ⟨(Qy.printQ (qvw K l)).1.toArray⟩,.int .i64 (Qy.printQ (qvw K l)).2])∧Below u.heap.size u w':=fun u hu=>pPrint_any (qvw K l) (by show Qy.nodes (Qy.kidsR 0 [])≤1000000;decide) (by show l.length≤1000000;omega) _ u ((HT.out.on HB2.out.1).on hu) (qvw_is (hI.on hu) hc hd)
   have hVV0:∀ u,Below w2.heap.size w2 u→Calls Tryz.prog 23 #[.agg #[.int .i64 K,.slice A l.length c]] u (RetInt u (if Qy.viewOK K l=true then 0 else 1)):=fun u hu=>pView_any (hI.on hu) (by omega)
   have HPr:=Lib.hid hPr0
   have HVV0:=Lib.hid hVV0
   have HI:=Lib.hid (And.intro hI (And.intro hl (And.intro hc (And.intro hd (And.intro z0 z1)))))
   obtain ⟨m,hm⟩:∃ m,l.length=m:=⟨_,rfl⟩
   have HM:=Lib.hid hm
   have HBr:=Lib.hid hB
   rw [hm] at x1 HPr HVV0
   clear hPr0 hVV0 hm hI hl hc hd z0 z1 hB hi
   by_cases hok:Qy.viewOK K l=true
   ·rw [qvw_print hok] at HPr
    rw [if_pos hok] at HVV0
    have HOK:=Lib.hid hok
    have hTl:=qvw_len hok
    have hPa:=qvw_parse hok
    obtain ⟨T,hTT⟩:∃ T,Qy.printT (qvw K l)=T:=⟨_,rfl⟩
    rw [hTT] at hTl hPa HPr
    have HPa:Hid (∀ u,Calls Tryz.prog 13 #[.string ⟨T.toArray⟩] u (ParseR u (qvw K l,0,0))):=Lib.hid fun u=>by rw [← hPa];exact qParse T u (by omega)
    clear hok hTl hPa hTT
    go_wp2_with fail
    refine (HPr.out _ HBr.out).mono ?_
    rintro e w3 ⟨rfl,k3⟩
    have HB3:=Lib.hid (Below.trans HBr.out (k3.mono HBr.out.size))
    have y0:=(k3.cell (p:=⟨y8,2,none⟩) (Nat.lt_of_lt_of_le HX.out.1 HBr.out.size)).trans x0
    have y1:=(k3.cell (p:=⟨y8,3,none⟩) (Nat.lt_of_lt_of_le HX.out.1 HBr.out.size)).trans x1
    clear x0 x1 k3
    go_wp2_with fail
    refine (HVV0.out _ HB3.out).mono ?_
    rintro e w4 ⟨rfl,k4⟩
    have HB4:=Lib.hid (Below.trans HB3.out (k4.mono HB3.out.size))
    clear y0 y1 k4
    go_wp2_with fail
    refine (HPa.out _).mono ?_
    rintro e w6 ⟨v,rfl,hq,hb6⟩
    obtain ⟨an0,as1,an2,an3,an4,an5,an6,an7,aA8,al8,ac8,vA,vl,vc,rfl,hvl,_,hIq,hq1,hq2⟩:=hq.lit
    simp only [qvw] at hvl hIq hq1 ⊢
    rw [HM.out] at hvl hq1
    subst hvl
    have HB6:=Lib.hid (Below.trans HB4.out (hb6.mono HB4.out.size))
    have HIq:=Lib.hid (And.intro hIq (And.intro hq1 hq2))
    clear hIq hq1 hq2 hb6 hq
    go_upto_region 12 with fail
    refine wp_new1 fun W4 hOq kn=>?_
    obtain ⟨gq,hgq⟩:∃ g,w6.heap.size=g:=⟨_,rfl⟩
    rw [hgq] at hOq ⊢
    have hB4w:=Below.trans HB6.out (kn.mono HB6.out.size)
    have HB7:=Lib.hid hB4w
    have HOq:=Lib.hid hOq
    have HC4:=Lib.hid (And.intro (Nat.lt_of_lt_of_le HX.out.1 hB4w.size) (And.intro ((hB4w.cell (p:=⟨y8,2,none⟩) HX.out.1).trans HI.out.2.2.2.2.1) (show W4.cell? ⟨y8,3,none⟩=some (.slice A vl c) from (hB4w.cell (p:=⟨y8,3,none⟩) HX.out.1).trans (by rw [← HM.out];exact HI.out.2.2.2.2.2))))
    have HSI:Hid (∀ u,Below W4.heap.size W4 u→Calls Tryz.prog 24 #[.slice vA vl vc,.slice A vl c] u (RetB u true)):=Lib.hid fun u hu=>by
     have h:=SameInts_any (c:=vc) (c':=c) (w:=u) ((HIq.out.1.on kn).on hu) ((HI.out.1.on hB4w).on hu) (by have:=HI.out.2.1;omega) (by have:=HI.out.2.1;omega)
     rw [HM.out,decide_eq_true (rfl:l=l)] at h
     exact h
    have HVV:Hid (∀ u,Below W4.heap.size W4 u→Calls Tryz.prog 23 #[.agg #[.int .i64 K,.slice vA vl vc]] u (RetInt u 0)):=Lib.hid fun u hu=>by
     have h:=pView_any (k:=K) (c:=vc) ((HIq.out.1.on kn).on hu) (by have:=HI.out.2.1;omega)
     rw [HM.out,if_pos HOK.out] at h
     exact h
    clear hOq kn hgq hB4w HVV0 HPr HPa HB6 HB4 HB3
    refine wp_region_specs W4 [Spec.eq (.int .i64 0),Spec.eq (.bool false),Spec.eq (.bool false),Spec.eq (.pointer (some ⟨gq,10,none⟩)),Spec.eq (.pointer (some ⟨gq,10,none⟩)),Spec.eq (.int .i64 K),Spec.eq (.slice (some ⟨y8,0,none⟩) 2 2),Spec.eq (.int .i64 1),Spec.eq (.pointer (some ⟨y8,2,none⟩)),Spec.eq (.pointer (some ⟨y8,2,none⟩)),Spec.eq (.int .i64 K),Spec.eq (.bool false),Spec.eq (.bool false),Spec.eq (.bool false),Spec.eq (.pointer (some ⟨gq,10,none⟩)),Spec.eq (.pointer (some ⟨gq,11,none⟩)),Spec.eq (.slice vA vl vc),Spec.eq (.slice (some ⟨y8,0,none⟩) 2 2),Spec.eq (.int .i64 1),Spec.eq (.pointer (some ⟨y8,2,none⟩)),Spec.eq (.pointer (some ⟨y8,3,none⟩)),Spec.eq (.slice A vl c),Spec.eq (.bool true),Spec.eq (.bool false),Spec.eq (.bool false),Spec.eq (.bool false),Spec.eq (.pointer (some ⟨gq,10,none⟩)),Spec.eq (.agg #[.int .i64 K,.slice vA vl vc]),Spec.eq (.int .i64 0),Spec.eq (.bool false),Spec.eq (.bool false)]
     (by kernel_rfl) (by kernel_rfl) rfl (by kernel_rfl) (Below.drew (Below.refl _ _)) ?_ ?_
    ·
     refine RegSteps.cons ?_ ?_
     ·intro _ az wz hC hF hD _ K hK
      have q15:az.tmps[15]? = some (.int .i64 0):=hF 15 rfl
      clear hF hD
      refine want_none rfl ?_
      go_simp
      exact hK _ _ hC (Below.refl _ _) rfl
     refine RegSteps.cons ?_ ?_
     ·intro _ az wz hC hF hD _ K hK
      obtain ⟨_,q53,rfl⟩:=dep hD 0 rfl rfl rfl rfl
      clear hF hD
      refine want_none rfl ?_
      go_simp
      exact hK _ _ hC (Below.refl _ _) rfl
     refine RegSteps.cons ?_ ?_
     ·intro _ az wz hC hF hD _ K hK
      obtain ⟨_,q54,rfl⟩:=dep hD 1 rfl rfl rfl rfl
      clear hF hD
      refine want_none rfl ?_
      go_simp
      exact hK _ _ hC (Below.refl _ _) rfl
     refine RegSteps.cons ?_ ?_
     ·intro _ az wz hC hF hD _ K hK
      have q13:az.tmps[13]? = some (.pointer (some ⟨gq,0,none⟩)):=hF 13 rfl
      obtain ⟨_,qg,rfl⟩:=dep hD 2 rfl rfl rfl rfl
      clear hF hD
      refine want_yes rfl rfl rfl qg ?_
      go_simp
      exact hK _ _ hC (Below.refl _ _) rfl
     refine RegSteps.cons ?_ ?_
     ·intro _ az wz hC hF hD _ K hK
      obtain ⟨_,q56,rfl⟩:=dep hD 3 rfl rfl rfl rfl
      obtain ⟨_,qg,rfl⟩:=dep hD 2 rfl rfl rfl rfl
      clear hF hD
      refine want_yes rfl rfl rfl qg ?_
      go_simp
      exact hK _ _ hC (Below.refl _ _) rfl
     refine RegSteps.cons ?_ ?_
     ·intro _ az wz hC hF hD _ K hK
      obtain ⟨_,q57,rfl⟩:=dep hD 4 rfl rfl rfl rfl
      obtain ⟨_,qg,rfl⟩:=dep hD 2 rfl rfl rfl rfl
      obtain ⟨⟨z0,z1,z2,z3,z4,z5,z6,z7,z8,z9,z10,z11,z12,z13⟩,_⟩:=(HOq.out.on hC).all14
      clear hF hD
      refine want_yes rfl rfl rfl qg ?_
      go_simp
      exact hK _ _ hC (Below.refl _ _) rfl
     refine RegSteps.cons ?_ ?_
     ·intro _ az wz hC hF hD _ K hK
      have q8:az.tmps[8]? = some (.slice (some ⟨y8,0,none⟩) 2 2):=hF 8 rfl
      obtain ⟨_,qg,rfl⟩:=dep hD 2 rfl rfl rfl rfl
      clear hF hD
      refine want_yes rfl rfl rfl qg ?_
      go_simp
      exact hK _ _ hC (Below.refl _ _) rfl
     refine RegSteps.cons ?_ ?_
     ·intro _ az wz hC hF hD _ K hK
      have q9:az.tmps[9]? = some (.int .i64 1):=hF 9 rfl
      obtain ⟨_,qg,rfl⟩:=dep hD 2 rfl rfl rfl rfl
      clear hF hD
      refine want_yes rfl rfl rfl qg ?_
      go_simp
      exact hK _ _ hC (Below.refl _ _) rfl
     refine RegSteps.cons ?_ ?_
     ·intro _ az wz hC hF hD _ K hK
      obtain ⟨_,q59,rfl⟩:=dep hD 6 rfl rfl rfl rfl
      obtain ⟨_,q60,rfl⟩:=dep hD 7 rfl rfl rfl rfl
      obtain ⟨_,qg,rfl⟩:=dep hD 2 rfl rfl rfl rfl
      clear hF hD
      refine want_yes rfl rfl rfl qg ?_
      go_simp
      exact hK _ _ hC (Below.refl _ _) rfl
     refine RegSteps.cons ?_ ?_
     ·intro _ az wz hC hF hD _ K hK
      obtain ⟨_,q61,rfl⟩:=dep hD 8 rfl rfl rfl rfl
      obtain ⟨_,qg,rfl⟩:=dep hD 2 rfl rfl rfl rfl
      clear hF hD
      refine want_yes rfl rfl rfl qg ?_
      go_simp
      exact hK _ _ hC (Below.refl _ _) rfl
     refine RegSteps.cons ?_ ?_
     ·intro _ az wz hC hF hD _ K hK
      obtain ⟨_,q62,rfl⟩:=dep hD 9 rfl rfl rfl rfl
      obtain ⟨_,qg,rfl⟩:=dep hD 2 rfl rfl rfl rfl
      have v0:=(hC.cell HC4.out.1).trans HC4.out.2.1
      have v1:=(hC.cell HC4.out.1).trans HC4.out.2.2
      clear hF hD
      refine want_yes rfl rfl rfl qg ?_
      go_simp
      exact hK _ _ hC (Below.refl _ _) rfl
     refine RegSteps.cons ?_ ?_
     ·intro _ az wz hC hF hD _ K hK
      obtain ⟨_,q58,rfl⟩:=dep hD 5 rfl rfl rfl rfl
      obtain ⟨_,q63,rfl⟩:=dep hD 10 rfl rfl rfl rfl
      obtain ⟨_,qg,rfl⟩:=dep hD 2 rfl rfl rfl rfl
      clear hF hD
      refine want_yes rfl rfl rfl qg ?_
      go_simp
      exact hK _ _ hC (Below.refl _ _) rfl
     refine RegSteps.cons ?_ ?_
     ·intro _ az wz hC hF hD _ K hK
      obtain ⟨_,q55,rfl⟩:=dep hD 2 rfl rfl rfl rfl
      obtain ⟨_,q64,rfl⟩:=dep hD 11 rfl rfl rfl rfl
      clear hF hD
      refine want_none rfl ?_
      go_simp
      exact hK _ _ hC (Below.refl _ _) rfl
     refine RegSteps.cons ?_ ?_
     ·intro _ az wz hC hF hD _ K hK
      obtain ⟨_,q65,rfl⟩:=dep hD 12 rfl rfl rfl rfl
      clear hF hD
      refine want_none rfl ?_
      go_simp
      exact hK _ _ hC (Below.refl _ _) rfl
     refine RegSteps.cons ?_ ?_
     ·intro _ az wz hC hF hD _ K hK
      have q13:az.tmps[13]? = some (.pointer (some ⟨gq,0,none⟩)):=hF 13 rfl
      obtain ⟨_,qg,rfl⟩:=dep hD 13 rfl rfl rfl rfl
      clear hF hD
      refine want_yes rfl rfl rfl qg ?_
      go_simp
      exact hK _ _ hC (Below.refl _ _) rfl
     refine RegSteps.cons ?_ ?_
     ·intro _ az wz hC hF hD _ K hK
      obtain ⟨_,q67,rfl⟩:=dep hD 14 rfl rfl rfl rfl
      obtain ⟨_,qg,rfl⟩:=dep hD 13 rfl rfl rfl rfl
      clear hF hD
      refine want_yes rfl rfl rfl qg ?_
      go_simp
      exact hK _ _ hC (Below.refl _ _) rfl
     refine RegSteps.cons ?_ ?_
     ·intro _ az wz hC hF hD _ K hK
      obtain ⟨_,q68,rfl⟩:=dep hD 15 rfl rfl rfl rfl
      obtain ⟨_,qg,rfl⟩:=dep hD 13 rfl rfl rfl rfl
      obtain ⟨⟨z0,z1,z2,z3,z4,z5,z6,z7,z8,z9,z10,z11,z12,z13⟩,_⟩:=(HOq.out.on hC).all14
      clear hF hD
      refine want_yes rfl rfl rfl qg ?_
      go_simp
      exact hK _ _ hC (Below.refl _ _) rfl
     refine RegSteps.cons ?_ ?_
     ·intro _ az wz hC hF hD _ K hK
      have q8:az.tmps[8]? = some (.slice (some ⟨y8,0,none⟩) 2 2):=hF 8 rfl
      obtain ⟨_,qg,rfl⟩:=dep hD 13 rfl rfl rfl rfl
      clear hF hD
      refine want_yes rfl rfl rfl qg ?_
      go_simp
      exact hK _ _ hC (Below.refl _ _) rfl
     refine RegSteps.cons ?_ ?_
     ·intro _ az wz hC hF hD _ K hK
      have q9:az.tmps[9]? = some (.int .i64 1):=hF 9 rfl
      obtain ⟨_,qg,rfl⟩:=dep hD 13 rfl rfl rfl rfl
      clear hF hD
      refine want_yes rfl rfl rfl qg ?_
      go_simp
      exact hK _ _ hC (Below.refl _ _) rfl
     refine RegSteps.cons ?_ ?_
     ·intro _ az wz hC hF hD _ K hK
      obtain ⟨_,q70,rfl⟩:=dep hD 17 rfl rfl rfl rfl
      obtain ⟨_,q71,rfl⟩:=dep hD 18 rfl rfl rfl rfl
      obtain ⟨_,qg,rfl⟩:=dep hD 13 rfl rfl rfl rfl
      clear hF hD
      refine want_yes rfl rfl rfl qg ?_
      go_simp
      exact hK _ _ hC (Below.refl _ _) rfl
     refine RegSteps.cons ?_ ?_
     ·intro _ az wz hC hF hD _ K hK
      obtain ⟨_,q72,rfl⟩:=dep hD 19 rfl rfl rfl rfl
      obtain ⟨_,qg,rfl⟩:=dep hD 13 rfl rfl rfl rfl
      clear hF hD
      refine want_yes rfl rfl rfl qg ?_
      go_simp
      exact hK _ _ hC (Below.refl _ _) rfl
     refine RegSteps.cons ?_ ?_
     ·intro _ az wz hC hF hD _ K hK
      obtain ⟨_,q73,rfl⟩:=dep hD 20 rfl rfl rfl rfl
      obtain ⟨_,qg,rfl⟩:=dep hD 13 rfl rfl rfl rfl
      have v0:=(hC.cell HC4.out.1).trans HC4.out.2.1
      have v1:=(hC.cell HC4.out.1).trans HC4.out.2.2
      clear hF hD
      refine want_yes rfl rfl rfl qg ?_
      go_simp
      exact hK _ _ hC (Below.refl _ _) rfl
     refine RegSteps.cons ?_ ?_
     ·intro _ az wz hC hF hD _ K hK
      obtain ⟨_,q69,rfl⟩:=dep hD 16 rfl rfl rfl rfl
      obtain ⟨_,q74,rfl⟩:=dep hD 21 rfl rfl rfl rfl
      obtain ⟨_,qg,rfl⟩:=dep hD 13 rfl rfl rfl rfl
      clear hF hD
      refine want_yes rfl rfl rfl qg ?_
      go_simp
      refine (HSI.out _ hC).mono ?_
      rintro e wy ⟨rfl,k⟩
      exact hK _ _ (Below.call hC k) k rfl
     refine RegSteps.cons ?_ ?_
     ·intro _ az wz hC hF hD _ K hK
      obtain ⟨_,q75,rfl⟩:=dep hD 22 rfl rfl rfl rfl
      obtain ⟨_,qg,rfl⟩:=dep hD 13 rfl rfl rfl rfl
      clear hF hD
      refine want_yes rfl rfl rfl qg ?_
      go_simp
      exact hK _ _ hC (Below.refl _ _) rfl
     refine RegSteps.cons ?_ ?_
     ·intro _ az wz hC hF hD _ K hK
      obtain ⟨_,q66,rfl⟩:=dep hD 13 rfl rfl rfl rfl
      obtain ⟨_,q76,rfl⟩:=dep hD 23 rfl rfl rfl rfl
      clear hF hD
      refine want_none rfl ?_
      go_simp
      exact hK _ _ hC (Below.refl _ _) rfl
     refine RegSteps.cons ?_ ?_
     ·intro _ az wz hC hF hD _ K hK
      obtain ⟨_,q77,rfl⟩:=dep hD 24 rfl rfl rfl rfl
      clear hF hD
      refine want_none rfl ?_
      go_simp
      exact hK _ _ hC (Below.refl _ _) rfl
     refine RegSteps.cons ?_ ?_
     ·intro _ az wz hC hF hD _ K hK
      have q13:az.tmps[13]? = some (.pointer (some ⟨gq,0,none⟩)):=hF 13 rfl
      obtain ⟨_,qg,rfl⟩:=dep hD 25 rfl rfl rfl rfl
      clear hF hD
      refine want_yes rfl rfl rfl qg ?_
      go_simp
      exact hK _ _ hC (Below.refl _ _) rfl
     refine RegSteps.cons ?_ ?_
     ·intro _ az wz hC hF hD _ K hK
      obtain ⟨_,q79,rfl⟩:=dep hD 26 rfl rfl rfl rfl
      obtain ⟨_,qg,rfl⟩:=dep hD 25 rfl rfl rfl rfl
      obtain ⟨⟨z0,z1,z2,z3,z4,z5,z6,z7,z8,z9,z10,z11,z12,z13⟩,_⟩:=(HOq.out.on hC).all14
      clear hF hD
      refine want_yes rfl rfl rfl qg ?_
      go_simp
      exact hK _ _ hC (Below.refl _ _) rfl
     refine RegSteps.cons ?_ ?_
     ·intro _ az wz hC hF hD _ K hK
      obtain ⟨_,q80,rfl⟩:=dep hD 27 rfl rfl rfl rfl
      obtain ⟨_,qg,rfl⟩:=dep hD 25 rfl rfl rfl rfl
      clear hF hD
      refine want_yes rfl rfl rfl qg ?_
      go_simp
      refine (HVV.out _ hC).mono ?_
      rintro e wy ⟨rfl,k⟩
      exact hK _ _ (Below.call hC k) k rfl
     refine RegSteps.cons ?_ ?_
     ·intro _ az wz hC hF hD _ K hK
      obtain ⟨_,q81,rfl⟩:=dep hD 28 rfl rfl rfl rfl
      obtain ⟨_,qg,rfl⟩:=dep hD 25 rfl rfl rfl rfl
      clear hF hD
      refine want_yes rfl rfl rfl qg ?_
      go_simp
      exact hK _ _ hC (Below.refl _ _) rfl
     refine RegSteps.cons ?_ ?_
     ·intro _ az wz hC hF hD _ K hK
      obtain ⟨_,q78,rfl⟩:=dep hD 25 rfl rfl rfl rfl
      obtain ⟨_,q82,rfl⟩:=dep hD 29 rfl rfl rfl rfl
      clear hF hD
      refine want_none rfl ?_
      go_simp
      exact hK _ _ hC (Below.refl _ _) rfl
     exact RegSteps.nil
    intro w5 hC5
    rintro _ rfl _ rfl _ rfl _ rfl _ rfl _ rfl _ rfl _ rfl _ rfl _ rfl _ rfl _ rfl _ rfl _ rfl _ rfl _ rfl _ rfl _ rfl _ rfl _ rfl _ rfl _ rfl _ rfl _ rfl _ rfl _ rfl _ rfl _ rfl _ rfl _ rfl _ rfl
    simp only [FinOK,Act.put,List.setIfInBounds_toArray,List.set_cons_zero,List.set_cons_succ]
    have HB8:=Lib.hid (Below.trans HB7.out (hC5.mono HB7.out.size))
    clear hC5 HOq HC4 HSI HVV HB7
    go_wp2_with fail
    go_roundw
    case rel=>exact ⟨2,by omega,by go_num,HB8.out⟩
    case measure=>simp [intOf]
   ·have hv1:=qvw_valid K l
    rw [if_neg hok] at HVV0 hv1
    have hpq:Qy.printQ (qvw K l)=([],1):=by unfold Qy.printQ;rw [if_pos (by omega),hv1]
    rw [hpq] at HPr
    clear hok hv1 hpq
    go_wp2_with fail
    refine (HPr.out _ HBr.out).mono ?_
    rintro e w3 ⟨rfl,k3⟩
    have HB3:=Lib.hid (Below.trans HBr.out (k3.mono HBr.out.size))
    have y0:=(k3.cell (p:=⟨y8,2,none⟩) (Nat.lt_of_lt_of_le HX.out.1 HBr.out.size)).trans x0
    have y1:=(k3.cell (p:=⟨y8,3,none⟩) (Nat.lt_of_lt_of_le HX.out.1 HBr.out.size)).trans x1
    clear x0 x1 k3
    go_wp2_with fail
    refine (HVV0.out _ HB3.out).mono ?_
    rintro e w4 ⟨rfl,k4⟩
    have HB4:=Lib.hid (Below.trans HB3.out (k4.mono HB3.out.size))
    clear y0 y1 k4
    go_wp2_with fail
    go_roundw
    case rel=>exact ⟨2,by omega,by go_num,HB4.out⟩
    case measure=>simp [intOf]
  ·have HB9:=Lib.hid (Below.trans HB2.out.1 (hB.mono HB2.out.1.size))
   clear hB
   go_wp2_with fail
   refine (HL0.out _).mono ?_
   rintro e w9 ⟨rfl,k9⟩
   have HF:=Lib.hid (Below.call HB9.out k9)
   clear k9
   go_wp2
   go_returns
   exact ⟨rfl,HF.out⟩
end Go.Proofs.YtmlpibdincfgbaaGreatDoor
