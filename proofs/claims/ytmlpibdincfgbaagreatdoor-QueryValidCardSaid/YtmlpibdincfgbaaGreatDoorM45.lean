/-
  Chapter 38: QueryValid.
-/
import Derived.Test.YtmlpibdincfgbaaGreatDoorM43
import Derived.Test.YtmlpibdincfgbaaGreatDoorQS8
import Derived.Test.YtmlpibdincfgbaaGreatDoorQS9
import Derived.Test.YtmlpibdincfgbaaGreatDoorM39
import Derived.Test.YtmlpibdincfgbaaGreatDoorK21
namespace Go.Proofs.YtmlpibdincfgbaaGreatDoor
open Go.RowKit
set_option linter.unusedSimpArgs false
set_option linter.unusedVariables false
theorem printQ_bad {q:Qy.Qry} (h:Qy.validE q≠0):Qy.printQ q=([],Qy.validE q):=by
 unfold Qy.printQ
 rw [if_pos h]
theorem goodQ_small {q:Qy.Qry} (h:GoodQ q):Qy.nodes q.reg≤256∧q.offs.length≤8:=by
 obtain ⟨⟨y,hy⟩,_,_,_,hv⟩:=h
 refine ⟨(hy.good (by omega)).2,?_⟩
 unfold Qy.viewOK at hv
 simp only [Bool.and_eq_true,Bool.or_eq_true,decide_eq_true_eq] at hv
 omega
theorem IsQry.reg {w:World} {q:Qy.Qry} {K Vk D Sc:Int} {n0 n2 n3 n4 n5 n6 n7:Int} {s1:ByteArray} {A8 vA:Option Addr} {l8 c8 vl vc:Nat}
 (h:IsQry w q (.agg #[.int .i64 K,.int .i64 n0,.string s1,.int .i64 n2,.int .i64 n3,.int .i64 n4,.int .i64 n5,.int .i64 n6,.int .i64 n7,.slice A8 l8 c8,.int .i64 Vk,.slice vA vl vc,.int .i64 D,.int .i64 Sc])) :
 IsReg w q.reg (.agg #[.int .i64 n0,.string s1,.int .i64 n2,.int .i64 n3,.int .i64 n4,.int .i64 n5,.int .i64 n6,.int .i64 n7,.slice A8 l8 c8]):=by
 obtain ⟨m0,t1,m2,m3,m4,m5,m6,m7,B8,k8,d8,wA,wl,wc,e,_,hR,_⟩:=h
 simp only [Value.agg.injEq,Array.mk.injEq,List.cons.injEq,Value.int.injEq,Value.string.injEq,Value.slice.injEq,true_and,and_true] at e
 obtain ⟨_,rfl,rfl,rfl,rfl,rfl,rfl,rfl,rfl,⟨rfl,rfl,rfl⟩,-⟩:=e
 exact hR.isReg
theorem IsReg.lit9 {w:World} {R:Qy.Reg} {v:Value} (h:IsReg w R v):∃ (n0:Int) (s1:ByteArray) (n2 n3 n4 n5 n6 n7:Int) (A:Option Addr) (l c:Nat),v=.agg #[.int .i64 n0,.string s1,.int .i64 n2,.int .i64 n3,.int .i64 n4,.int .i64 n5,.int .i64 n6,.int .i64 n7,.slice A l c]∧n0=R.kind∧l=R.kids.length:=by
 obtain ⟨cs,rfl,hR⟩:=h
 obtain ⟨k,nm,ax,ay,b0,b1,b2,b3,kids⟩:=R
 rw [RegAt] at hR
 obtain ⟨A,c,rfl,_⟩:=hR
 exact ⟨_,_,_,_,_,_,_,_,_,_,_,rfl,rfl,rfl⟩
theorem cells14 {w w2:World} {g i:Nat} {v0 v1 v2 v3 v4 v5 v6 v7 v8 v9 v10 v11 v12 v13:Value} (hg:g<w2.heap.size) (h:∀ j u,[v0,v1,v2,v3,v4,v5,v6,v7,v8,v9,v10,v11,v12,v13][j]? = some u→w2.cell? ⟨g,i * 14+j,none⟩=some u) (hB:Below w2.heap.size w2 w) :
 w.cell? ⟨g,i * 14,none⟩=some v0∧w.cell? ⟨g,i * 14+1,none⟩=some v1∧w.cell? ⟨g,i * 14+2,none⟩=some v2∧w.cell? ⟨g,i * 14+3,none⟩=some v3∧w.cell? ⟨g,i * 14+4,none⟩=some v4∧w.cell? ⟨g,i * 14+5,none⟩=some v5∧w.cell? ⟨g,i * 14+6,none⟩=some v6∧w.cell? ⟨g,i * 14+7,none⟩=some v7∧w.cell? ⟨g,i * 14+8,none⟩=some v8∧w.cell? ⟨g,i * 14+9,none⟩=some v9∧w.cell? ⟨g,i * 14+10,none⟩=some v10∧w.cell? ⟨g,i * 14+11,none⟩=some v11∧w.cell? ⟨g,i * 14+12,none⟩=some v12∧w.cell? ⟨g,i * 14+13,none⟩=some v13:=
 have k:∀ j u,[v0,v1,v2,v3,v4,v5,v6,v7,v8,v9,v10,v11,v12,v13][j]? = some u→w.cell? ⟨g,i * 14+j,none⟩=some u:=fun j u hj=>(hB.cell (p:=⟨g,i * 14+j,none⟩) hg).trans (h j u hj)
 ⟨k 0 _ rfl,k 1 _ rfl,k 2 _ rfl,k 3 _ rfl,k 4 _ rfl,k 5 _ rfl,k 6 _ rfl,k 7 _ rfl,k 8 _ rfl,k 9 _ rfl,k 10 _ rfl,k 11 _ rfl,k 12 _ rfl,k 13 _ rfl⟩
set_option maxRecDepth 100000 in
set_option maxHeartbeats 12800000 in
theorem QueryValid_any {w:World} (hT:TabQ w) {A:Option Addr} {l:List Int} {c:Nat} {how by_:Int} (k0:IntsIs w A l c) (b1:in64 how) (b2:in64 by_) :
 Calls Tryz.prog 6 #[.slice A l.length c,.int .i64 how,.int .i64 by_] w (RetB w true):=by
 have HL0:=Lib.hid fun u=>lives_any u
 have HSo:=Lib.hid (Some_any k0)
 obtain ⟨L,hL⟩:∃ L,l.length=L:=⟨_,rfl⟩
 rw [hL] at HSo
 rw [hL]
 have HB:=Lib.hid (And.intro b1 b2)
 have HT100:=Lib.hid (tdiv_bdS (m:=100) (by omega) b1.1 b1.2)
 have HT9:=Lib.hid (tdiv_bdS (m:=9) (by omega) b2.1 b2.2)
 have HT:=Lib.hid hT
 clear hL k0 b1 b2 hT
 go_enter Tryz.func6,Tryz.ntmps6
 go_wp2_with fail
 refine HSo.out.mono ?_
 rintro e w1 ⟨q,v,rfl,hB1,hq,hg⟩
 have hsm:=goodQ_small hg
 replace hq:=hq.isQ
 obtain ⟨n0,s1,n2,n3,n4,n5,n6,n7,A8,l8,c8,vA,vl,vc,rfl,-⟩:=id hq
 clear hg HSo
 go_upto_region 2 with fail
 refine wp_new1 fun W1 hV kn=>?_
 obtain ⟨g7,hg7⟩:∃ g,w1.heap.size=g:=⟨_,rfl⟩
 rw [hg7] at hV ⊢
 have hq1:=hq.on kn
 have HK1:=Lib.hid (Below.call hB1 kn)
 have HV:=Lib.hid hV
 obtain ⟨⟨x0,x1,x2,x3,x4,x5,x6,x7,x8,x9,x10,x11,x12,x13⟩,_⟩:=hV.all14
 clear hV kn hg7 hB1 hq
 have HQ:=Lib.hid (And.intro hq1 hsm)
 clear hq1 hsm
 go_wp2_with fail
 refine (Spoilt_any q (by have:=HQ.out.2;omega) (by have:=HQ.out.2;omega) _ W1 HQ.out.1 HB.out.1 HB.out.2).mono ?_
 rintro e w2 ⟨q2,v2,rfl,k2,hq2,hm2,ho2⟩
 obtain ⟨bn0,bs1,bn2,bn3,bn4,bn5,bn6,bn7,bA8,bl8,bc8,bvA,bvl,bvc,rfl,-⟩:=id hq2
 have HN:Hid (Qy.nodes q.reg≤900000∧q.offs.length≤900000∧Qy.nodes q2.reg≤900000∧q2.offs.length≤900000∧Qy.nodes q2.reg≤700000∧q2.offs.length≤900):=Lib.hid (by have:=HQ.out.2;omega)
 have HK2:=Lib.hid (And.intro k2 hq2)
 clear k2 hq2 hm2 ho2 x0 x1 x2 x3 x4 x5 x6 x7 x8 x9 x10 x11 x12 x13
 go_upto_region 3 with fail
 refine wp_new1 fun W2 hV2 kn=>?_
 obtain ⟨g8,hg8⟩:∃ g,w2.heap.size=g:=⟨_,rfl⟩
 rw [hg8] at hV2 ⊢
 have hB12:=Below.call HK2.out.1 kn
 have HQ1:Hid (∀ wz,Below W2.heap.size W2 wz→IsQry wz q (.agg #[.int .i64 q.kind,.int .i64 n0,.string s1,.int .i64 n2,.int .i64 n3,.int .i64 n4,.int .i64 n5,.int .i64 n6,.int .i64 n7,.slice A8 l8 c8,.int .i64 q.vkind,.slice vA vl vc,.int .i64 q.day,.int .i64 q.scale])):=Lib.hid fun wz k=>(HQ.out.1.on hB12).on k
 have HQ2:Hid (∀ wz,Below W2.heap.size W2 wz→IsQry wz q2 (.agg #[.int .i64 q2.kind,.int .i64 bn0,.string bs1,.int .i64 bn2,.int .i64 bn3,.int .i64 bn4,.int .i64 bn5,.int .i64 bn6,.int .i64 bn7,.slice bA8 bl8 bc8,.int .i64 q2.vkind,.slice bvA bvl bvc,.int .i64 q2.day,.int .i64 q2.scale])):=Lib.hid fun wz k=>(HK2.out.2.on kn).on k
 have HSp:Hid (∀ u,Below W2.heap.size W2 u→Calls Tryz.prog 17 #[.agg #[.int .i64 q2.kind,.int .i64 bn0,.string bs1,.int .i64 bn2,.int .i64 bn3,.int .i64 bn4,.int .i64 bn5,.int .i64 bn6,.int .i64 bn7,.slice bA8 bl8 bc8,.int .i64 q2.vkind,.slice bvA bvl bvc,.int .i64 q2.day,.int .i64 q2.scale],.int .i64 (how.tdiv 100),.int .i64 (by_.tdiv 9)] u fun e w'=>∃ x:Value,e=.returned x∧Below u.heap.size u w'∧∃ q:Qy.Qry,IsQry w' q x∧Qy.nodes q.reg≤900000∧q.offs.length≤900000):=Lib.hid fun u hu=>
  (Spoilt_any q2 HN.out.2.2.2.2.1 HN.out.2.2.2.2.2 _ u (HQ2.out _ hu) HT100.out HT9.out).mono fun e w' ⟨q3,v3,h1,h2,h3,h4,h5⟩=>⟨v3,h1,h2,q3,h3,by have:=HN.out;omega,by have:=HN.out;omega⟩
 have HV7:=Lib.hid (HV.out.on hB12)
 have HV8:=Lib.hid hV2
 have HK:=Lib.hid (Below.call HK1.out hB12)
 clear hV2 kn hg8 hB12 HQ HK1 HK2 HV
 refine wp_region_specs W2 [Spec.eq (.agg #[.int .i64 q.kind,.int .i64 n0,.string s1,.int .i64 n2,.int .i64 n3,.int .i64 n4,.int .i64 n5,.int .i64 n6,.int .i64 n7,.slice A8 l8 c8,.int .i64 q.vkind,.slice vA vl vc,.int .i64 q.day,.int .i64 q.scale]),Spec.eq (.agg #[.int .i64 q2.kind,.int .i64 bn0,.string bs1,.int .i64 bn2,.int .i64 bn3,.int .i64 bn4,.int .i64 bn5,.int .i64 bn6,.int .i64 bn7,.slice bA8 bl8 bc8,.int .i64 q2.vkind,.slice bvA bvl bvc,.int .i64 q2.day,.int .i64 q2.scale]),Spec.eq (.agg #[.int .i64 q2.kind,.int .i64 bn0,.string bs1,.int .i64 bn2,.int .i64 bn3,.int .i64 bn4,.int .i64 bn5,.int .i64 bn6,.int .i64 bn7,.slice bA8 bl8 bc8,.int .i64 q2.vkind,.slice bvA bvl bvc,.int .i64 q2.day,.int .i64 q2.scale]),Spec.eq (.int .i64 how),Spec.eq (.int .i64 (how.tdiv 100)),Spec.eq (.int .i64 by_),Spec.eq (.int .i64 (by_.tdiv 9)),sQB 900000 900000,sQN 3,sQN 3]
  (by kernel_rfl) (by kernel_rfl) rfl (by kernel_rfl) (Below.drew (Below.refl _ _)) ?_ ?_
 ·
  refine RegSteps.cons ?_ ?_
  ·intro _ az wz hC hF hD _ K hK
   have q7:az.tmps[7]? = some (.pointer (some ⟨g7,0,none⟩)):=hF 7 rfl
   obtain ⟨⟨z0,z1,z2,z3,z4,z5,z6,z7,z8,z9,z10,z11,z12,z13⟩,_⟩:=(HV7.out.on hC).all14
   clear hF hD
   refine want_none rfl ?_
   go_simp
   exact hK _ _ hC (Below.refl _ _) rfl
  refine RegSteps.cons ?_ ?_
  ·intro _ az wz hC hF hD _ K hK
   have q8:az.tmps[8]? = some (.pointer (some ⟨g8,0,none⟩)):=hF 8 rfl
   obtain ⟨⟨z0,z1,z2,z3,z4,z5,z6,z7,z8,z9,z10,z11,z12,z13⟩,_⟩:=(HV8.out.on hC).all14
   clear hF hD
   refine want_none rfl ?_
   go_simp
   exact hK _ _ hC (Below.refl _ _) rfl
  refine RegSteps.cons ?_ ?_
  ·intro _ az wz hC hF hD _ K hK
   have q8:az.tmps[8]? = some (.pointer (some ⟨g8,0,none⟩)):=hF 8 rfl
   obtain ⟨⟨z0,z1,z2,z3,z4,z5,z6,z7,z8,z9,z10,z11,z12,z13⟩,_⟩:=(HV8.out.on hC).all14
   clear hF hD
   refine want_none rfl ?_
   go_simp
   exact hK _ _ hC (Below.refl _ _) rfl
  refine RegSteps.cons ?_ ?_
  ·intro _ az wz hC hF hD _ K hK
   have q1:az.tmps[1]? = some (.int .i64 how):=hF 1 rfl
   clear hF hD
   refine want_none rfl ?_
   go_simp
   exact hK _ _ hC (Below.refl _ _) rfl
  refine RegSteps.cons ?_ ?_
  ·intro _ az wz hC hF hD _ K hK
   obtain ⟨_,q25,rfl⟩:=dep hD 3 rfl rfl rfl rfl
   have hb_:=HT100.out.1
   have hb2_:=HT100.out.2
   clear hF hD
   refine want_none rfl ?_
   go_simp
   try go_ints
   exact hK _ _ hC (Below.refl _ _) rfl
  refine RegSteps.cons ?_ ?_
  ·intro _ az wz hC hF hD _ K hK
   have q2:az.tmps[2]? = some (.int .i64 by_):=hF 2 rfl
   clear hF hD
   refine want_none rfl ?_
   go_simp
   exact hK _ _ hC (Below.refl _ _) rfl
  refine RegSteps.cons ?_ ?_
  ·intro _ az wz hC hF hD _ K hK
   obtain ⟨_,q27,rfl⟩:=dep hD 5 rfl rfl rfl rfl
   have hb_:=HT9.out.1
   have hb2_:=HT9.out.2
   clear hF hD
   refine want_none rfl ?_
   go_simp
   try go_ints
   exact hK _ _ hC (Below.refl _ _) rfl
  refine RegSteps.cons ?_ ?_
  ·intro _ az wz hC hF hD _ K hK
   obtain ⟨_,q24,rfl⟩:=dep hD 2 rfl rfl rfl rfl
   obtain ⟨_,q26,rfl⟩:=dep hD 4 rfl rfl rfl rfl
   obtain ⟨_,q28,rfl⟩:=dep hD 6 rfl rfl rfl rfl
   clear hF hD
   refine want_none rfl ?_
   go_simp
   refine (HSp.out _ hC).mono ?_
   rintro e wy ⟨x,rfl,k,hx⟩
   exact hK _ _ (Below.call hC k) k ⟨x,rfl,hx⟩
  refine RegSteps.cons ?_ ?_
  ·intro _ az wz hC hF hD _ K hK
   obtain ⟨_,q22,rfl⟩:=dep hD 0 rfl rfl rfl rfl
   obtain ⟨_,q23,rfl⟩:=dep hD 1 rfl rfl rfl rfl
   obtain ⟨_,q29,x29,rfl,hx29⟩:=dep hD 7 rfl rfl rfl rfl
   obtain ⟨q3,hq3,hm3,ho3⟩:=hx29
   obtain ⟨dn0,ds1,dn2,dn3,dn4,dn5,dn6,dn7,dA8,dl8,dc8,dvA,dvl,dvc,e3,-⟩:=id hq3
   subst e3
   clear hF hD
   refine want_none rfl ?_
   go_simp
   refine hK _ _ (Below.alloc hC hC.size _) (below_new _ _) ⟨_,rfl,QN.mk [[.int .i64 q.kind,.int .i64 n0,.string s1,.int .i64 n2,.int .i64 n3,.int .i64 n4,.int .i64 n5,.int .i64 n6,.int .i64 n7,.slice A8 l8 c8,.int .i64 q.vkind,.slice vA vl vc,.int .i64 q.day,.int .i64 q.scale],[.int .i64 q2.kind,.int .i64 bn0,.string bs1,.int .i64 bn2,.int .i64 bn3,.int .i64 bn4,.int .i64 bn5,.int .i64 bn6,.int .i64 bn7,.slice bA8 bl8 bc8,.int .i64 q2.vkind,.slice bvA bvl bvc,.int .i64 q2.day,.int .i64 q2.scale],[.int .i64 q3.kind,.int .i64 dn0,.string ds1,.int .i64 dn2,.int .i64 dn3,.int .i64 dn4,.int .i64 dn5,.int .i64 dn6,.int .i64 dn7,.slice dA8 dl8 dc8,.int .i64 q3.vkind,.slice dvA dvl dvc,.int .i64 q3.day,.int .i64 q3.scale]] ?_⟩
   intro xs hxs
   simp only [List.mem_cons,List.not_mem_nil,or_false] at hxs
   rcases hxs with rfl | rfl | rfl
   ·exact ⟨rfl,q,HQ1.out _ hC,HN.out.1,HN.out.2.1⟩
   ·exact ⟨rfl,q2,HQ2.out _ hC,HN.out.2.2.1,HN.out.2.2.2.1⟩
   ·exact ⟨rfl,q3,hq3,hm3,ho3⟩
  refine RegSteps.cons ?_ ?_
  ·intro _ az wz hC hF hD _ K hK
   obtain ⟨_,q30,x30,rfl,hx30⟩:=dep hD 8 rfl rfl rfl rfl
   clear hF hD
   refine want_none rfl ?_
   go_simp
   exact hK _ _ hC (Below.refl _ _) ⟨x30,rfl,hx30⟩
  exact RegSteps.nil
 intro w3 hC3
 rintro _ rfl _ rfl _ rfl _ rfl _ rfl _ rfl _ rfl _ ⟨y29,rfl,_⟩ _ ⟨y30,rfl,_⟩ _ ⟨y9,rfl,hy9⟩
 simp only [FinOK,Act.put,List.setIfInBounds_toArray,List.set_cons_zero,List.set_cons_succ]
 have HX:=Lib.hid hy9
 have HB2:=Lib.hid (Below.call HK.out hC3)
 clear hC3 hy9 HK HV7 HV8 HN HQ1 HQ2 HSp HT9 HT100 HB
 go_wp2_with fail
 go_loopw [10] (fun s wr=>∃ i:Nat,i≤3∧s=.int .i64 (i:Int)∧Below w3.heap.size w3 wr) (fun s _=>3 - (intOf s).toNat)
 case atStart=>exact ⟨0,by omega,rfl,Below.refl _ _⟩
 case round=>
  obtain ⟨i,hi,rfl,hB⟩:=hrel
  have HBr:=Lib.hid hB
  rcases Nat.lt_or_eq_of_le hi with hlt | heq
  ·obtain ⟨q,n0,s1,n2,n3,n4,n5,n6,n7,A8,l8,c8,vA,vl,vc,hq,hn,ho,hc⟩:=HX.out.lit hlt
   have HC:=Lib.hid hc
   have HOw:Hid (∀ (v:Value) (u:World),IsQry u q v→Calls Tryz.prog 19 #[v] u fun e w'=>∃ v',e=.returned v'∧Below u.heap.size u w'∧IsQry w' q v'):=Lib.hid fun v u h=>own_any q (by omega) v u h
   have HOR:Hid (∀ (v:Value) (u:World),IsReg u q.reg v→Calls Tryz.prog 27 #[v] u fun e w'=>∃ v',e=.returned v'∧Below u.heap.size u w'∧IsReg w' q.reg v'):=Lib.hid fun v u h=>(ownRegion_any 900000 q.reg hn (by omega) v u h).mono fun e w' ⟨v',h1,h2,cs,h3,h4⟩=>⟨v',h1,h2,h3▸h4.isReg⟩
   have HPr:=Lib.hid fun v u (hu:Below w.heap.size w u) h=>pPrint_any q (by omega) (by omega) v u (HT.out.on hu) h
   have HRV:=Lib.hid fun v u h=>rValid_any q (by omega) (by omega) v u h
   have HPV:=Lib.hid fun v u h=>pValid_any q (by omega) (by omega) v u h
   have HSi:=Lib.hid fun v u h=>pSimple_any q.reg (by omega) v u h
   have HGd:=Lib.hid fun v u h=>Good38_any q.reg (by omega) v u h
   have hbad:=printQ_bad (q:=q)
   obtain ⟨T,hT⟩:∃ T,Qy.printQ q=T:=⟨_,rfl⟩
   obtain ⟨E,hE⟩:∃ E,Qy.validE q=E:=⟨_,rfl⟩
   obtain ⟨G,hG⟩:∃ G,Qy.regE q.reg=G:=⟨_,rfl⟩
   rw [hT] at HPr hbad
   rw [hE] at HRV HPV hbad
   rw [hG] at HSi HGd
   obtain ⟨T,j⟩:=T
   have HBad:=Lib.hid hbad
   have HQ:Hid (∀ u,Below w3.heap.size w3 u→IsQry u q (.agg #[.int .i64 q.kind,.int .i64 n0,.string s1,.int .i64 n2,.int .i64 n3,.int .i64 n4,.int .i64 n5,.int .i64 n6,.int .i64 n7,.slice A8 l8 c8,.int .i64 q.vkind,.slice vA vl vc,.int .i64 q.day,.int .i64 q.scale])):=Lib.hid fun u hu=>hq.on hu
   have HRg:Hid (∀ u,Below w3.heap.size w3 u→IsReg u q.reg (.agg #[.int .i64 n0,.string s1,.int .i64 n2,.int .i64 n3,.int .i64 n4,.int .i64 n5,.int .i64 n6,.int .i64 n7,.slice A8 l8 c8])):=Lib.hid fun u hu=>(hq.on hu).reg
   clear hq hn ho hc hB hi hT hE hG hbad
   have i0:(0:Int)≤(i:Int):=Int.natCast_nonneg i
   have i1:(i:Int)<3:=by omega
   obtain ⟨x0,x1,x2,x3,x4,x5,x6,x7,x8,x9,x10,x11,x12,x13⟩:=cells14 HX.out.1 HC.out HBr.out
   go_wp2_with fail
   refine (HRV.out _ _ (HQ.out _ HBr.out)).mono ?_
   rintro e w4 ⟨rfl,k4⟩
   have HB4:=Lib.hid (Below.call HBr.out k4)
   clear k4 HRV x0 x1 x2 x3 x4 x5 x6 x7 x8 x9 x10 x11 x12 x13
   obtain ⟨x0,x1,x2,x3,x4,x5,x6,x7,x8,x9,x10,x11,x12,x13⟩:=cells14 HX.out.1 HC.out HB4.out
   go_wp2_with fail
   refine (HOw.out _ _ (HQ.out _ HB4.out)).mono ?_
   rintro e w5 ⟨v5,rfl,k5,hv5⟩
   have HB5:=Lib.hid (Below.call HB4.out k5)
   clear k5 x0 x1 x2 x3 x4 x5 x6 x7 x8 x9 x10 x11 x12 x13
   go_wp2_with fail
   refine (HPr.out _ _ (Below.call HB2.out HB5.out) hv5).mono ?_
   rintro e w6 ⟨rfl,k6⟩
   have HB6:=Lib.hid (Below.call HB5.out k6)
   clear k6 hv5 HPr HB4 HB5
   simp only
   obtain ⟨x0,x1,x2,x3,x4,x5,x6,x7,x8,x9,x10,x11,x12,x13⟩:=cells14 HX.out.1 HC.out HB6.out
   go_wp2_with fail
   refine (HOR.out _ _ (HRg.out _ HB6.out)).mono ?_
   rintro e w7 ⟨v7,rfl,k7,hv7⟩
   have HB7:=Lib.hid (Below.call HB6.out k7)
   clear k7 HOR HB6 x0 x1 x2 x3 x4 x5 x6 x7 x8 x9 x10 x11 x12 x13
   go_wp2_with fail
   refine (HSi.out _ _ hv7).mono ?_
   rintro e w8 ⟨v8,rfl,k8,hv8⟩
   obtain ⟨bn0,bs1,bn2,bn3,bn4,bn5,bn6,bn7,bA8,bl8,bc8,rfl,hk0,hk8⟩:=hv8.lit9
   have HK8:=Lib.hid (And.intro hk0 hk8)
   have HB8:=Lib.hid (Below.call HB7.out k8)
   clear k8 hv7 hv8 HSi HB7 hk0 hk8
   go_upto_region 10 with fail
   refine wp_new1 fun W8 hOs kn=>?_
   obtain ⟨gs,hgs⟩:∃ g,w8.heap.size=g:=⟨_,rfl⟩
   rw [hgs] at hOs ⊢
   have HOs:=Lib.hid hOs
   have HB9:=Lib.hid (Below.call HB8.out kn)
   clear hOs kn hgs HB8
   obtain ⟨x0,x1,x2,x3,x4,x5,x6,x7,x8,x9,x10,x11,x12,x13⟩:=cells14 HX.out.1 HC.out HB9.out
   go_wp2_with fail
   refine (HOw.out _ _ (HQ.out _ HB9.out)).mono ?_
   rintro e w10 ⟨v10,rfl,k10,hv10⟩
   have HK10:=Lib.hid k10
   clear k10 HOw x0 x1 x2 x3 x4 x5 x6 x7 x8 x9 x10 x11 x12 x13
   go_wp2_with fail
   refine (HPV.out _ _ hv10).mono ?_
   rintro e w11 ⟨rfl,k11⟩
   have HK11:=Lib.hid (Below.call HK10.out k11)
   have HB11:=Lib.hid (Below.call HB9.out HK11.out)
   clear k11 hv10 HPV HK10
   obtain ⟨x0,x1,x2,x3,x4,x5,x6,x7,x8,x9,x10,x11,x12,x13⟩:=cells14 HX.out.1 HC.out HB11.out
   by_cases hE:E=0
   ·as_aux_lemma=>
     subst hE
     go_wp2_with fail
     refine (HGd.out _ _ (HRg.out _ HB11.out)).mono ?_
     rintro e w12 ⟨rfl,k12⟩
     have HB12:=Lib.hid (Below.call HB11.out k12)
     have z0:=((HOs.out.on HK11.out).on k12).c0
     have z8:=((HOs.out.on HK11.out).on k12).cell 8
     clear k12 HGd HB11 x0 x1 x2 x3 x4 x5 x6 x7 x8 x9 x10 x11 x12 x13
     by_cases hG:G=0
     ·
      subst hG
      go_wp2_with fail
      go_roundw
      case rel=>exact ⟨i+1,by omega,by go_num,HB12.out⟩
      case measure=>simp [intOf];omega
     ·
      have hk:=HK8.out
      rw [if_neg hG] at hk
      have h0:bn0=0:=hk.1
      have h8:bl8=0:=hk.2
      subst h0
      subst h8
      clear hk
      go_wp2_with fail
      go_roundw
      case rel=>exact ⟨i+1,by omega,by go_num,HB12.out⟩
      case measure=>simp [intOf];omega
   ·as_aux_lemma=>
     have hb:=HBad.out hE
     simp only [Prod.mk.injEq] at hb
     obtain ⟨rfl,rfl⟩:=hb
     go_wp2_with fail
     refine (HGd.out _ _ (HRg.out _ HB11.out)).mono ?_
     rintro e w12 ⟨rfl,k12⟩
     have HB12:=Lib.hid (Below.call HB11.out k12)
     have z0:=((HOs.out.on HK11.out).on k12).c0
     have z8:=((HOs.out.on HK11.out).on k12).cell 8
     clear k12 HGd HB11 x0 x1 x2 x3 x4 x5 x6 x7 x8 x9 x10 x11 x12 x13
     by_cases hG:G=0
     ·
      subst hG
      go_wp2_with fail
      go_roundw
      case rel=>exact ⟨i+1,by omega,by go_num,HB12.out⟩
      case measure=>simp [intOf];omega
     ·
      have hk:=HK8.out
      rw [if_neg hG] at hk
      have h0:bn0=0:=hk.1
      have h8:bl8=0:=hk.2
      subst h0
      subst h8
      clear hk
      go_wp2_with fail
      go_roundw
      case rel=>exact ⟨i+1,by omega,by go_num,HB12.out⟩
      case measure=>simp [intOf];omega
  ·subst heq
   have HB9:=Lib.hid (Below.call HB2.out HBr.out)
   clear hB
   go_wp2_with fail
   refine (HL0.out _).mono ?_
   rintro e w9 ⟨rfl,k9⟩
   have HF:=Lib.hid (Below.call HB9.out k9)
   clear k9
   go_wp2
   go_returns
   exact ⟨by simp,HF.out⟩
end Go.Proofs.YtmlpibdincfgbaaGreatDoor
