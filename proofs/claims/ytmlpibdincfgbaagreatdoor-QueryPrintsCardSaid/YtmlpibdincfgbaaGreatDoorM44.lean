/-
  Chapter 38: QueryPrints.
-/
import Derived.Test.YtmlpibdincfgbaaGreatDoorM43
import Derived.Test.YtmlpibdincfgbaaGreatDoorQS8
import Derived.Test.YtmlpibdincfgbaaGreatDoorM39
import Derived.Test.YtmlpibdincfgbaaGreatDoorQS6
import Derived.Test.YtmlpibdincfgbaaGreatDoorK21
namespace Go.Proofs.YtmlpibdincfgbaaGreatDoor
open Go.RowKit
set_option linter.unusedSimpArgs false
set_option linter.unusedVariables false
def sQryB (q:Qy.Qry):Spec Bel:=⟨fun v w=>∃ x:Value,v=x∧IsQry w q x,fun ⟨x,e,h⟩ k=>⟨x,e,h.on k⟩⟩
theorem printQ_cases (q:Qy.Qry):(∃ E:Int,E≠0∧Qy.printQ q=([],E)∧(Qy.validE q=0→E=4))∨(∃ T:Qy.Bs,Qy.printQ q=(T,0)∧Qy.validE q=0∧T.length≤4096∧Qy.parse T=(q,0,0)):=by
 unfold Qy.printQ
 by_cases h:Qy.validE q=0
 ·rw [if_neg (by omega)]
  by_cases hl:4096<(Qy.printT q).length
  ·rw [if_pos hl]
   exact .inl ⟨4,by omega,rfl,fun _=>rfl⟩
  ·rw [if_neg hl]
   exact .inr ⟨_,rfl,h,by omega,Qy.parse_print h (by omega)⟩
 ·rw [if_pos h]
  exact .inl ⟨_,h,rfl,fun h2=>absurd h2 h⟩
theorem print_again (B:Qy.Qry) (hv:Qy.validE B=0):∃ (T:Qy.Bs) (j:Int) (C:Qy.Qry) (cx:Nat) (ce:Int),Qy.printQ B=(T,j)∧Qy.parse T=(C,cx,ce)∧T.length≤4096∧(j=4∨(j=0∧ce=0∧B=C)):=by
 rcases printQ_cases B with ⟨E,_,h1,h2⟩ | ⟨T,h1,_,h3,h4⟩
 ·exact ⟨[],E,_,_,_,h1,rfl,Nat.zero_le _,.inl (h2 hv)⟩
 ·exact ⟨T,0,B,0,0,h1,h4,h3,.inr ⟨rfl,rfl,rfl⟩⟩
theorem bs_sizeP (t:Qy.Bs):(bs t).size=t.length:=by unfold bs;simp [ByteArray.size]
theorem bs_etaP (t:ByteArray):bs t.data.toList=t:=rfl
theorem goodQ_small {q:Qy.Qry} (h:GoodQ q):Qy.nodes q.reg≤256∧q.offs.length≤8:=by
 obtain ⟨⟨y,hy⟩,_,_,_,hv⟩:=h
 refine ⟨(hy.good (by omega)).2,?_⟩
 unfold Qy.viewOK at hv
 simp only [Bool.and_eq_true,Bool.or_eq_true,decide_eq_true_eq] at hv
 omega
theorem step_noP {R:World→World→Prop} {P:Program} {ops:Array Oper} {Q:Exit→Act→World→Prop} {W:World} {S:List (Spec R)} {bs:List BoxSpec} {a0:Act} {fr:List Oper} {o og:Oper} {s:Spec R} {g:Nat} {b c:Bool} {t:Tmp} {sg:Spec R} (hg:o.guard=some (g,b)) (ho:ops[g]? = some og) (ht:og.dst=some t) (hsg:S[g]? = some sg) (hin:(o.after.toList.any fun e=>e.on==g&&Region.binds .any e)=true)
 (hv:∀ v w,sg.p v w→v=.bool c) (hne:(c==b)=false) (hu:∀ w,s.p undef w):StepOK fr P ops Q W S bs a0 o s:=by
 intro a w hC hF hdep _ K hK
 obtain ⟨v,e1,e2⟩:=dep hdep g hin ho hsg ht
 have e3:=hv v w e2
 subst e3
 exact want_no hg ho ht e1 hne (hK _ _ hC (Below.refl _ _) (hu w))
theorem step_unP {R:World→World→Prop} {P:Program} {ops:Array Oper} {Q:Exit→Act→World→Prop} {W:World} {S:List (Spec R)} {bs:List BoxSpec} {a0:Act} {fr:List Oper} {o og:Oper} {s:Spec R} {g:Nat} {b:Bool} {t:Tmp} {sg:Spec R} (hg:o.guard=some (g,b)) (ho:ops[g]? = some og) (ht:og.dst=some t) (hsg:S[g]? = some sg) (hin:(o.after.toList.any fun e=>e.on==g&&Region.binds .any e)=true)
 (hv:∀ v w,sg.p v w→v=undef) (hu:∀ w,s.p undef w):StepOK fr P ops Q W S bs a0 o s:=by
 intro a w hC hF hdep _ K hK
 obtain ⟨v,e1,e2⟩:=dep hdep g hin ho hsg ht
 have e3:=hv v w e2
 subst e3
 have e:yielded ops a.tmps g=none:=by simp [yielded,ho,ht,e1,undef]
 rw [if_neg (by simp [Region.wanted,hg,e])]
 exact hK _ _ hC (Below.refl _ _) (hu w)
set_option maxRecDepth 100000 in
set_option maxHeartbeats 12800000 in
theorem QueryPrints_any {w:World} (hT:TabQ w) {A:Option Addr} {l:List Int} {c:Nat} {how by_ at_ other:Int} (k0:IntsIs w A l c) (b1:in64 how) (b2:in64 by_) (b3:in64 at_) (b4:in64 other) :
 Calls Tryz.prog 4 #[.slice A l.length c,.int .i64 how,.int .i64 by_,.int .i64 at_,.int .i64 other] w (RetB w true):=by
 have HL0:=Lib.hid fun u=>lives_any u
 have HSo:=Lib.hid (Some_any k0)
 obtain ⟨L,hL⟩:∃ L,l.length=L:=⟨_,rfl⟩
 rw [hL] at HSo
 rw [hL]
 have HB:=Lib.hid (And.intro b1 (And.intro b2 (And.intro b3 b4)))
 have HT:=Lib.hid hT
 clear hL k0 b1 b2 b3 b4 hT
 go_enter Tryz.func4,Tryz.ntmps4
 go_wp2_with fail
 refine HSo.out.mono ?_
 rintro e w1 ⟨q,v,rfl,hB1,hq,hg⟩
 have hsm:=goodQ_small hg
 replace hq:=hq.isQ
 obtain ⟨n0,s1,n2,n3,n4,n5,n6,n7,A8,l8,c8,vA,vl,vc,rfl,-⟩:=id hq
 clear hg HSo
 go_upto_region 2 with fail
 refine wp_new1 fun W1 hV kn=>?_
 obtain ⟨g11,hg11⟩:∃ g,w1.heap.size=g:=⟨_,rfl⟩
 rw [hg11] at hV ⊢
 have HQ:Hid (∀ wz,Below W1.heap.size W1 wz→IsQry wz q (.agg #[.int .i64 q.kind,.int .i64 n0,.string s1,.int .i64 n2,.int .i64 n3,.int .i64 n4,.int .i64 n5,.int .i64 n6,.int .i64 n7,.slice A8 l8 c8,.int .i64 q.vkind,.slice vA vl vc,.int .i64 q.day,.int .i64 q.scale])):=Lib.hid fun wz k=>(hq.on kn).on k
 have HSp:Hid (∀ u,Below W1.heap.size W1 u→Calls Tryz.prog 17 #[.agg #[.int .i64 q.kind,.int .i64 n0,.string s1,.int .i64 n2,.int .i64 n3,.int .i64 n4,.int .i64 n5,.int .i64 n6,.int .i64 n7,.slice A8 l8 c8,.int .i64 q.vkind,.slice vA vl vc,.int .i64 q.day,.int .i64 q.scale],.int .i64 how,.int .i64 by_] u fun e w'=>∃ x:Value,e=.returned x∧Below u.heap.size u w'∧∃ q:Qy.Qry,IsQry w' q x∧Qy.nodes q.reg≤900000∧q.offs.length≤900000):=Lib.hid fun u hu=>
  (Spoilt_any q (by omega) (by omega) _ u ((hq.on kn).on hu) HB.out.1 HB.out.2.1).mono fun e w' ⟨q2,v2,h1,h2,h3,h4,h5⟩=>⟨v2,h1,h2,q2,h3,by omega,by omega⟩
 have HN:Hid (Qy.nodes q.reg≤900000∧q.offs.length≤900000):=Lib.hid ⟨by omega,by omega⟩
 have HK:=Lib.hid (Below.call hB1 kn)
 have HV:=Lib.hid hV
 clear hV kn hg11 hB1 hq hsm
 refine wp_region_specs W1 [Spec.eq (.agg #[.int .i64 q.kind,.int .i64 n0,.string s1,.int .i64 n2,.int .i64 n3,.int .i64 n4,.int .i64 n5,.int .i64 n6,.int .i64 n7,.slice A8 l8 c8,.int .i64 q.vkind,.slice vA vl vc,.int .i64 q.day,.int .i64 q.scale]),Spec.eq (.agg #[.int .i64 q.kind,.int .i64 n0,.string s1,.int .i64 n2,.int .i64 n3,.int .i64 n4,.int .i64 n5,.int .i64 n6,.int .i64 n7,.slice A8 l8 c8,.int .i64 q.vkind,.slice vA vl vc,.int .i64 q.day,.int .i64 q.scale]),Spec.eq (.int .i64 how),Spec.eq (.int .i64 by_),sQB 900000 900000,sQN 2,sQN 2]
  (by kernel_rfl) (by kernel_rfl) rfl (by kernel_rfl) (Below.drew (Below.refl _ _)) ?_ ?_
 ·
  refine RegSteps.cons ?_ ?_
  ·intro _ az wz hC hF hD _ K hK
   have q11:az.tmps[11]? = some (.pointer (some ⟨g11,0,none⟩)):=hF 11 rfl
   obtain ⟨⟨z0,z1,z2,z3,z4,z5,z6,z7,z8,z9,z10,z11,z12,z13⟩,_⟩:=(HV.out.on hC).all14
   clear hF hD
   refine want_none rfl ?_
   go_simp
   exact hK _ _ hC (Below.refl _ _) rfl
  refine RegSteps.cons ?_ ?_
  ·intro _ az wz hC hF hD _ K hK
   have q11:az.tmps[11]? = some (.pointer (some ⟨g11,0,none⟩)):=hF 11 rfl
   obtain ⟨⟨z0,z1,z2,z3,z4,z5,z6,z7,z8,z9,z10,z11,z12,z13⟩,_⟩:=(HV.out.on hC).all14
   clear hF hD
   refine want_none rfl ?_
   go_simp
   exact hK _ _ hC (Below.refl _ _) rfl
  refine RegSteps.cons ?_ ?_
  ·intro _ az wz hC hF hD _ K hK
   have q1:az.tmps[1]? = some (.int .i64 how):=hF 1 rfl
   clear hF hD
   refine want_none rfl ?_
   go_simp
   exact hK _ _ hC (Below.refl _ _) rfl
  refine RegSteps.cons ?_ ?_
  ·intro _ az wz hC hF hD _ K hK
   have q2:az.tmps[2]? = some (.int .i64 by_):=hF 2 rfl
   clear hF hD
   refine want_none rfl ?_
   go_simp
   exact hK _ _ hC (Below.refl _ _) rfl
  refine RegSteps.cons ?_ ?_
  ·intro _ az wz hC hF hD _ K hK
   obtain ⟨_,q32,rfl⟩:=dep hD 1 rfl rfl rfl rfl
   obtain ⟨_,q33,rfl⟩:=dep hD 2 rfl rfl rfl rfl
   obtain ⟨_,q34,rfl⟩:=dep hD 3 rfl rfl rfl rfl
   clear hF hD
   refine want_none rfl ?_
   go_simp
   refine (HSp.out _ hC).mono ?_
   rintro e wy ⟨x,rfl,k,hx⟩
   exact hK _ _ (Below.call hC k) k ⟨x,rfl,hx⟩
  refine RegSteps.cons ?_ ?_
  ·intro _ az wz hC hF hD _ K hK
   obtain ⟨_,q31,rfl⟩:=dep hD 0 rfl rfl rfl rfl
   obtain ⟨_,q35,x35,rfl,hx35⟩:=dep hD 4 rfl rfl rfl rfl
   obtain ⟨q2,hq2,hm2,ho2⟩:=hx35
   obtain ⟨bn0,bs1,bn2,bn3,bn4,bn5,bn6,bn7,bA8,bl8,bc8,bvA,bvl,bvc,e2,-⟩:=id hq2
   subst e2
   clear hF hD
   refine want_none rfl ?_
   go_simp
   refine hK _ _ (Below.alloc hC hC.size _) (below_new _ _) ⟨_,rfl,QN.mk [[.int .i64 q.kind,.int .i64 n0,.string s1,.int .i64 n2,.int .i64 n3,.int .i64 n4,.int .i64 n5,.int .i64 n6,.int .i64 n7,.slice A8 l8 c8,.int .i64 q.vkind,.slice vA vl vc,.int .i64 q.day,.int .i64 q.scale],[.int .i64 q2.kind,.int .i64 bn0,.string bs1,.int .i64 bn2,.int .i64 bn3,.int .i64 bn4,.int .i64 bn5,.int .i64 bn6,.int .i64 bn7,.slice bA8 bl8 bc8,.int .i64 q2.vkind,.slice bvA bvl bvc,.int .i64 q2.day,.int .i64 q2.scale]] ?_⟩
   intro xs hxs
   simp only [List.mem_cons,List.not_mem_nil,or_false] at hxs
   rcases hxs with rfl | rfl
   ·exact ⟨rfl,q,HQ.out _ hC,HN.out.1,HN.out.2⟩
   ·exact ⟨rfl,q2,hq2,hm2,ho2⟩
  refine RegSteps.cons ?_ ?_
  ·intro _ az wz hC hF hD _ K hK
   obtain ⟨_,q36,x36,rfl,hx36⟩:=dep hD 5 rfl rfl rfl rfl
   clear hF hD
   refine want_none rfl ?_
   go_simp
   exact hK _ _ hC (Below.refl _ _) ⟨x36,rfl,hx36⟩
  exact RegSteps.nil
 intro w2 hC2
 rintro _ rfl _ rfl _ rfl _ rfl _ ⟨y35,rfl,_⟩ _ ⟨y36,rfl,_⟩ _ ⟨y12,rfl,hy12⟩
 simp only [FinOK,Act.put,List.setIfInBounds_toArray,List.set_cons_zero,List.set_cons_succ]
 have HX:=Lib.hid hy12
 have HB2:=Lib.hid (Below.call HK.out hC2)
 clear hC2 hy12 HK HV HN HQ HSp
 go_wp2_with fail
 go_loopw [13] (fun s wr=>∃ i:Nat,i≤2∧s=.int .i64 (i:Int)∧Below w2.heap.size w2 wr) (fun s _=>2 - (intOf s).toNat)
 case atStart=>exact ⟨0,by omega,rfl,Below.refl _ _⟩
 case round=>
  obtain ⟨i,hi,rfl,hB⟩:=hrel
  have HBr:=Lib.hid hB
  rcases Nat.lt_or_eq_of_le hi with hlt | heq
  ·obtain ⟨q,n0,s1,n2,n3,n4,n5,n6,n7,A8,l8,c8,vA,vl,vc,hq,hn,ho,hc⟩:=HX.out.lit hlt
   have HC:=Lib.hid hc
   have HI:=Lib.hid (show (i:Int)<2 by omega)
   have HPl:Hid (∀ (v:Value) (u:World),IsQry u q v→Calls Tryz.prog 16 #[v] u fun e w'=>∃ v',e=.returned v'∧Below u.heap.size u w'∧IsQry w' q v'):=Lib.hid fun v u h=>plain_any q (by omega) v u h
   have HOw:Hid (∀ (v:Value) (u:World),IsQry u q v→Calls Tryz.prog 19 #[v] u fun e w'=>∃ v',e=.returned v'∧Below u.heap.size u w'∧IsQry w' q v'):=Lib.hid fun v u h=>own_any q (by omega) v u h
   have HSq:Hid (∀ (v v':Value) (u:World),IsQry u q v→IsQry u q v'→Calls Tryz.prog 15 #[v,v'] u (RetB u true)):=Lib.hid fun v v' u h h'=>SameQuery_any q (by omega) (by omega) v v' u h h'
   have HPr:=Lib.hid fun v u (hu:Below w.heap.size w u) h=>pPrint_any q (by omega) (by omega) v u (HT.out.on hu) h
   have HRp:=Lib.hid fun v u h=>rPrint_any q (by omega) (by omega) v u h
   have HQ:Hid (∀ u,Below w2.heap.size w2 u→IsQry u q (.agg #[.int .i64 q.kind,.int .i64 n0,.string s1,.int .i64 n2,.int .i64 n3,.int .i64 n4,.int .i64 n5,.int .i64 n6,.int .i64 n7,.slice A8 l8 c8,.int .i64 q.vkind,.slice vA vl vc,.int .i64 q.day,.int .i64 q.scale])):=Lib.hid fun u hu=>hq.on hu
   clear hq hn ho hc hB hi
   have i0:(0:Int)≤(i:Int):=Int.natCast_nonneg i
   have i1:=HI.out
   rcases printQ_cases q with ⟨E,hE,hPQ,_⟩ | ⟨T,hPQ,hv,hTl,hPa⟩
   ·as_aux_lemma=>
     rw [hPQ] at HPr HRp
     clear hPQ
     have x0:wr.cell? ⟨y12,i * 14,none⟩=some (.int .i64 q.kind):=(HBr.out.cell (p:=⟨y12,i * 14+0,none⟩) HX.out.1).trans (HC.out 0 _ rfl)
     have x1:wr.cell? ⟨y12,i * 14+1,none⟩=some (.int .i64 n0):=(HBr.out.cell (p:=⟨y12,i * 14+1,none⟩) HX.out.1).trans (HC.out 1 _ rfl)
     have x2:wr.cell? ⟨y12,i * 14+2,none⟩=some (.string s1):=(HBr.out.cell (p:=⟨y12,i * 14+2,none⟩) HX.out.1).trans (HC.out 2 _ rfl)
     have x3:wr.cell? ⟨y12,i * 14+3,none⟩=some (.int .i64 n2):=(HBr.out.cell (p:=⟨y12,i * 14+3,none⟩) HX.out.1).trans (HC.out 3 _ rfl)
     have x4:wr.cell? ⟨y12,i * 14+4,none⟩=some (.int .i64 n3):=(HBr.out.cell (p:=⟨y12,i * 14+4,none⟩) HX.out.1).trans (HC.out 4 _ rfl)
     have x5:wr.cell? ⟨y12,i * 14+5,none⟩=some (.int .i64 n4):=(HBr.out.cell (p:=⟨y12,i * 14+5,none⟩) HX.out.1).trans (HC.out 5 _ rfl)
     have x6:wr.cell? ⟨y12,i * 14+6,none⟩=some (.int .i64 n5):=(HBr.out.cell (p:=⟨y12,i * 14+6,none⟩) HX.out.1).trans (HC.out 6 _ rfl)
     have x7:wr.cell? ⟨y12,i * 14+7,none⟩=some (.int .i64 n6):=(HBr.out.cell (p:=⟨y12,i * 14+7,none⟩) HX.out.1).trans (HC.out 7 _ rfl)
     have x8:wr.cell? ⟨y12,i * 14+8,none⟩=some (.int .i64 n7):=(HBr.out.cell (p:=⟨y12,i * 14+8,none⟩) HX.out.1).trans (HC.out 8 _ rfl)
     have x9:wr.cell? ⟨y12,i * 14+9,none⟩=some (.slice A8 l8 c8):=(HBr.out.cell (p:=⟨y12,i * 14+9,none⟩) HX.out.1).trans (HC.out 9 _ rfl)
     have x10:wr.cell? ⟨y12,i * 14+10,none⟩=some (.int .i64 q.vkind):=(HBr.out.cell (p:=⟨y12,i * 14+10,none⟩) HX.out.1).trans (HC.out 10 _ rfl)
     have x11:wr.cell? ⟨y12,i * 14+11,none⟩=some (.slice vA vl vc):=(HBr.out.cell (p:=⟨y12,i * 14+11,none⟩) HX.out.1).trans (HC.out 11 _ rfl)
     have x12:wr.cell? ⟨y12,i * 14+12,none⟩=some (.int .i64 q.day):=(HBr.out.cell (p:=⟨y12,i * 14+12,none⟩) HX.out.1).trans (HC.out 12 _ rfl)
     have x13:wr.cell? ⟨y12,i * 14+13,none⟩=some (.int .i64 q.scale):=(HBr.out.cell (p:=⟨y12,i * 14+13,none⟩) HX.out.1).trans (HC.out 13 _ rfl)
     go_wp2_with fail
     refine (HOw.out _ _ (HQ.out _ HBr.out)).mono ?_
     rintro e w3 ⟨v3,rfl,k3,hv3⟩
     have HB3:=Lib.hid (Below.call HBr.out k3)
     clear k3 x0 x1 x2 x3 x4 x5 x6 x7 x8 x9 x10 x11 x12 x13
     go_wp2_with fail
     refine (HPr.out _ _ (Below.call HB2.out HB3.out) hv3).mono ?_
     rintro e w4 ⟨rfl,k4⟩
     have HB4:=Lib.hid (Below.call HB3.out k4)
     clear k4 hv3
     have x0:w4.cell? ⟨y12,i * 14,none⟩=some (.int .i64 q.kind):=(HB4.out.cell (p:=⟨y12,i * 14+0,none⟩) HX.out.1).trans (HC.out 0 _ rfl)
     have x1:w4.cell? ⟨y12,i * 14+1,none⟩=some (.int .i64 n0):=(HB4.out.cell (p:=⟨y12,i * 14+1,none⟩) HX.out.1).trans (HC.out 1 _ rfl)
     have x2:w4.cell? ⟨y12,i * 14+2,none⟩=some (.string s1):=(HB4.out.cell (p:=⟨y12,i * 14+2,none⟩) HX.out.1).trans (HC.out 2 _ rfl)
     have x3:w4.cell? ⟨y12,i * 14+3,none⟩=some (.int .i64 n2):=(HB4.out.cell (p:=⟨y12,i * 14+3,none⟩) HX.out.1).trans (HC.out 3 _ rfl)
     have x4:w4.cell? ⟨y12,i * 14+4,none⟩=some (.int .i64 n3):=(HB4.out.cell (p:=⟨y12,i * 14+4,none⟩) HX.out.1).trans (HC.out 4 _ rfl)
     have x5:w4.cell? ⟨y12,i * 14+5,none⟩=some (.int .i64 n4):=(HB4.out.cell (p:=⟨y12,i * 14+5,none⟩) HX.out.1).trans (HC.out 5 _ rfl)
     have x6:w4.cell? ⟨y12,i * 14+6,none⟩=some (.int .i64 n5):=(HB4.out.cell (p:=⟨y12,i * 14+6,none⟩) HX.out.1).trans (HC.out 6 _ rfl)
     have x7:w4.cell? ⟨y12,i * 14+7,none⟩=some (.int .i64 n6):=(HB4.out.cell (p:=⟨y12,i * 14+7,none⟩) HX.out.1).trans (HC.out 7 _ rfl)
     have x8:w4.cell? ⟨y12,i * 14+8,none⟩=some (.int .i64 n7):=(HB4.out.cell (p:=⟨y12,i * 14+8,none⟩) HX.out.1).trans (HC.out 8 _ rfl)
     have x9:w4.cell? ⟨y12,i * 14+9,none⟩=some (.slice A8 l8 c8):=(HB4.out.cell (p:=⟨y12,i * 14+9,none⟩) HX.out.1).trans (HC.out 9 _ rfl)
     have x10:w4.cell? ⟨y12,i * 14+10,none⟩=some (.int .i64 q.vkind):=(HB4.out.cell (p:=⟨y12,i * 14+10,none⟩) HX.out.1).trans (HC.out 10 _ rfl)
     have x11:w4.cell? ⟨y12,i * 14+11,none⟩=some (.slice vA vl vc):=(HB4.out.cell (p:=⟨y12,i * 14+11,none⟩) HX.out.1).trans (HC.out 11 _ rfl)
     have x12:w4.cell? ⟨y12,i * 14+12,none⟩=some (.int .i64 q.day):=(HB4.out.cell (p:=⟨y12,i * 14+12,none⟩) HX.out.1).trans (HC.out 12 _ rfl)
     have x13:w4.cell? ⟨y12,i * 14+13,none⟩=some (.int .i64 q.scale):=(HB4.out.cell (p:=⟨y12,i * 14+13,none⟩) HX.out.1).trans (HC.out 13 _ rfl)
     go_wp2_with fail
     refine (HRp.out _ _ (HQ.out _ HB4.out)).mono ?_
     rintro e w5 ⟨rfl,k5⟩
     have HB5:=Lib.hid (Below.call HB4.out k5)
     clear k5 HB3 HB4 HPr HRp HOw x0 x1 x2 x3 x4 x5 x6 x7 x8 x9 x10 x11 x12 x13
     go_wp2_with fail
     go_roundw
     case rel=>exact ⟨i+1,by omega,by go_num,HB5.out⟩
     case measure=>simp [intOf];omega
   ·
    have HPa:Hid (∀ u,Calls Tryz.prog 13 #[.string ⟨T.toArray⟩] u (ParseR u (q,0,0))):=Lib.hid fun u=>by rw [← hPa];exact qParse T u (by omega)
    have HW:Hid (∀ u,Calls Tryz.prog 11 #[.string ⟨T.toArray⟩,.int .i64 at_,.int .i64 other] u fun e w'=>∃ t:ByteArray,e=.returned (.string t)∧Below u.heap.size u w'∧t.size≤20000):=Lib.hid fun u=>(Wrong_any T (by omega) at_ other HB.out.2.2.1 HB.out.2.2.2 u).mono fun e w' ⟨t,h1,h2,h3⟩=>⟨t,h1,h2,by omega⟩
    clear hv hTl hPa
    rw [hPQ] at HPr HRp
    clear hPQ
    have x0:wr.cell? ⟨y12,i * 14,none⟩=some (.int .i64 q.kind):=(HBr.out.cell (p:=⟨y12,i * 14+0,none⟩) HX.out.1).trans (HC.out 0 _ rfl)
    have x1:wr.cell? ⟨y12,i * 14+1,none⟩=some (.int .i64 n0):=(HBr.out.cell (p:=⟨y12,i * 14+1,none⟩) HX.out.1).trans (HC.out 1 _ rfl)
    have x2:wr.cell? ⟨y12,i * 14+2,none⟩=some (.string s1):=(HBr.out.cell (p:=⟨y12,i * 14+2,none⟩) HX.out.1).trans (HC.out 2 _ rfl)
    have x3:wr.cell? ⟨y12,i * 14+3,none⟩=some (.int .i64 n2):=(HBr.out.cell (p:=⟨y12,i * 14+3,none⟩) HX.out.1).trans (HC.out 3 _ rfl)
    have x4:wr.cell? ⟨y12,i * 14+4,none⟩=some (.int .i64 n3):=(HBr.out.cell (p:=⟨y12,i * 14+4,none⟩) HX.out.1).trans (HC.out 4 _ rfl)
    have x5:wr.cell? ⟨y12,i * 14+5,none⟩=some (.int .i64 n4):=(HBr.out.cell (p:=⟨y12,i * 14+5,none⟩) HX.out.1).trans (HC.out 5 _ rfl)
    have x6:wr.cell? ⟨y12,i * 14+6,none⟩=some (.int .i64 n5):=(HBr.out.cell (p:=⟨y12,i * 14+6,none⟩) HX.out.1).trans (HC.out 6 _ rfl)
    have x7:wr.cell? ⟨y12,i * 14+7,none⟩=some (.int .i64 n6):=(HBr.out.cell (p:=⟨y12,i * 14+7,none⟩) HX.out.1).trans (HC.out 7 _ rfl)
    have x8:wr.cell? ⟨y12,i * 14+8,none⟩=some (.int .i64 n7):=(HBr.out.cell (p:=⟨y12,i * 14+8,none⟩) HX.out.1).trans (HC.out 8 _ rfl)
    have x9:wr.cell? ⟨y12,i * 14+9,none⟩=some (.slice A8 l8 c8):=(HBr.out.cell (p:=⟨y12,i * 14+9,none⟩) HX.out.1).trans (HC.out 9 _ rfl)
    have x10:wr.cell? ⟨y12,i * 14+10,none⟩=some (.int .i64 q.vkind):=(HBr.out.cell (p:=⟨y12,i * 14+10,none⟩) HX.out.1).trans (HC.out 10 _ rfl)
    have x11:wr.cell? ⟨y12,i * 14+11,none⟩=some (.slice vA vl vc):=(HBr.out.cell (p:=⟨y12,i * 14+11,none⟩) HX.out.1).trans (HC.out 11 _ rfl)
    have x12:wr.cell? ⟨y12,i * 14+12,none⟩=some (.int .i64 q.day):=(HBr.out.cell (p:=⟨y12,i * 14+12,none⟩) HX.out.1).trans (HC.out 12 _ rfl)
    have x13:wr.cell? ⟨y12,i * 14+13,none⟩=some (.int .i64 q.scale):=(HBr.out.cell (p:=⟨y12,i * 14+13,none⟩) HX.out.1).trans (HC.out 13 _ rfl)
    go_wp2_with fail
    refine (HOw.out _ _ (HQ.out _ HBr.out)).mono ?_
    rintro e w3 ⟨v3,rfl,k3,hv3⟩
    have HB3:=Lib.hid (Below.call HBr.out k3)
    clear k3 x0 x1 x2 x3 x4 x5 x6 x7 x8 x9 x10 x11 x12 x13
    go_wp2_with fail
    refine (HPr.out _ _ (Below.call HB2.out HB3.out) hv3).mono ?_
    rintro e w4 ⟨rfl,k4⟩
    have HB4:=Lib.hid (Below.call HB3.out k4)
    clear k4 hv3
    have x0:w4.cell? ⟨y12,i * 14,none⟩=some (.int .i64 q.kind):=(HB4.out.cell (p:=⟨y12,i * 14+0,none⟩) HX.out.1).trans (HC.out 0 _ rfl)
    have x1:w4.cell? ⟨y12,i * 14+1,none⟩=some (.int .i64 n0):=(HB4.out.cell (p:=⟨y12,i * 14+1,none⟩) HX.out.1).trans (HC.out 1 _ rfl)
    have x2:w4.cell? ⟨y12,i * 14+2,none⟩=some (.string s1):=(HB4.out.cell (p:=⟨y12,i * 14+2,none⟩) HX.out.1).trans (HC.out 2 _ rfl)
    have x3:w4.cell? ⟨y12,i * 14+3,none⟩=some (.int .i64 n2):=(HB4.out.cell (p:=⟨y12,i * 14+3,none⟩) HX.out.1).trans (HC.out 3 _ rfl)
    have x4:w4.cell? ⟨y12,i * 14+4,none⟩=some (.int .i64 n3):=(HB4.out.cell (p:=⟨y12,i * 14+4,none⟩) HX.out.1).trans (HC.out 4 _ rfl)
    have x5:w4.cell? ⟨y12,i * 14+5,none⟩=some (.int .i64 n4):=(HB4.out.cell (p:=⟨y12,i * 14+5,none⟩) HX.out.1).trans (HC.out 5 _ rfl)
    have x6:w4.cell? ⟨y12,i * 14+6,none⟩=some (.int .i64 n5):=(HB4.out.cell (p:=⟨y12,i * 14+6,none⟩) HX.out.1).trans (HC.out 6 _ rfl)
    have x7:w4.cell? ⟨y12,i * 14+7,none⟩=some (.int .i64 n6):=(HB4.out.cell (p:=⟨y12,i * 14+7,none⟩) HX.out.1).trans (HC.out 7 _ rfl)
    have x8:w4.cell? ⟨y12,i * 14+8,none⟩=some (.int .i64 n7):=(HB4.out.cell (p:=⟨y12,i * 14+8,none⟩) HX.out.1).trans (HC.out 8 _ rfl)
    have x9:w4.cell? ⟨y12,i * 14+9,none⟩=some (.slice A8 l8 c8):=(HB4.out.cell (p:=⟨y12,i * 14+9,none⟩) HX.out.1).trans (HC.out 9 _ rfl)
    have x10:w4.cell? ⟨y12,i * 14+10,none⟩=some (.int .i64 q.vkind):=(HB4.out.cell (p:=⟨y12,i * 14+10,none⟩) HX.out.1).trans (HC.out 10 _ rfl)
    have x11:w4.cell? ⟨y12,i * 14+11,none⟩=some (.slice vA vl vc):=(HB4.out.cell (p:=⟨y12,i * 14+11,none⟩) HX.out.1).trans (HC.out 11 _ rfl)
    have x12:w4.cell? ⟨y12,i * 14+12,none⟩=some (.int .i64 q.day):=(HB4.out.cell (p:=⟨y12,i * 14+12,none⟩) HX.out.1).trans (HC.out 12 _ rfl)
    have x13:w4.cell? ⟨y12,i * 14+13,none⟩=some (.int .i64 q.scale):=(HB4.out.cell (p:=⟨y12,i * 14+13,none⟩) HX.out.1).trans (HC.out 13 _ rfl)
    go_wp2_with fail
    refine (HRp.out _ _ (HQ.out _ HB4.out)).mono ?_
    rintro e w5 ⟨rfl,k5⟩
    have HB5:=Lib.hid (Below.call HB4.out k5)
    clear k5 HB3 HB4 HPr HRp HOw x0 x1 x2 x3 x4 x5 x6 x7 x8 x9 x10 x11 x12 x13
    go_wp2_with fail
    refine (HPa.out _).mono ?_
    rintro e w6 ⟨v6,rfl,hq6,hb6⟩
    have hqa:=hq6.isQ
    obtain ⟨an0,as1,an2,an3,an4,an5,an6,an7,aA8,al8,ac8,avA,avl,avc,rfl,-⟩:=hq6.lit
    clear hq6
    simp only at hqa ⊢
    go_upto_region 12 with fail
    refine wp_new1 fun W6 hOa kn=>?_
    obtain ⟨ga,hga⟩:∃ g,w6.heap.size=g:=⟨_,rfl⟩
    rw [hga] at hOa ⊢
    have HB6:=Lib.hid (Below.call (Below.call HB5.out hb6) kn)
    have HOa:=Lib.hid hOa
    have HQa:Hid (∀ wz,Below W6.heap.size W6 wz→IsQry wz q (.agg #[.int .i64 q.kind,.int .i64 an0,.string as1,.int .i64 an2,.int .i64 an3,.int .i64 an4,.int .i64 an5,.int .i64 an6,.int .i64 an7,.slice aA8 al8 ac8,.int .i64 q.vkind,.slice avA avl avc,.int .i64 q.day,.int .i64 q.scale])):=Lib.hid fun wz k=>(hqa.on kn).on k
    have HQb:Hid (∀ wz,Below W6.heap.size W6 wz→IsQry wz q (.agg #[.int .i64 q.kind,.int .i64 n0,.string s1,.int .i64 n2,.int .i64 n3,.int .i64 n4,.int .i64 n5,.int .i64 n6,.int .i64 n7,.slice A8 l8 c8,.int .i64 q.vkind,.slice vA vl vc,.int .i64 q.day,.int .i64 q.scale])):=Lib.hid fun wz k=>HQ.out _ (Below.call HB6.out k)
    clear hOa kn hga hqa hb6 HPa HB5
    refine wp_region_specs W6 [Spec.eq (.int .i64 0),Spec.eq (.bool false),Spec.eq (.bool false),Spec.eq (.int .i64 0),Spec.eq (.bool false),Spec.eq (.bool false),Spec.eq (.bool false),Spec.eq (.agg #[.int .i64 q.kind,.int .i64 an0,.string as1,.int .i64 an2,.int .i64 an3,.int .i64 an4,.int .i64 an5,.int .i64 an6,.int .i64 an7,.slice aA8 al8 ac8,.int .i64 q.vkind,.slice avA avl avc,.int .i64 q.day,.int .i64 q.scale]),sQryB q,Spec.eq (.slice (some ⟨y12,0,none⟩) 2 2),Spec.eq (.int .i64 (i:Int)),Spec.eq (.pointer (some ⟨y12,i * 14,none⟩)),Spec.eq (.agg #[.int .i64 q.kind,.int .i64 n0,.string s1,.int .i64 n2,.int .i64 n3,.int .i64 n4,.int .i64 n5,.int .i64 n6,.int .i64 n7,.slice A8 l8 c8,.int .i64 q.vkind,.slice vA vl vc,.int .i64 q.day,.int .i64 q.scale]),Spec.eq (.bool true),Spec.eq (.bool false),Spec.eq (.bool false)]
     (by kernel_rfl) (by kernel_rfl) rfl (by kernel_rfl) (Below.drew (Below.refl _ _)) ?_ ?_
    ·
     refine RegSteps.cons ?_ ?_
     ·intro _ az wz hC hF hD _ K hK
      have q19:az.tmps[19]? = some (.int .i64 0):=hF 19 rfl
      clear hF hD
      refine want_none rfl ?_
      go_simp
      exact hK _ _ hC (Below.refl _ _) rfl
     refine RegSteps.cons ?_ ?_
     ·intro _ az wz hC hF hD _ K hK
      obtain ⟨_,q74,rfl⟩:=dep hD 0 rfl rfl rfl rfl
      clear hF hD
      refine want_none rfl ?_
      go_simp
      exact hK _ _ hC (Below.refl _ _) rfl
     refine RegSteps.cons ?_ ?_
     ·intro _ az wz hC hF hD _ K hK
      obtain ⟨_,q75,rfl⟩:=dep hD 1 rfl rfl rfl rfl
      clear hF hD
      refine want_none rfl ?_
      go_simp
      exact hK _ _ hC (Below.refl _ _) rfl
     refine RegSteps.cons ?_ ?_
     ·intro _ az wz hC hF hD _ K hK
      have q20:az.tmps[20]? = some (.int .i64 0):=hF 20 rfl
      obtain ⟨_,qg,rfl⟩:=dep hD 2 rfl rfl rfl rfl
      clear hF hD
      refine want_yes rfl rfl rfl qg ?_
      go_simp
      exact hK _ _ hC (Below.refl _ _) rfl
     refine RegSteps.cons ?_ ?_
     ·intro _ az wz hC hF hD _ K hK
      obtain ⟨_,q77,rfl⟩:=dep hD 3 rfl rfl rfl rfl
      obtain ⟨_,qg,rfl⟩:=dep hD 2 rfl rfl rfl rfl
      clear hF hD
      refine want_yes rfl rfl rfl qg ?_
      go_simp
      exact hK _ _ hC (Below.refl _ _) rfl
     refine RegSteps.cons ?_ ?_
     ·intro _ az wz hC hF hD _ K hK
      obtain ⟨_,q76,rfl⟩:=dep hD 2 rfl rfl rfl rfl
      obtain ⟨_,q78,rfl⟩:=dep hD 4 rfl rfl rfl rfl
      clear hF hD
      refine want_none rfl ?_
      go_simp
      exact hK _ _ hC (Below.refl _ _) rfl
     refine RegSteps.cons ?_ ?_
     ·intro _ az wz hC hF hD _ K hK
      obtain ⟨_,q79,rfl⟩:=dep hD 5 rfl rfl rfl rfl
      clear hF hD
      refine want_none rfl ?_
      go_simp
      exact hK _ _ hC (Below.refl _ _) rfl
     refine RegSteps.cons ?_ ?_
     ·intro _ az wz hC hF hD _ K hK
      have q18:az.tmps[18]? = some (.pointer (some ⟨ga,0,none⟩)):=hF 18 rfl
      obtain ⟨_,qg,rfl⟩:=dep hD 6 rfl rfl rfl rfl
      obtain ⟨⟨z0,z1,z2,z3,z4,z5,z6,z7,z8,z9,z10,z11,z12,z13⟩,_⟩:=(HOa.out.on hC).all14
      clear hF hD
      refine want_yes rfl rfl rfl qg ?_
      go_simp
      exact hK _ _ hC (Below.refl _ _) rfl
     refine RegSteps.cons ?_ ?_
     ·intro _ az wz hC hF hD _ K hK
      obtain ⟨_,q81,rfl⟩:=dep hD 7 rfl rfl rfl rfl
      obtain ⟨_,qg,rfl⟩:=dep hD 6 rfl rfl rfl rfl
      clear hF hD
      refine want_yes rfl rfl rfl qg ?_
      go_simp
      refine (HPl.out _ _ (HQa.out _ hC)).mono ?_
      rintro e wy ⟨x,rfl,k,hx⟩
      exact hK _ _ (Below.call hC k) k ⟨x,rfl,hx⟩
     refine RegSteps.cons ?_ ?_
     ·intro _ az wz hC hF hD _ K hK
      have q12:az.tmps[12]? = some (.slice (some ⟨y12,0,none⟩) 2 2):=hF 12 rfl
      obtain ⟨_,qg,rfl⟩:=dep hD 6 rfl rfl rfl rfl
      clear hF hD
      refine want_yes rfl rfl rfl qg ?_
      go_simp
      exact hK _ _ hC (Below.refl _ _) rfl
     refine RegSteps.cons ?_ ?_
     ·intro _ az wz hC hF hD _ K hK
      have q13:az.tmps[13]? = some (.int .i64 (i:Int)):=hF 13 rfl
      obtain ⟨_,qg,rfl⟩:=dep hD 6 rfl rfl rfl rfl
      clear hF hD
      refine want_yes rfl rfl rfl qg ?_
      go_simp
      exact hK _ _ hC (Below.refl _ _) rfl
     refine RegSteps.cons ?_ ?_
     ·intro _ az wz hC hF hD _ K hK
      obtain ⟨_,q83,rfl⟩:=dep hD 9 rfl rfl rfl rfl
      obtain ⟨_,q84,rfl⟩:=dep hD 10 rfl rfl rfl rfl
      obtain ⟨_,qg,rfl⟩:=dep hD 6 rfl rfl rfl rfl
      have i0:(0:Int)≤(i:Int):=Int.natCast_nonneg i
      have i1:=HI.out
      clear hF hD
      refine want_yes rfl rfl rfl qg ?_
      go_simp
      exact hK _ _ hC (Below.refl _ _) rfl
     refine RegSteps.cons ?_ ?_
     ·intro _ az wz hC hF hD _ K hK
      obtain ⟨_,q85,rfl⟩:=dep hD 11 rfl rfl rfl rfl
      obtain ⟨_,qg,rfl⟩:=dep hD 6 rfl rfl rfl rfl
      have hB_:=Below.call HB6.out hC
      have x0:wz.cell? ⟨y12,i * 14,none⟩=some (.int .i64 q.kind):=(hB_.cell (p:=⟨y12,i * 14+0,none⟩) HX.out.1).trans (HC.out 0 _ rfl)
      have x1:wz.cell? ⟨y12,i * 14+1,none⟩=some (.int .i64 n0):=(hB_.cell (p:=⟨y12,i * 14+1,none⟩) HX.out.1).trans (HC.out 1 _ rfl)
      have x2:wz.cell? ⟨y12,i * 14+2,none⟩=some (.string s1):=(hB_.cell (p:=⟨y12,i * 14+2,none⟩) HX.out.1).trans (HC.out 2 _ rfl)
      have x3:wz.cell? ⟨y12,i * 14+3,none⟩=some (.int .i64 n2):=(hB_.cell (p:=⟨y12,i * 14+3,none⟩) HX.out.1).trans (HC.out 3 _ rfl)
      have x4:wz.cell? ⟨y12,i * 14+4,none⟩=some (.int .i64 n3):=(hB_.cell (p:=⟨y12,i * 14+4,none⟩) HX.out.1).trans (HC.out 4 _ rfl)
      have x5:wz.cell? ⟨y12,i * 14+5,none⟩=some (.int .i64 n4):=(hB_.cell (p:=⟨y12,i * 14+5,none⟩) HX.out.1).trans (HC.out 5 _ rfl)
      have x6:wz.cell? ⟨y12,i * 14+6,none⟩=some (.int .i64 n5):=(hB_.cell (p:=⟨y12,i * 14+6,none⟩) HX.out.1).trans (HC.out 6 _ rfl)
      have x7:wz.cell? ⟨y12,i * 14+7,none⟩=some (.int .i64 n6):=(hB_.cell (p:=⟨y12,i * 14+7,none⟩) HX.out.1).trans (HC.out 7 _ rfl)
      have x8:wz.cell? ⟨y12,i * 14+8,none⟩=some (.int .i64 n7):=(hB_.cell (p:=⟨y12,i * 14+8,none⟩) HX.out.1).trans (HC.out 8 _ rfl)
      have x9:wz.cell? ⟨y12,i * 14+9,none⟩=some (.slice A8 l8 c8):=(hB_.cell (p:=⟨y12,i * 14+9,none⟩) HX.out.1).trans (HC.out 9 _ rfl)
      have x10:wz.cell? ⟨y12,i * 14+10,none⟩=some (.int .i64 q.vkind):=(hB_.cell (p:=⟨y12,i * 14+10,none⟩) HX.out.1).trans (HC.out 10 _ rfl)
      have x11:wz.cell? ⟨y12,i * 14+11,none⟩=some (.slice vA vl vc):=(hB_.cell (p:=⟨y12,i * 14+11,none⟩) HX.out.1).trans (HC.out 11 _ rfl)
      have x12:wz.cell? ⟨y12,i * 14+12,none⟩=some (.int .i64 q.day):=(hB_.cell (p:=⟨y12,i * 14+12,none⟩) HX.out.1).trans (HC.out 12 _ rfl)
      have x13:wz.cell? ⟨y12,i * 14+13,none⟩=some (.int .i64 q.scale):=(hB_.cell (p:=⟨y12,i * 14+13,none⟩) HX.out.1).trans (HC.out 13 _ rfl)
      clear hF hD
      refine want_yes rfl rfl rfl qg ?_
      go_simp
      exact hK _ _ hC (Below.refl _ _) rfl
     refine RegSteps.cons ?_ ?_
     ·intro _ az wz hC hF hD _ K hK
      obtain ⟨_,q82,x82,rfl,hx82⟩:=dep hD 8 rfl rfl rfl rfl
      obtain ⟨_,q86,rfl⟩:=dep hD 12 rfl rfl rfl rfl
      obtain ⟨_,qg,rfl⟩:=dep hD 6 rfl rfl rfl rfl
      clear hF hD
      refine want_yes rfl rfl rfl qg ?_
      go_simp
      refine (HSq.out _ _ _ hx82 (HQb.out _ hC)).mono ?_
      rintro e wy ⟨rfl,k⟩
      exact hK _ _ (Below.call hC k) k rfl
     refine RegSteps.cons ?_ ?_
     ·intro _ az wz hC hF hD _ K hK
      obtain ⟨_,q87,rfl⟩:=dep hD 13 rfl rfl rfl rfl
      obtain ⟨_,qg,rfl⟩:=dep hD 6 rfl rfl rfl rfl
      clear hF hD
      refine want_yes rfl rfl rfl qg ?_
      go_simp
      exact hK _ _ hC (Below.refl _ _) rfl
     refine RegSteps.cons ?_ ?_
     ·intro _ az wz hC hF hD _ K hK
      obtain ⟨_,q80,rfl⟩:=dep hD 6 rfl rfl rfl rfl
      obtain ⟨_,q88,rfl⟩:=dep hD 14 rfl rfl rfl rfl
      clear hF hD
      refine want_none rfl ?_
      go_simp
      exact hK _ _ hC (Below.refl _ _) rfl
     exact RegSteps.nil
    intro w7 hC7
    rintro _ rfl _ rfl _ rfl _ rfl _ rfl _ rfl _ rfl _ rfl _ ⟨y82,rfl,_⟩ _ rfl _ rfl _ rfl _ rfl _ rfl _ rfl _ rfl
    simp only [FinOK,Act.put,List.setIfInBounds_toArray,List.set_cons_zero,List.set_cons_succ]
    have HB7:=Lib.hid (Below.call HB6.out hC7)
    clear hC7 HOa HQa HQb HB6 HPl HSq
    go_wp2_with fail
    refine (HW.out _).mono ?_
    rintro e w8 ⟨t8,rfl,k8,ht8⟩
    have HB8:=Lib.hid (Below.call HB7.out k8)
    obtain ⟨X8,hX8⟩:∃ X:Qy.Bs,t8=bs X:=⟨t8.data.toList,rfl⟩
    subst hX8
    rw [bs_sizeP] at ht8
    obtain ⟨pv1,pv2,pv3,_⟩:=Qy.parse_valid X8
    have HPx:Hid (∀ u,Calls Tryz.prog 13 #[.string (bs X8)] u (ParseR u (Qy.parse X8))):=Lib.hid fun u=>qParse X8 u (by omega)
    obtain ⟨R,hR⟩:∃ R,Qy.parse X8=R:=⟨_,rfl⟩
    rw [hR] at HPx pv1 pv2 pv3
    obtain ⟨B,px,pe⟩:=R
    simp only at pv1 pv2 pv3
    clear hR ht8 k8 HB7 HW
    go_wp2_with fail
    refine (HPx.out _).mono ?_
    rintro e w9 ⟨v9,rfl,hq9,hb9⟩
    have hqb:=hq9.isQ
    obtain ⟨bn0,bs1,bn2,bn3,bn4,bn5,bn6,bn7,bA8,bl8,bc8,bvA,bvl,bvc,rfl,-⟩:=hq9.lit
    clear hq9
    simp only at hqb ⊢
    go_upto_region 15 with fail
    refine wp_new1 fun W9 hOb kn=>?_
    obtain ⟨gb,hgb⟩:∃ g,w9.heap.size=g:=⟨_,rfl⟩
    rw [hgb] at hOb ⊢
    have HB9:=Lib.hid (Below.call (Below.call HB8.out hb9) kn)
    have HOb9:=Lib.hid hOb
    have HQb9:Hid (∀ wz,Below W9.heap.size W9 wz→IsQry wz B (.agg #[.int .i64 B.kind,.int .i64 bn0,.string bs1,.int .i64 bn2,.int .i64 bn3,.int .i64 bn4,.int .i64 bn5,.int .i64 bn6,.int .i64 bn7,.slice bA8 bl8 bc8,.int .i64 B.vkind,.slice bvA bvl bvc,.int .i64 B.day,.int .i64 B.scale])):=Lib.hid fun wz k=>(hqb.on kn).on k
    clear hOb kn hgb hqb hb9 HPx HB8
    by_cases hpe:pe=0
    ·as_aux_lemma=>
      subst hpe
      obtain ⟨T2,j,C,cx,ce,hPB,hPC,hT2,hjc⟩:=print_again B (pv1 rfl)
      have HPB2:=Lib.hid fun v u (hu:Below w.heap.size w u) h=>pPrint_any B (by omega) (by omega) v u (HT.out.on hu) h
      rw [hPB] at HPB2
      have HPC:Hid (∀ u,Calls Tryz.prog 13 #[.string ⟨T2.toArray⟩] u (ParseR u (C,cx,ce))):=Lib.hid fun u=>by rw [← hPC];exact qParse T2 u (by omega)
      have HVd:Hid (∀ (v:Value) (u:World),IsQry u B v→Calls Tryz.prog 20 #[v] u (RetInt u 0)):=Lib.hid fun v u h=>by
       have h2:=pValid_any B (by omega) (by omega) v u h
       rw [pv1 rfl] at h2
       exact h2
      have HPB:Hid (∀ (v:Value) (u:World),IsQry u B v→Calls Tryz.prog 16 #[v] u fun e w'=>∃ v',e=.returned v'∧Below u.heap.size u w'∧IsQry w' B v'):=Lib.hid fun v u h=>plain_any B (by omega) v u h
      have HSB:Hid (∀ (v v':Value) (u:World),IsQry u B v→IsQry u B v'→Calls Tryz.prog 15 #[v,v'] u (RetB u true)):=Lib.hid fun v v' u h h'=>SameQuery_any B (by omega) (by omega) v v' u h h'
      have HJ:=Lib.hid hjc
      clear hPB hPC hT2 pv1 pv2 pv3 hjc
      obtain ⟨⟨x0,x1,x2,x3,x4,x5,x6,x7,x8,x9,x10,x11,x12,x13⟩,_⟩:=HOb9.out.all14
      go_wp2_with fail
      refine (HPB2.out _ _ (Below.call HB2.out HB9.out) (HQb9.out _ (Below.refl _ _))).mono ?_
      rintro e w10 ⟨rfl,k10⟩
      have HB10:=Lib.hid k10
      clear k10 HPB2 x0 x1 x2 x3 x4 x5 x6 x7 x8 x9 x10 x11 x12 x13
      go_wp2_with fail
      refine (HPC.out _).mono ?_
      rintro e w11 ⟨v11,rfl,hq11,hb11⟩
      have hqc:=hq11.isQ
      obtain ⟨cn0,cs1,cn2,cn3,cn4,cn5,cn6,cn7,cA8,cl8,cc8,cvA,cvl,cvc,rfl,-⟩:=hq11.lit
      clear hq11
      simp only at hqc ⊢
      go_upto_region 18 with fail
      refine wp_new1 fun W11 hOc kn=>?_
      obtain ⟨gc,hgc⟩:∃ g,w11.heap.size=g:=⟨_,rfl⟩
      rw [hgc] at hOc ⊢
      have HB11:=Lib.hid (Below.call (Below.call HB10.out hb11) kn)
      have HOb:=Lib.hid (HOb9.out.on HB11.out)
      have HOc:=Lib.hid hOc
      have HQb:Hid (∀ wz,Below W11.heap.size W11 wz→IsQry wz B (.agg #[.int .i64 B.kind,.int .i64 bn0,.string bs1,.int .i64 bn2,.int .i64 bn3,.int .i64 bn4,.int .i64 bn5,.int .i64 bn6,.int .i64 bn7,.slice bA8 bl8 bc8,.int .i64 B.vkind,.slice bvA bvl bvc,.int .i64 B.day,.int .i64 B.scale])):=Lib.hid fun wz k=>HQb9.out _ (Below.call HB11.out k)
      have HQc:Hid (∀ wz,Below W11.heap.size W11 wz→IsQry wz C (.agg #[.int .i64 C.kind,.int .i64 cn0,.string cs1,.int .i64 cn2,.int .i64 cn3,.int .i64 cn4,.int .i64 cn5,.int .i64 cn6,.int .i64 cn7,.slice cA8 cl8 cc8,.int .i64 C.vkind,.slice cvA cvl cvc,.int .i64 C.day,.int .i64 C.scale])):=Lib.hid fun wz k=>(hqc.on kn).on k
      have HBw:=Lib.hid (Below.call HB9.out HB11.out)
      clear hOc kn hgc hqc hb11 HPC HB10 HB11 HB9 HOb9 HQb9
      rcases HJ.out with rfl | ⟨rfl,rfl,rfl⟩
      ·as_aux_lemma=>
        refine wp_region_specs W11 [Spec.eq (.agg #[.int .i64 B.kind,.int .i64 bn0,.string bs1,.int .i64 bn2,.int .i64 bn3,.int .i64 bn4,.int .i64 bn5,.int .i64 bn6,.int .i64 bn7,.slice bA8 bl8 bc8,.int .i64 B.vkind,.slice bvA bvl bvc,.int .i64 B.day,.int .i64 B.scale]),Spec.eq (.int .i64 0),Spec.eq (.bool false),Spec.eq (.bool false),Spec.eq (.int .i64 4),Spec.eq (.bool true),Spec.eq (.bool true),Spec.eq (.int .i64 4),Spec.eq (.bool false),Spec.eq (.bool false),Spec.eq (.bool false),Spec.eq (.bool false),Spec.eq (.int .i64 4),Spec.eq (.bool false),Spec.eq (.bool false),Spec.eq undef,Spec.eq undef,Spec.eq undef,Spec.eq undef,Spec.eq undef,Spec.eq undef,Spec.eq undef,Spec.eq undef,Spec.eq undef,Spec.eq undef,Spec.eq (.bool false),Spec.eq (.bool false)]
         (by kernel_rfl) (by kernel_rfl) rfl (by kernel_rfl) (Below.drew (Below.refl _ _)) ?_ ?_
        ·
         refine RegSteps.cons ?_ ?_
         ·intro _ az wz hC hF hD _ K hK
          have q21:az.tmps[21]? = some (.pointer (some ⟨gb,0,none⟩)):=hF 21 rfl
          obtain ⟨⟨z0,z1,z2,z3,z4,z5,z6,z7,z8,z9,z10,z11,z12,z13⟩,_⟩:=(HOb.out.on hC).all14
          clear hF hD
          refine want_none rfl ?_
          go_simp
          exact hK _ _ hC (Below.refl _ _) rfl
         refine RegSteps.cons ?_ ?_
         ·intro _ az wz hC hF hD _ K hK
          obtain ⟨_,q112,rfl⟩:=dep hD 0 rfl rfl rfl rfl
          clear hF hD
          refine want_none rfl ?_
          go_simp
          refine (HVd.out _ _ (HQb.out _ hC)).mono ?_
          rintro e wy ⟨rfl,k⟩
          exact hK _ _ (Below.call hC k) k rfl
         refine RegSteps.cons ?_ ?_
         ·intro _ az wz hC hF hD _ K hK
          obtain ⟨_,q113,rfl⟩:=dep hD 1 rfl rfl rfl rfl
          clear hF hD
          refine want_none rfl ?_
          go_simp
          exact hK _ _ hC (Below.refl _ _) rfl
         refine RegSteps.cons ?_ ?_
         ·intro _ az wz hC hF hD _ K hK
          obtain ⟨_,q114,rfl⟩:=dep hD 2 rfl rfl rfl rfl
          clear hF hD
          refine want_none rfl ?_
          go_simp
          exact hK _ _ hC (Below.refl _ _) rfl
         refine RegSteps.cons ?_ ?_
         ·intro _ az wz hC hF hD _ K hK
          have q25:az.tmps[25]? = some (.int .i64 4):=hF 25 rfl
          obtain ⟨_,qg,rfl⟩:=dep hD 3 rfl rfl rfl rfl
          clear hF hD
          refine want_yes rfl rfl rfl qg ?_
          go_simp
          exact hK _ _ hC (Below.refl _ _) rfl
         refine RegSteps.cons ?_ ?_
         ·intro _ az wz hC hF hD _ K hK
          obtain ⟨_,q116,rfl⟩:=dep hD 4 rfl rfl rfl rfl
          obtain ⟨_,qg,rfl⟩:=dep hD 3 rfl rfl rfl rfl
          clear hF hD
          refine want_yes rfl rfl rfl qg ?_
          go_simp
          exact hK _ _ hC (Below.refl _ _) rfl
         refine RegSteps.cons ?_ ?_
         ·intro _ az wz hC hF hD _ K hK
          obtain ⟨_,q117,rfl⟩:=dep hD 5 rfl rfl rfl rfl
          obtain ⟨_,qg,rfl⟩:=dep hD 3 rfl rfl rfl rfl
          clear hF hD
          refine want_yes rfl rfl rfl qg ?_
          go_simp
          exact hK _ _ hC (Below.refl _ _) rfl
         refine RegSteps.cons ?_ ?_
         ·intro _ az wz hC hF hD _ K hK
          have q25:az.tmps[25]? = some (.int .i64 4):=hF 25 rfl
          obtain ⟨_,qg,rfl⟩:=dep hD 6 rfl rfl rfl rfl
          clear hF hD
          refine want_yes rfl rfl rfl qg ?_
          go_simp
          exact hK _ _ hC (Below.refl _ _) rfl
         refine RegSteps.cons ?_ ?_
         ·intro _ az wz hC hF hD _ K hK
          obtain ⟨_,q119,rfl⟩:=dep hD 7 rfl rfl rfl rfl
          obtain ⟨_,qg,rfl⟩:=dep hD 6 rfl rfl rfl rfl
          clear hF hD
          refine want_yes rfl rfl rfl qg ?_
          go_simp
          exact hK _ _ hC (Below.refl _ _) rfl
         refine RegSteps.cons ?_ ?_
         ·intro _ az wz hC hF hD _ K hK
          obtain ⟨_,q118,rfl⟩:=dep hD 6 rfl rfl rfl rfl
          obtain ⟨_,q120,rfl⟩:=dep hD 8 rfl rfl rfl rfl
          obtain ⟨_,qg,rfl⟩:=dep hD 3 rfl rfl rfl rfl
          clear hF hD
          refine want_yes rfl rfl rfl qg ?_
          go_simp
          exact hK _ _ hC (Below.refl _ _) rfl
         refine RegSteps.cons ?_ ?_
         ·intro _ az wz hC hF hD _ K hK
          obtain ⟨_,q115,rfl⟩:=dep hD 3 rfl rfl rfl rfl
          obtain ⟨_,q121,rfl⟩:=dep hD 9 rfl rfl rfl rfl
          clear hF hD
          refine want_none rfl ?_
          go_simp
          exact hK _ _ hC (Below.refl _ _) rfl
         refine RegSteps.cons ?_ ?_
         ·intro _ az wz hC hF hD _ K hK
          obtain ⟨_,q122,rfl⟩:=dep hD 10 rfl rfl rfl rfl
          clear hF hD
          refine want_none rfl ?_
          go_simp
          exact hK _ _ hC (Below.refl _ _) rfl
         refine RegSteps.cons ?_ ?_
         ·intro _ az wz hC hF hD _ K hK
          have q25:az.tmps[25]? = some (.int .i64 4):=hF 25 rfl
          obtain ⟨_,qg,rfl⟩:=dep hD 11 rfl rfl rfl rfl
          clear hF hD
          refine want_yes rfl rfl rfl qg ?_
          go_simp
          exact hK _ _ hC (Below.refl _ _) rfl
         refine RegSteps.cons ?_ ?_
         ·intro _ az wz hC hF hD _ K hK
          obtain ⟨_,q124,rfl⟩:=dep hD 12 rfl rfl rfl rfl
          obtain ⟨_,qg,rfl⟩:=dep hD 11 rfl rfl rfl rfl
          clear hF hD
          refine want_yes rfl rfl rfl qg ?_
          go_simp
          exact hK _ _ hC (Below.refl _ _) rfl
         refine RegSteps.cons ?_ ?_
         ·intro _ az wz hC hF hD _ K hK
          obtain ⟨_,q125,rfl⟩:=dep hD 13 rfl rfl rfl rfl
          obtain ⟨_,qg,rfl⟩:=dep hD 11 rfl rfl rfl rfl
          clear hF hD
          refine want_yes rfl rfl rfl qg ?_
          go_simp
          exact hK _ _ hC (Below.refl _ _) rfl
         refine RegSteps.cons ?_ ?_
         ·exact fun _=>step_noP (c:=false) rfl rfl rfl rfl rfl (fun _ _ h=>h) rfl (fun _=>rfl)
         refine RegSteps.cons ?_ ?_
         ·exact fun _=>step_noP (c:=false) rfl rfl rfl rfl rfl (fun _ _ h=>h) rfl (fun _=>rfl)
         refine RegSteps.cons ?_ ?_
         ·exact fun _=>step_noP (c:=false) rfl rfl rfl rfl rfl (fun _ _ h=>h) rfl (fun _=>rfl)
         refine RegSteps.cons ?_ ?_
         ·exact fun _=>step_unP rfl rfl rfl rfl rfl (fun _ _ h=>h) (fun _=>rfl)
         refine RegSteps.cons ?_ ?_
         ·exact fun _=>step_unP rfl rfl rfl rfl rfl (fun _ _ h=>h) (fun _=>rfl)
         refine RegSteps.cons ?_ ?_
         ·exact fun _=>step_unP rfl rfl rfl rfl rfl (fun _ _ h=>h) (fun _=>rfl)
         refine RegSteps.cons ?_ ?_
         ·exact fun _=>step_unP rfl rfl rfl rfl rfl (fun _ _ h=>h) (fun _=>rfl)
         refine RegSteps.cons ?_ ?_
         ·exact fun _=>step_unP rfl rfl rfl rfl rfl (fun _ _ h=>h) (fun _=>rfl)
         refine RegSteps.cons ?_ ?_
         ·exact fun _=>step_unP rfl rfl rfl rfl rfl (fun _ _ h=>h) (fun _=>rfl)
         refine RegSteps.cons ?_ ?_
         ·exact fun _=>step_noP (c:=false) rfl rfl rfl rfl rfl (fun _ _ h=>h) rfl (fun _=>rfl)
         refine RegSteps.cons ?_ ?_
         ·intro _ az wz hC hF hD _ K hK
          obtain ⟨_,q126,rfl⟩:=dep hD 14 rfl rfl rfl rfl
          obtain ⟨_,q136,rfl⟩:=dep hD 24 rfl rfl rfl rfl
          obtain ⟨_,qg,rfl⟩:=dep hD 11 rfl rfl rfl rfl
          clear hF hD
          refine want_yes rfl rfl rfl qg ?_
          go_simp
          exact hK _ _ hC (Below.refl _ _) rfl
         refine RegSteps.cons ?_ ?_
         ·intro _ az wz hC hF hD _ K hK
          obtain ⟨_,q123,rfl⟩:=dep hD 11 rfl rfl rfl rfl
          obtain ⟨_,q137,rfl⟩:=dep hD 25 rfl rfl rfl rfl
          clear hF hD
          refine want_none rfl ?_
          go_simp
          exact hK _ _ hC (Below.refl _ _) rfl
         exact RegSteps.nil
        intro w12 hC12
        rintro _ rfl _ rfl _ rfl _ rfl _ rfl _ rfl _ rfl _ rfl _ rfl _ rfl _ rfl _ rfl _ rfl _ rfl _ rfl _ rfl _ rfl _ rfl _ rfl _ rfl _ rfl _ rfl _ rfl _ rfl _ rfl _ rfl _ rfl
        simp only [FinOK,Act.put,List.setIfInBounds_toArray,List.set_cons_zero,List.set_cons_succ]
        have HBz:=Lib.hid (Below.call HBw.out hC12)
        clear hC12
        go_wp2_with fail
        go_roundw
        case rel=>exact ⟨i+1,by omega,by go_num,HBz.out⟩
        case measure=>simp [intOf];omega
      ·as_aux_lemma=>
        refine wp_region_specs W11 [Spec.eq (.agg #[.int .i64 B.kind,.int .i64 bn0,.string bs1,.int .i64 bn2,.int .i64 bn3,.int .i64 bn4,.int .i64 bn5,.int .i64 bn6,.int .i64 bn7,.slice bA8 bl8 bc8,.int .i64 B.vkind,.slice bvA bvl bvc,.int .i64 B.day,.int .i64 B.scale]),Spec.eq (.int .i64 0),Spec.eq (.bool false),Spec.eq (.bool false),Spec.eq (.int .i64 0),Spec.eq (.bool false),Spec.eq (.bool false),Spec.eq undef,Spec.eq undef,Spec.eq (.bool false),Spec.eq (.bool false),Spec.eq (.bool false),Spec.eq (.int .i64 0),Spec.eq (.bool true),Spec.eq (.bool true),Spec.eq (.int .i64 0),Spec.eq (.bool false),Spec.eq (.bool false),Spec.eq (.agg #[.int .i64 B.kind,.int .i64 bn0,.string bs1,.int .i64 bn2,.int .i64 bn3,.int .i64 bn4,.int .i64 bn5,.int .i64 bn6,.int .i64 bn7,.slice bA8 bl8 bc8,.int .i64 B.vkind,.slice bvA bvl bvc,.int .i64 B.day,.int .i64 B.scale]),sQryB B,Spec.eq (.agg #[.int .i64 B.kind,.int .i64 cn0,.string cs1,.int .i64 cn2,.int .i64 cn3,.int .i64 cn4,.int .i64 cn5,.int .i64 cn6,.int .i64 cn7,.slice cA8 cl8 cc8,.int .i64 B.vkind,.slice cvA cvl cvc,.int .i64 B.day,.int .i64 B.scale]),sQryB B,Spec.eq (.bool true),Spec.eq (.bool false),Spec.eq (.bool false),Spec.eq (.bool false),Spec.eq (.bool false)]
         (by kernel_rfl) (by kernel_rfl) rfl (by kernel_rfl) (Below.drew (Below.refl _ _)) ?_ ?_
        ·
         refine RegSteps.cons ?_ ?_
         ·intro _ az wz hC hF hD _ K hK
          have q21:az.tmps[21]? = some (.pointer (some ⟨gb,0,none⟩)):=hF 21 rfl
          obtain ⟨⟨z0,z1,z2,z3,z4,z5,z6,z7,z8,z9,z10,z11,z12,z13⟩,_⟩:=(HOb.out.on hC).all14
          clear hF hD
          refine want_none rfl ?_
          go_simp
          exact hK _ _ hC (Below.refl _ _) rfl
         refine RegSteps.cons ?_ ?_
         ·intro _ az wz hC hF hD _ K hK
          obtain ⟨_,q112,rfl⟩:=dep hD 0 rfl rfl rfl rfl
          clear hF hD
          refine want_none rfl ?_
          go_simp
          refine (HVd.out _ _ (HQb.out _ hC)).mono ?_
          rintro e wy ⟨rfl,k⟩
          exact hK _ _ (Below.call hC k) k rfl
         refine RegSteps.cons ?_ ?_
         ·intro _ az wz hC hF hD _ K hK
          obtain ⟨_,q113,rfl⟩:=dep hD 1 rfl rfl rfl rfl
          clear hF hD
          refine want_none rfl ?_
          go_simp
          exact hK _ _ hC (Below.refl _ _) rfl
         refine RegSteps.cons ?_ ?_
         ·intro _ az wz hC hF hD _ K hK
          obtain ⟨_,q114,rfl⟩:=dep hD 2 rfl rfl rfl rfl
          clear hF hD
          refine want_none rfl ?_
          go_simp
          exact hK _ _ hC (Below.refl _ _) rfl
         refine RegSteps.cons ?_ ?_
         ·intro _ az wz hC hF hD _ K hK
          have q25:az.tmps[25]? = some (.int .i64 0):=hF 25 rfl
          obtain ⟨_,qg,rfl⟩:=dep hD 3 rfl rfl rfl rfl
          clear hF hD
          refine want_yes rfl rfl rfl qg ?_
          go_simp
          exact hK _ _ hC (Below.refl _ _) rfl
         refine RegSteps.cons ?_ ?_
         ·intro _ az wz hC hF hD _ K hK
          obtain ⟨_,q116,rfl⟩:=dep hD 4 rfl rfl rfl rfl
          obtain ⟨_,qg,rfl⟩:=dep hD 3 rfl rfl rfl rfl
          clear hF hD
          refine want_yes rfl rfl rfl qg ?_
          go_simp
          exact hK _ _ hC (Below.refl _ _) rfl
         refine RegSteps.cons ?_ ?_
         ·intro _ az wz hC hF hD _ K hK
          obtain ⟨_,q117,rfl⟩:=dep hD 5 rfl rfl rfl rfl
          obtain ⟨_,qg,rfl⟩:=dep hD 3 rfl rfl rfl rfl
          clear hF hD
          refine want_yes rfl rfl rfl qg ?_
          go_simp
          exact hK _ _ hC (Below.refl _ _) rfl
         refine RegSteps.cons ?_ ?_
         ·exact fun _=>step_noP (c:=false) rfl rfl rfl rfl rfl (fun _ _ h=>h) rfl (fun _=>rfl)
         refine RegSteps.cons ?_ ?_
         ·exact fun _=>step_noP (c:=false) rfl rfl rfl rfl rfl (fun _ _ h=>h) rfl (fun _=>rfl)
         refine RegSteps.cons ?_ ?_
         ·intro _ az wz hC hF hD _ K hK
          obtain ⟨_,q118,rfl⟩:=dep hD 6 rfl rfl rfl rfl
          obtain ⟨_,q120,rfl⟩:=dep hD 8 rfl rfl rfl rfl
          obtain ⟨_,qg,rfl⟩:=dep hD 3 rfl rfl rfl rfl
          clear hF hD
          refine want_yes rfl rfl rfl qg ?_
          go_simp
          exact hK _ _ hC (Below.refl _ _) rfl
         refine RegSteps.cons ?_ ?_
         ·intro _ az wz hC hF hD _ K hK
          obtain ⟨_,q115,rfl⟩:=dep hD 3 rfl rfl rfl rfl
          obtain ⟨_,q121,rfl⟩:=dep hD 9 rfl rfl rfl rfl
          clear hF hD
          refine want_none rfl ?_
          go_simp
          exact hK _ _ hC (Below.refl _ _) rfl
         refine RegSteps.cons ?_ ?_
         ·intro _ az wz hC hF hD _ K hK
          obtain ⟨_,q122,rfl⟩:=dep hD 10 rfl rfl rfl rfl
          clear hF hD
          refine want_none rfl ?_
          go_simp
          exact hK _ _ hC (Below.refl _ _) rfl
         refine RegSteps.cons ?_ ?_
         ·intro _ az wz hC hF hD _ K hK
          have q25:az.tmps[25]? = some (.int .i64 0):=hF 25 rfl
          obtain ⟨_,qg,rfl⟩:=dep hD 11 rfl rfl rfl rfl
          clear hF hD
          refine want_yes rfl rfl rfl qg ?_
          go_simp
          exact hK _ _ hC (Below.refl _ _) rfl
         refine RegSteps.cons ?_ ?_
         ·intro _ az wz hC hF hD _ K hK
          obtain ⟨_,q124,rfl⟩:=dep hD 12 rfl rfl rfl rfl
          obtain ⟨_,qg,rfl⟩:=dep hD 11 rfl rfl rfl rfl
          clear hF hD
          refine want_yes rfl rfl rfl qg ?_
          go_simp
          exact hK _ _ hC (Below.refl _ _) rfl
         refine RegSteps.cons ?_ ?_
         ·intro _ az wz hC hF hD _ K hK
          obtain ⟨_,q125,rfl⟩:=dep hD 13 rfl rfl rfl rfl
          obtain ⟨_,qg,rfl⟩:=dep hD 11 rfl rfl rfl rfl
          clear hF hD
          refine want_yes rfl rfl rfl qg ?_
          go_simp
          exact hK _ _ hC (Below.refl _ _) rfl
         refine RegSteps.cons ?_ ?_
         ·intro _ az wz hC hF hD _ K hK
          have q28:az.tmps[28]? = some (.int .i64 0):=hF 28 rfl
          obtain ⟨_,qg,rfl⟩:=dep hD 14 rfl rfl rfl rfl
          clear hF hD
          refine want_yes rfl rfl rfl qg ?_
          go_simp
          exact hK _ _ hC (Below.refl _ _) rfl
         refine RegSteps.cons ?_ ?_
         ·intro _ az wz hC hF hD _ K hK
          obtain ⟨_,q127,rfl⟩:=dep hD 15 rfl rfl rfl rfl
          obtain ⟨_,qg,rfl⟩:=dep hD 14 rfl rfl rfl rfl
          clear hF hD
          refine want_yes rfl rfl rfl qg ?_
          go_simp
          exact hK _ _ hC (Below.refl _ _) rfl
         refine RegSteps.cons ?_ ?_
         ·intro _ az wz hC hF hD _ K hK
          obtain ⟨_,q128,rfl⟩:=dep hD 16 rfl rfl rfl rfl
          obtain ⟨_,qg,rfl⟩:=dep hD 14 rfl rfl rfl rfl
          clear hF hD
          refine want_yes rfl rfl rfl qg ?_
          go_simp
          exact hK _ _ hC (Below.refl _ _) rfl
         refine RegSteps.cons ?_ ?_
         ·intro _ az wz hC hF hD _ K hK
          have q21:az.tmps[21]? = some (.pointer (some ⟨gb,0,none⟩)):=hF 21 rfl
          obtain ⟨_,qg,rfl⟩:=dep hD 17 rfl rfl rfl rfl
          obtain ⟨⟨z0,z1,z2,z3,z4,z5,z6,z7,z8,z9,z10,z11,z12,z13⟩,_⟩:=(HOb.out.on hC).all14
          clear hF hD
          refine want_yes rfl rfl rfl qg ?_
          go_simp
          exact hK _ _ hC (Below.refl _ _) rfl
         refine RegSteps.cons ?_ ?_
         ·intro _ az wz hC hF hD _ K hK
          obtain ⟨_,q130,rfl⟩:=dep hD 18 rfl rfl rfl rfl
          obtain ⟨_,qg,rfl⟩:=dep hD 17 rfl rfl rfl rfl
          clear hF hD
          refine want_yes rfl rfl rfl qg ?_
          go_simp
          refine (HPB.out _ _ (HQb.out _ hC)).mono ?_
          rintro e wy ⟨x,rfl,k,hx⟩
          exact hK _ _ (Below.call hC k) k ⟨x,rfl,hx⟩
         refine RegSteps.cons ?_ ?_
         ·intro _ az wz hC hF hD _ K hK
          have q26:az.tmps[26]? = some (.pointer (some ⟨gc,0,none⟩)):=hF 26 rfl
          obtain ⟨_,qg,rfl⟩:=dep hD 17 rfl rfl rfl rfl
          obtain ⟨⟨z0,z1,z2,z3,z4,z5,z6,z7,z8,z9,z10,z11,z12,z13⟩,_⟩:=(HOc.out.on hC).all14
          clear hF hD
          refine want_yes rfl rfl rfl qg ?_
          go_simp
          exact hK _ _ hC (Below.refl _ _) rfl
         refine RegSteps.cons ?_ ?_
         ·intro _ az wz hC hF hD _ K hK
          obtain ⟨_,q132,rfl⟩:=dep hD 20 rfl rfl rfl rfl
          obtain ⟨_,qg,rfl⟩:=dep hD 17 rfl rfl rfl rfl
          clear hF hD
          refine want_yes rfl rfl rfl qg ?_
          go_simp
          refine (HPB.out _ _ (HQc.out _ hC)).mono ?_
          rintro e wy ⟨x,rfl,k,hx⟩
          exact hK _ _ (Below.call hC k) k ⟨x,rfl,hx⟩
         refine RegSteps.cons ?_ ?_
         ·intro _ az wz hC hF hD _ K hK
          obtain ⟨_,q131,x131,rfl,hx131⟩:=dep hD 19 rfl rfl rfl rfl
          obtain ⟨_,q133,x133,rfl,hx133⟩:=dep hD 21 rfl rfl rfl rfl
          obtain ⟨_,qg,rfl⟩:=dep hD 17 rfl rfl rfl rfl
          clear hF hD
          refine want_yes rfl rfl rfl qg ?_
          go_simp
          refine (HSB.out _ _ _ hx131 hx133).mono ?_
          rintro e wy ⟨rfl,k⟩
          exact hK _ _ (Below.call hC k) k rfl
         refine RegSteps.cons ?_ ?_
         ·intro _ az wz hC hF hD _ K hK
          obtain ⟨_,q134,rfl⟩:=dep hD 22 rfl rfl rfl rfl
          obtain ⟨_,qg,rfl⟩:=dep hD 17 rfl rfl rfl rfl
          clear hF hD
          refine want_yes rfl rfl rfl qg ?_
          go_simp
          exact hK _ _ hC (Below.refl _ _) rfl
         refine RegSteps.cons ?_ ?_
         ·intro _ az wz hC hF hD _ K hK
          obtain ⟨_,q129,rfl⟩:=dep hD 17 rfl rfl rfl rfl
          obtain ⟨_,q135,rfl⟩:=dep hD 23 rfl rfl rfl rfl
          obtain ⟨_,qg,rfl⟩:=dep hD 14 rfl rfl rfl rfl
          clear hF hD
          refine want_yes rfl rfl rfl qg ?_
          go_simp
          exact hK _ _ hC (Below.refl _ _) rfl
         refine RegSteps.cons ?_ ?_
         ·intro _ az wz hC hF hD _ K hK
          obtain ⟨_,q126,rfl⟩:=dep hD 14 rfl rfl rfl rfl
          obtain ⟨_,q136,rfl⟩:=dep hD 24 rfl rfl rfl rfl
          obtain ⟨_,qg,rfl⟩:=dep hD 11 rfl rfl rfl rfl
          clear hF hD
          refine want_yes rfl rfl rfl qg ?_
          go_simp
          exact hK _ _ hC (Below.refl _ _) rfl
         refine RegSteps.cons ?_ ?_
         ·intro _ az wz hC hF hD _ K hK
          obtain ⟨_,q123,rfl⟩:=dep hD 11 rfl rfl rfl rfl
          obtain ⟨_,q137,rfl⟩:=dep hD 25 rfl rfl rfl rfl
          clear hF hD
          refine want_none rfl ?_
          go_simp
          exact hK _ _ hC (Below.refl _ _) rfl
         exact RegSteps.nil
        intro w12 hC12
        rintro _ rfl _ rfl _ rfl _ rfl _ rfl _ rfl _ rfl _ rfl _ rfl _ rfl _ rfl _ rfl _ rfl _ rfl _ rfl _ rfl _ rfl _ rfl _ rfl _ ⟨y131,rfl,_⟩ _ rfl _ ⟨y133,rfl,_⟩ _ rfl _ rfl _ rfl _ rfl _ rfl
        simp only [FinOK,Act.put,List.setIfInBounds_toArray,List.set_cons_zero,List.set_cons_succ]
        have HBz:=Lib.hid (Below.call HBw.out hC12)
        clear hC12
        go_wp2_with fail
        go_roundw
        case rel=>exact ⟨i+1,by omega,by go_num,HBz.out⟩
        case measure=>simp [intOf];omega
    ·
     go_wp2_with fail
     go_roundw
     case rel=>exact ⟨i+1,by omega,by go_num,HB9.out⟩
     case measure=>simp [intOf];omega
  ·subst heq
   have HB9:=Lib.hid (Below.call HB2.out HBr.out)
   clear hB
   go_wp2_with fail
   refine (HL0.out _).mono ?_
   rintro e w9 ⟨rfl,k9⟩
   have HF:=Lib.hid (Below.call HB9.out k9)
   clear k9
   go_wp2
   go_returns
   exact ⟨by simp,HF.out⟩
end Go.Proofs.YtmlpibdincfgbaaGreatDoor
