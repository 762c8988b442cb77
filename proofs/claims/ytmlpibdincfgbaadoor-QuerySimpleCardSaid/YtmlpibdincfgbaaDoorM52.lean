/-
  Chapter 38: QuerySimple.
-/
import Derived.Test.YtmlpibdincfgbaaDoorM49
import Derived.Test.YtmlpibdincfgbaaDoorM50
import Derived.Test.YtmlpibdincfgbaaDoorM51
import Derived.Test.YtmlpibdincfgbaaDoorM10
import Derived.Test.YtmlpibdincfgbaaDoorQS2
namespace Go.Proofs.YtmlpibdincfgbaaDoor
open Go.RowKit
set_option linter.unusedSimpArgs false
set_option linter.unusedVariables false
def sRgP (R:Qy.Reg):Spec Bel:=⟨fun v w=>∃ x:Value,v=x∧IsReg w R x,fun ⟨x,e,h⟩ k=>⟨x,e,isReg_keep h k⟩⟩
theorem regE_smp {R:Qy.Reg} (h:Qy.regE R=0):Qy.nodeE R=0∧Qy.nodes R≤256∧Qy.regE (Qy.smp R)=0∧Qy.smp (Qy.smp R)=Qy.smp R∧Qy.nodes (Qy.smp R)≤Qy.nodes R∧Qy.nest (Qy.smp R)≤Qy.nest R∧∀ f,Qy.mean f (Qy.smp R)=Qy.mean f R:=by
 unfold Qy.regE at h
 split at h
 ·omega
 ·rename_i hc
  obtain ⟨_,h2,h3,h4,h5⟩:=Qy.smp_good _ R (Nat.le_refl _) h
  refine ⟨h,by omega,?_,Qy.smp_twice h,h3,h4,h5⟩
  unfold Qy.regE
  rw [if_neg (by omega)]
  exact h2
set_option maxRecDepth 100000 in
set_option maxHeartbeats 6400000 in
theorem QuerySimple_any {w:World} {A A2:Option Addr} {l l2:List Int} {c c2:Nat} {deep:Int} (k0:IntsIs w A l c) (b1:in64 deep) (k2:IntsIs w A2 l2 c2) :
 Calls Tryd.prog 6 #[.slice A l.length c,.int .i64 deep,.slice A2 l2.length c2] w (RetB w true):=by
 have HL0:=Lib.hid fun u=>lives_any u
 obtain ⟨p,hp⟩:∃ p:Nat,around deep 5=(p:Int):=⟨(around deep 5).toNat,by have:=around_bd deep (m:=5) (by omega);omega⟩
 have hp5:p<5:=by have:=around_bd deep (m:=5) (by omega);omega
 have HAr:=Lib.hid fun u=>Around_any deep 5 u b1.1 b1.2 (by omega) (by omega)
 rw [hp] at HAr
 obtain ⟨L,hL⟩:∃ L,l.length=L:=⟨_,rfl⟩
 obtain ⟨n2,hn2⟩:∃ n,l2.length=n:=⟨_,rfl⟩
 have HK2:=Lib.hid k2
 have HN2:=Lib.hid hn2
 have HMd:Hid (∀ u,Below w.heap.size w u→Calls Tryd.prog 19 #[.slice A L c,.int .i64 (2+(p:Int))] u fun e w'=>∃ (R:Qy.Reg) (v:Value),e=.returned v∧Below u.heap.size u w'∧IsReg w' R v∧Qy.regE R=0):=Lib.hid fun u hu=>by
  have h:=Made_any (k0.on hu) (2+p) (by omega) (by omega)
  rw [hL,show ((2+p:Nat):Int)=2+(p:Int) by omega] at h
  exact h.mono fun e w' ⟨R,y,v,h1,h2,⟨cs,h3,h4⟩,h5⟩=>⟨R,v,h1,h2,h3▸h4.isReg,(h5.good (by omega)).1⟩
 rw [hL,hn2]
 clear k0 b1 k2 hp hL hn2
 go_enter Tryd.func6,Tryd.ntmps6
 go_wp2_with fail
 refine (HAr.out _).mono ?_
 rintro e w1 ⟨rfl,k1⟩
 have HB1:=Lib.hid k1
 clear k1 HAr
 go_wp2_with fail
 refine (HMd.out _ HB1.out).mono ?_
 rintro e w2 ⟨R,v,rfl,k2,hv,hE⟩
 obtain ⟨rn0,rs1,rn2,rn3,rn4,rn5,rn6,rn7,rA8,rl8,rc8,rfl,-⟩:=isReg_lit hv
 obtain ⟨g1,g2,g3,g4,g5,g6,g8⟩:=regE_smp hE
 have HG:=Lib.hid (And.intro g1 (And.intro g2 (And.intro g5 (And.intro g6 g8))))
 have HSa:Hid (∀ (v:Value) (u:World),IsReg u R v→Calls Tryd.prog 20 #[v] u fun e w'=>∃ v',e=.returned (.tuple #[v',.int .i64 0])∧Below u.heap.size u w'∧IsReg w' (Qy.smp R) v'):=Lib.hid fun v u h=>by
  have h2:=pSimple_any R (by omega) v u h
  rw [hE,if_pos rfl] at h2
  exact h2
 have HSb:Hid (∀ (v:Value) (u:World),IsReg u (Qy.smp R) v→Calls Tryd.prog 20 #[v] u fun e w'=>∃ v',e=.returned (.tuple #[v',.int .i64 0])∧Below u.heap.size u w'∧IsReg w' (Qy.smp R) v'):=Lib.hid fun v u h=>by
  have h2:=pSimple_any (Qy.smp R) (by omega) v u h
  rw [g3,if_pos rfl,g4] at h2
  exact h2
 have HOr:Hid (∀ (v:Value) (u:World),IsReg u R v→Calls Tryd.prog 21 #[v] u fun e w'=>∃ v',e=.returned v'∧Below u.heap.size u w'∧IsReg w' R v'):=Lib.hid fun v u h=>(ownRegion_any 256 R g2 (by omega) v u h).mono fun e w' ⟨v',h1,h2,cs,h3,h4⟩=>⟨v',h1,h2,h3▸h4.isReg⟩
 have HPl:Hid (∀ (v:Value) (u:World),IsReg u (Qy.smp R) v→Calls Tryd.prog 22 #[v] u fun e w'=>∃ v',e=.returned v'∧Below u.heap.size u w'∧IsReg w' (Qy.smp R) v'):=Lib.hid fun v u h=>(plainRegion_any 256 (Qy.smp R) (by omega) (by omega) v u h).mono fun e w' ⟨v',h1,h2,cs,h3,h4⟩=>⟨v',h1,h2,h3▸h4.isReg⟩
 have HSi:Hid (∀ (v:Value) (u:World),IsReg u R v→Calls Tryd.prog 24 #[v] u fun e w'=>∃ v',e=.returned v'∧Below u.heap.size u w'∧IsReg w' (Qy.smp R) v'):=Lib.hid fun v u ⟨cs,hv,h⟩=>by
  subst hv
  exact (rsimple_any 256 (by omega) R g2 g1 (fun _=>True) cs u h).mono fun e w' ⟨v',h1,h2,cs',h3,h4⟩=>⟨v',h1,h2,h3▸h4.isReg⟩
 have HSm:Hid (∀ (v v':Value) (u:World),IsReg u (Qy.smp R) v→IsReg u (Qy.smp R) v'→Calls Tryd.prog 23 #[v,v'] u (RetB u true)):=Lib.hid fun v v' u h h'=>by
  have h2:=Same_any 256 (Qy.smp R) (Qy.smp R) (by omega) (by omega) (by omega) v v' u h h'
  rw [Qy.sameR_self] at h2
  exact h2
 have HNr:=Lib.hid fun v u h=>rNodes 256 R g2 (by omega) v u h
 have HNs:=Lib.hid fun v u h=>rNodes 256 (Qy.smp R) (by omega) (by omega) v u h
 have HEr:=Lib.hid fun v u h=>rNesting 256 R g2 (by omega) v u h
 have HEs:=Lib.hid fun v u h=>rNesting 256 (Qy.smp R) (by omega) (by omega) v u h
 have HLv:=Lib.hid fun cs u h=>leaves_any 256 (by omega) R g2 (fun _=>True) cs u h
 have HMn:Hid (∀ (Lv:List Qy.Reg),(Lv.length≤1000000∧∀ x∈Lv,Qy.nodes x≤1000000)→∀ (ch:Int),0≤ch∧ch<1048576→∀ R',Qy.nodes R'≤256→Qy.nodeE R'=0→∀ (SL:Nat→Prop) (LA:Option Addr) (lc:Nat) (v:Value) (u:World),IsReg u R' v→KidsAt u SL LA 0 Lv→Calls Tryd.prog 28 #[v,.slice LA Lv.length lc,.int .i64 ch] u (RetB u (Qy.mean (pickB Lv ch) R'))):=Lib.hid fun Lv hLv ch hch R' hn hv SL LA lc v u ⟨cs,e,h⟩ hK=>by
  subst e
  exact means_any hLv hch 256 (by omega) R' hn hv SL LA lc cs u h hK
 have hsE:Qy.nodeE (Qy.smp R)=0:=(Qy.smp_good _ R (Nat.le_refl _) g1).2.1
 obtain ⟨sR,hsR⟩:∃ r,Qy.smp R=r:=⟨_,rfl⟩
 obtain ⟨nr,hnr⟩:∃ r,Qy.nodes R=r:=⟨_,rfl⟩
 obtain ⟨er,her⟩:∃ r,Qy.nest R=r:=⟨_,rfl⟩
 rw [hsR] at HSa HSb HPl HSi HSm HNs HEs HG g5 g6 hsE
 obtain ⟨ns,hns⟩:∃ r,Qy.nodes sR=r:=⟨_,rfl⟩
 obtain ⟨es,hes⟩:∃ r,Qy.nest sR=r:=⟨_,rfl⟩
 rw [hnr] at HNr
 rw [her] at HEr
 rw [hns] at HNs
 rw [hes] at HEs
 have HLe:Hid (¬ nr<ns∧¬ er<es):=Lib.hid (by omega)
 have HsE:=Lib.hid hsE
 clear hE g1 g2 g3 g4 g5 g6 g8 hsE hnr her hns hes hsR HMd
 go_upto_region 2 with fail
 refine wp_new1 fun W1 hV kn=>?_
 obtain ⟨g7,hg7⟩:∃ g,w2.heap.size=g:=⟨_,rfl⟩
 rw [hg7] at hV ⊢
 have hv1:=isReg_keep hv kn
 have HB2:=Lib.hid (Below.call (Below.call HB1.out k2) kn)
 have HV7a:=Lib.hid hV
 obtain ⟨⟨x0,x1,x2,x3,x4,x5,x6,x7,x8⟩,_⟩:=hV.all9
 clear hV kn hg7 hv k2 HB1
 go_wp2_with fail
 refine (HOr.out _ _ hv1).mono ?_
 rintro e w3 ⟨v3,rfl,k3,hv3⟩
 have HK3:=Lib.hid k3
 have HRr1:=Lib.hid hv1
 clear k3 hv1 x0 x1 x2 x3 x4 x5 x6 x7 x8
 go_wp2_with fail
 refine (HSa.out _ _ hv3).mono ?_
 rintro e w4 ⟨v4,rfl,k4,hv4⟩
 obtain ⟨an0,as1,an2,an3,an4,an5,an6,an7,aA8,al8,ac8,rfl,-⟩:=isReg_lit hv4
 go_upto_region 3 with fail
 refine wp_new1 fun W2 hV kn=>?_
 obtain ⟨g8,hg8⟩:∃ g,w4.heap.size=g:=⟨_,rfl⟩
 rw [hg8] at hV ⊢
 have HK4:=Lib.hid (Below.call (Below.call HK3.out k4) kn)
 have ha2:=isReg_keep hv4 kn
 have HV8:=Lib.hid hV
 obtain ⟨⟨x0,x1,x2,x3,x4,x5,x6,x7,x8⟩,_⟩:=hV.all9
 clear hV kn hg8 hv4 hv3 k4 HK3
 go_wp2_with fail
 refine (HSb.out _ _ ha2).mono ?_
 rintro e w5 ⟨v5,rfl,k5,hv5⟩
 obtain ⟨bn0,bs1,bn2,bn3,bn4,bn5,bn6,bn7,bA8,bl8,bc8,rfl,-⟩:=isReg_lit hv5
 go_upto_region 4 with fail
 refine wp_new1 fun W3 hV kn=>?_
 obtain ⟨g10,hg10⟩:∃ g,w5.heap.size=g:=⟨_,rfl⟩
 rw [hg10] at hV ⊢
 have HK5:=Lib.hid (Below.call k5 kn)
 have ha3:=isReg_keep ha2 HK5.out
 have hb3:=isReg_keep hv5 kn
 have HV10:=Lib.hid hV
 clear x0 x1 x2 x3 x4 x5 x6 x7 x8
 obtain ⟨⟨x0,x1,x2,x3,x4,x5,x6,x7,x8⟩,_⟩:=(HV8.out.on HK5.out).all9
 clear hV kn hg10 hv5 k5 ha2
 go_wp2_with fail
 refine (HPl.out _ _ ha3).mono ?_
 rintro e w6 ⟨v6,rfl,k6,hv6⟩
 obtain ⟨sn0,ss1,sn2,sn3,sn4,sn5,sn6,sn7,sA8,sl8,sc8,rfl,-⟩:=isReg_lit hv6
 clear x0 x1 x2 x3 x4 x5 x6 x7 x8
 go_upto_region 5 with fail
 refine wp_new1 fun W4 hV kn=>?_
 obtain ⟨g12,hg12⟩:∃ g,w6.heap.size=g:=⟨_,rfl⟩
 rw [hg12] at hV ⊢
 have HK6:=Lib.hid (Below.call k6 kn)
 have HK64:=Lib.hid (Below.call HK5.out HK6.out)
 have HK62:=Lib.hid (Below.call HK4.out HK64.out)
 have HV7:=Lib.hid (HV7a.out.on HK62.out)
 have HV10b:=Lib.hid (HV10.out.on HK6.out)
 have HV12:=Lib.hid hV
 have HRr:Hid (∀ wz,Below W4.heap.size W4 wz→IsReg wz R (.agg #[.int .i64 rn0,.string rs1,.int .i64 rn2,.int .i64 rn3,.int .i64 rn4,.int .i64 rn5,.int .i64 rn6,.int .i64 rn7,.slice rA8 rl8 rc8])):=Lib.hid fun wz k=>isReg_keep (isReg_keep HRr1.out HK62.out) k
 have HRb0:=Lib.hid hb3
 have HRb:Hid (∀ wz,Below W4.heap.size W4 wz→IsReg wz sR (.agg #[.int .i64 bn0,.string bs1,.int .i64 bn2,.int .i64 bn3,.int .i64 bn4,.int .i64 bn5,.int .i64 bn6,.int .i64 bn7,.slice bA8 bl8 bc8])):=Lib.hid fun wz k=>isReg_keep (isReg_keep HRb0.out HK6.out) k
 have HRs:Hid (∀ wz,Below W4.heap.size W4 wz→IsReg wz sR (.agg #[.int .i64 sn0,.string ss1,.int .i64 sn2,.int .i64 sn3,.int .i64 sn4,.int .i64 sn5,.int .i64 sn6,.int .i64 sn7,.slice sA8 sl8 sc8])):=Lib.hid fun wz k=>isReg_keep (isReg_keep hv6 kn) k
 have HB4:=Lib.hid (Below.call HB2.out HK62.out)
 clear hV kn hg12 hv6 k6 hb3 ha3
 replace HV10:=HV10b
 refine wp_region_specs W4 [Spec.eq (.int .i64 0),Spec.eq (.bool false),Spec.eq (.bool false),Spec.eq (.int .i64 0),Spec.eq (.bool false),Spec.eq (.bool false),Spec.eq (.bool false),Spec.eq (.agg #[.int .i64 sn0,.string ss1,.int .i64 sn2,.int .i64 sn3,.int .i64 sn4,.int .i64 sn5,.int .i64 sn6,.int .i64 sn7,.slice sA8 sl8 sc8]),Spec.eq (.agg #[.int .i64 rn0,.string rs1,.int .i64 rn2,.int .i64 rn3,.int .i64 rn4,.int .i64 rn5,.int .i64 rn6,.int .i64 rn7,.slice rA8 rl8 rc8]),sRgP sR,Spec.eq (.bool true),Spec.eq (.bool false),Spec.eq (.bool false),Spec.eq (.bool false),Spec.eq (.agg #[.int .i64 sn0,.string ss1,.int .i64 sn2,.int .i64 sn3,.int .i64 sn4,.int .i64 sn5,.int .i64 sn6,.int .i64 sn7,.slice sA8 sl8 sc8]),Spec.eq (.agg #[.int .i64 bn0,.string bs1,.int .i64 bn2,.int .i64 bn3,.int .i64 bn4,.int .i64 bn5,.int .i64 bn6,.int .i64 bn7,.slice bA8 bl8 bc8]),sRgP sR,Spec.eq (.bool true),Spec.eq (.bool false),Spec.eq (.bool false),Spec.eq (.bool false),Spec.eq (.agg #[.int .i64 sn0,.string ss1,.int .i64 sn2,.int .i64 sn3,.int .i64 sn4,.int .i64 sn5,.int .i64 sn6,.int .i64 sn7,.slice sA8 sl8 sc8]),Spec.eq (.int .i64 (ns:Int)),Spec.eq (.agg #[.int .i64 rn0,.string rs1,.int .i64 rn2,.int .i64 rn3,.int .i64 rn4,.int .i64 rn5,.int .i64 rn6,.int .i64 rn7,.slice rA8 rl8 rc8]),Spec.eq (.int .i64 (nr:Int)),Spec.eq (.bool false),Spec.eq (.bool false),Spec.eq (.bool false),Spec.eq (.agg #[.int .i64 sn0,.string ss1,.int .i64 sn2,.int .i64 sn3,.int .i64 sn4,.int .i64 sn5,.int .i64 sn6,.int .i64 sn7,.slice sA8 sl8 sc8]),Spec.eq (.int .i64 (es:Int)),Spec.eq (.agg #[.int .i64 rn0,.string rs1,.int .i64 rn2,.int .i64 rn3,.int .i64 rn4,.int .i64 rn5,.int .i64 rn6,.int .i64 rn7,.slice rA8 rl8 rc8]),Spec.eq (.int .i64 (er:Int)),Spec.eq (.bool false),Spec.eq (.bool false)]
  (by kernel_rfl) (by kernel_rfl) rfl (by kernel_rfl) (Below.drew (Below.refl _ _)) ?_ ?_
 ·
  refine RegSteps.cons ?_ ?_
  ·intro _ az wz hC hF hD _ K hK
   have q9:az.tmps[9]? = some (.int .i64 0):=hF 9 rfl
   clear hF hD
   refine want_none rfl ?_
   go_simp
   exact hK _ _ hC (Below.refl _ _) rfl
  refine RegSteps.cons ?_ ?_
  ·intro _ az wz hC hF hD _ K hK
   obtain ⟨_,q34,rfl⟩:=dep hD 0 rfl rfl rfl rfl
   clear hF hD
   refine want_none rfl ?_
   go_simp
   exact hK _ _ hC (Below.refl _ _) rfl
  refine RegSteps.cons ?_ ?_
  ·intro _ az wz hC hF hD _ K hK
   obtain ⟨_,q35,rfl⟩:=dep hD 1 rfl rfl rfl rfl
   clear hF hD
   refine want_none rfl ?_
   go_simp
   exact hK _ _ hC (Below.refl _ _) rfl
  refine RegSteps.cons ?_ ?_
  ·intro _ az wz hC hF hD _ K hK
   have q11:az.tmps[11]? = some (.int .i64 0):=hF 11 rfl
   obtain ⟨_,qg,rfl⟩:=dep hD 2 rfl rfl rfl rfl
   clear hF hD
   refine want_yes rfl rfl rfl qg ?_
   go_simp
   exact hK _ _ hC (Below.refl _ _) rfl
  refine RegSteps.cons ?_ ?_
  ·intro _ az wz hC hF hD _ K hK
   obtain ⟨_,q37,rfl⟩:=dep hD 3 rfl rfl rfl rfl
   obtain ⟨_,qg,rfl⟩:=dep hD 2 rfl rfl rfl rfl
   clear hF hD
   refine want_yes rfl rfl rfl qg ?_
   go_simp
   exact hK _ _ hC (Below.refl _ _) rfl
  refine RegSteps.cons ?_ ?_
  ·intro _ az wz hC hF hD _ K hK
   obtain ⟨_,q36,rfl⟩:=dep hD 2 rfl rfl rfl rfl
   obtain ⟨_,q38,rfl⟩:=dep hD 4 rfl rfl rfl rfl
   clear hF hD
   refine want_none rfl ?_
   go_simp
   exact hK _ _ hC (Below.refl _ _) rfl
  refine RegSteps.cons ?_ ?_
  ·intro _ az wz hC hF hD _ K hK
   obtain ⟨_,q39,rfl⟩:=dep hD 5 rfl rfl rfl rfl
   clear hF hD
   refine want_none rfl ?_
   go_simp
   exact hK _ _ hC (Below.refl _ _) rfl
  refine RegSteps.cons ?_ ?_
  ·intro _ az wz hC hF hD _ K hK
   have q12:az.tmps[12]? = some (.pointer (some ⟨g12,0,none⟩)):=hF 12 rfl
   obtain ⟨_,qg,rfl⟩:=dep hD 6 rfl rfl rfl rfl
   obtain ⟨⟨z0,z1,z2,z3,z4,z5,z6,z7,z8⟩,_⟩:=(HV12.out.on hC).all9
   clear hF hD
   refine want_yes rfl rfl rfl qg ?_
   go_simp
   exact hK _ _ hC (Below.refl _ _) rfl
  refine RegSteps.cons ?_ ?_
  ·intro _ az wz hC hF hD _ K hK
   have q7:az.tmps[7]? = some (.pointer (some ⟨g7,0,none⟩)):=hF 7 rfl
   obtain ⟨_,qg,rfl⟩:=dep hD 6 rfl rfl rfl rfl
   obtain ⟨⟨z0,z1,z2,z3,z4,z5,z6,z7,z8⟩,_⟩:=(HV7.out.on hC).all9
   clear hF hD
   refine want_yes rfl rfl rfl qg ?_
   go_simp
   exact hK _ _ hC (Below.refl _ _) rfl
  refine RegSteps.cons ?_ ?_
  ·intro _ az wz hC hF hD _ K hK
   obtain ⟨_,q42,rfl⟩:=dep hD 8 rfl rfl rfl rfl
   obtain ⟨_,qg,rfl⟩:=dep hD 6 rfl rfl rfl rfl
   clear hF hD
   refine want_yes rfl rfl rfl qg ?_
   go_simp
   refine (HSi.out _ _ (HRr.out _ hC)).mono ?_
   rintro e wy ⟨x,rfl,k,hx⟩
   exact hK _ _ (Below.call hC k) k ⟨x,rfl,hx⟩
  refine RegSteps.cons ?_ ?_
  ·intro _ az wz hC hF hD _ K hK
   obtain ⟨_,q41,rfl⟩:=dep hD 7 rfl rfl rfl rfl
   obtain ⟨_,q43,x43,rfl,hx43⟩:=dep hD 9 rfl rfl rfl rfl
   obtain ⟨_,qg,rfl⟩:=dep hD 6 rfl rfl rfl rfl
   clear hF hD
   refine want_yes rfl rfl rfl qg ?_
   go_simp
   refine (HSm.out _ _ _ (HRs.out _ hC) hx43).mono ?_
   rintro e wy ⟨rfl,k⟩
   exact hK _ _ (Below.call hC k) k rfl
  refine RegSteps.cons ?_ ?_
  ·intro _ az wz hC hF hD _ K hK
   obtain ⟨_,q44,rfl⟩:=dep hD 10 rfl rfl rfl rfl
   obtain ⟨_,qg,rfl⟩:=dep hD 6 rfl rfl rfl rfl
   clear hF hD
   refine want_yes rfl rfl rfl qg ?_
   go_simp
   exact hK _ _ hC (Below.refl _ _) rfl
  refine RegSteps.cons ?_ ?_
  ·intro _ az wz hC hF hD _ K hK
   obtain ⟨_,q40,rfl⟩:=dep hD 6 rfl rfl rfl rfl
   obtain ⟨_,q45,rfl⟩:=dep hD 11 rfl rfl rfl rfl
   clear hF hD
   refine want_none rfl ?_
   go_simp
   exact hK _ _ hC (Below.refl _ _) rfl
  refine RegSteps.cons ?_ ?_
  ·intro _ az wz hC hF hD _ K hK
   obtain ⟨_,q46,rfl⟩:=dep hD 12 rfl rfl rfl rfl
   clear hF hD
   refine want_none rfl ?_
   go_simp
   exact hK _ _ hC (Below.refl _ _) rfl
  refine RegSteps.cons ?_ ?_
  ·intro _ az wz hC hF hD _ K hK
   have q12:az.tmps[12]? = some (.pointer (some ⟨g12,0,none⟩)):=hF 12 rfl
   obtain ⟨_,qg,rfl⟩:=dep hD 13 rfl rfl rfl rfl
   obtain ⟨⟨z0,z1,z2,z3,z4,z5,z6,z7,z8⟩,_⟩:=(HV12.out.on hC).all9
   clear hF hD
   refine want_yes rfl rfl rfl qg ?_
   go_simp
   exact hK _ _ hC (Below.refl _ _) rfl
  refine RegSteps.cons ?_ ?_
  ·intro _ az wz hC hF hD _ K hK
   have q10:az.tmps[10]? = some (.pointer (some ⟨g10,0,none⟩)):=hF 10 rfl
   obtain ⟨_,qg,rfl⟩:=dep hD 13 rfl rfl rfl rfl
   obtain ⟨⟨z0,z1,z2,z3,z4,z5,z6,z7,z8⟩,_⟩:=(HV10.out.on hC).all9
   clear hF hD
   refine want_yes rfl rfl rfl qg ?_
   go_simp
   exact hK _ _ hC (Below.refl _ _) rfl
  refine RegSteps.cons ?_ ?_
  ·intro _ az wz hC hF hD _ K hK
   obtain ⟨_,q49,rfl⟩:=dep hD 15 rfl rfl rfl rfl
   obtain ⟨_,qg,rfl⟩:=dep hD 13 rfl rfl rfl rfl
   clear hF hD
   refine want_yes rfl rfl rfl qg ?_
   go_simp
   refine (HPl.out _ _ (HRb.out _ hC)).mono ?_
   rintro e wy ⟨x,rfl,k,hx⟩
   exact hK _ _ (Below.call hC k) k ⟨x,rfl,hx⟩
  refine RegSteps.cons ?_ ?_
  ·intro _ az wz hC hF hD _ K hK
   obtain ⟨_,q48,rfl⟩:=dep hD 14 rfl rfl rfl rfl
   obtain ⟨_,q50,x50,rfl,hx50⟩:=dep hD 16 rfl rfl rfl rfl
   obtain ⟨_,qg,rfl⟩:=dep hD 13 rfl rfl rfl rfl
   clear hF hD
   refine want_yes rfl rfl rfl qg ?_
   go_simp
   refine (HSm.out _ _ _ (HRs.out _ hC) hx50).mono ?_
   rintro e wy ⟨rfl,k⟩
   exact hK _ _ (Below.call hC k) k rfl
  refine RegSteps.cons ?_ ?_
  ·intro _ az wz hC hF hD _ K hK
   obtain ⟨_,q51,rfl⟩:=dep hD 17 rfl rfl rfl rfl
   obtain ⟨_,qg,rfl⟩:=dep hD 13 rfl rfl rfl rfl
   clear hF hD
   refine want_yes rfl rfl rfl qg ?_
   go_simp
   exact hK _ _ hC (Below.refl _ _) rfl
  refine RegSteps.cons ?_ ?_
  ·intro _ az wz hC hF hD _ K hK
   obtain ⟨_,q47,rfl⟩:=dep hD 13 rfl rfl rfl rfl
   obtain ⟨_,q52,rfl⟩:=dep hD 18 rfl rfl rfl rfl
   clear hF hD
   refine want_none rfl ?_
   go_simp
   exact hK _ _ hC (Below.refl _ _) rfl
  refine RegSteps.cons ?_ ?_
  ·intro _ az wz hC hF hD _ K hK
   obtain ⟨_,q53,rfl⟩:=dep hD 19 rfl rfl rfl rfl
   clear hF hD
   refine want_none rfl ?_
   go_simp
   exact hK _ _ hC (Below.refl _ _) rfl
  refine RegSteps.cons ?_ ?_
  ·intro _ az wz hC hF hD _ K hK
   have q12:az.tmps[12]? = some (.pointer (some ⟨g12,0,none⟩)):=hF 12 rfl
   obtain ⟨_,qg,rfl⟩:=dep hD 20 rfl rfl rfl rfl
   obtain ⟨⟨z0,z1,z2,z3,z4,z5,z6,z7,z8⟩,_⟩:=(HV12.out.on hC).all9
   clear hF hD
   refine want_yes rfl rfl rfl qg ?_
   go_simp
   exact hK _ _ hC (Below.refl _ _) rfl
  refine RegSteps.cons ?_ ?_
  ·intro _ az wz hC hF hD _ K hK
   obtain ⟨_,q55,rfl⟩:=dep hD 21 rfl rfl rfl rfl
   obtain ⟨_,qg,rfl⟩:=dep hD 20 rfl rfl rfl rfl
   clear hF hD
   refine want_yes rfl rfl rfl qg ?_
   go_simp
   refine (HNs.out _ _ (HRs.out _ hC)).mono ?_
   rintro e wy ⟨rfl,k⟩
   exact hK _ _ (Below.call hC k) k rfl
  refine RegSteps.cons ?_ ?_
  ·intro _ az wz hC hF hD _ K hK
   have q7:az.tmps[7]? = some (.pointer (some ⟨g7,0,none⟩)):=hF 7 rfl
   obtain ⟨_,qg,rfl⟩:=dep hD 20 rfl rfl rfl rfl
   obtain ⟨⟨z0,z1,z2,z3,z4,z5,z6,z7,z8⟩,_⟩:=(HV7.out.on hC).all9
   clear hF hD
   refine want_yes rfl rfl rfl qg ?_
   go_simp
   exact hK _ _ hC (Below.refl _ _) rfl
  refine RegSteps.cons ?_ ?_
  ·intro _ az wz hC hF hD _ K hK
   obtain ⟨_,q57,rfl⟩:=dep hD 23 rfl rfl rfl rfl
   obtain ⟨_,qg,rfl⟩:=dep hD 20 rfl rfl rfl rfl
   clear hF hD
   refine want_yes rfl rfl rfl qg ?_
   go_simp
   refine (HNr.out _ _ (HRr.out _ hC)).mono ?_
   rintro e wy ⟨rfl,k⟩
   exact hK _ _ (Below.call hC k) k rfl
  refine RegSteps.cons ?_ ?_
  ·intro _ az wz hC hF hD _ K hK
   obtain ⟨_,q56,rfl⟩:=dep hD 22 rfl rfl rfl rfl
   obtain ⟨_,q58,rfl⟩:=dep hD 24 rfl rfl rfl rfl
   obtain ⟨_,qg,rfl⟩:=dep hD 20 rfl rfl rfl rfl
   have hle_:=HLe.out.1
   clear hF hD
   refine want_yes rfl rfl rfl qg ?_
   go_simp
   exact hK _ _ hC (Below.refl _ _) rfl
  refine RegSteps.cons ?_ ?_
  ·intro _ az wz hC hF hD _ K hK
   obtain ⟨_,q54,rfl⟩:=dep hD 20 rfl rfl rfl rfl
   obtain ⟨_,q59,rfl⟩:=dep hD 25 rfl rfl rfl rfl
   clear hF hD
   refine want_none rfl ?_
   go_simp
   exact hK _ _ hC (Below.refl _ _) rfl
  refine RegSteps.cons ?_ ?_
  ·intro _ az wz hC hF hD _ K hK
   obtain ⟨_,q60,rfl⟩:=dep hD 26 rfl rfl rfl rfl
   clear hF hD
   refine want_none rfl ?_
   go_simp
   exact hK _ _ hC (Below.refl _ _) rfl
  refine RegSteps.cons ?_ ?_
  ·intro _ az wz hC hF hD _ K hK
   have q12:az.tmps[12]? = some (.pointer (some ⟨g12,0,none⟩)):=hF 12 rfl
   obtain ⟨_,qg,rfl⟩:=dep hD 27 rfl rfl rfl rfl
   obtain ⟨⟨z0,z1,z2,z3,z4,z5,z6,z7,z8⟩,_⟩:=(HV12.out.on hC).all9
   clear hF hD
   refine want_yes rfl rfl rfl qg ?_
   go_simp
   exact hK _ _ hC (Below.refl _ _) rfl
  refine RegSteps.cons ?_ ?_
  ·intro _ az wz hC hF hD _ K hK
   obtain ⟨_,q62,rfl⟩:=dep hD 28 rfl rfl rfl rfl
   obtain ⟨_,qg,rfl⟩:=dep hD 27 rfl rfl rfl rfl
   clear hF hD
   refine want_yes rfl rfl rfl qg ?_
   go_simp
   refine (HEs.out _ _ (HRs.out _ hC)).mono ?_
   rintro e wy ⟨rfl,k⟩
   exact hK _ _ (Below.call hC k) k rfl
  refine RegSteps.cons ?_ ?_
  ·intro _ az wz hC hF hD _ K hK
   have q7:az.tmps[7]? = some (.pointer (some ⟨g7,0,none⟩)):=hF 7 rfl
   obtain ⟨_,qg,rfl⟩:=dep hD 27 rfl rfl rfl rfl
   obtain ⟨⟨z0,z1,z2,z3,z4,z5,z6,z7,z8⟩,_⟩:=(HV7.out.on hC).all9
   clear hF hD
   refine want_yes rfl rfl rfl qg ?_
   go_simp
   exact hK _ _ hC (Below.refl _ _) rfl
  refine RegSteps.cons ?_ ?_
  ·intro _ az wz hC hF hD _ K hK
   obtain ⟨_,q64,rfl⟩:=dep hD 30 rfl rfl rfl rfl
   obtain ⟨_,qg,rfl⟩:=dep hD 27 rfl rfl rfl rfl
   clear hF hD
   refine want_yes rfl rfl rfl qg ?_
   go_simp
   refine (HEr.out _ _ (HRr.out _ hC)).mono ?_
   rintro e wy ⟨rfl,k⟩
   exact hK _ _ (Below.call hC k) k rfl
  refine RegSteps.cons ?_ ?_
  ·intro _ az wz hC hF hD _ K hK
   obtain ⟨_,q63,rfl⟩:=dep hD 29 rfl rfl rfl rfl
   obtain ⟨_,q65,rfl⟩:=dep hD 31 rfl rfl rfl rfl
   obtain ⟨_,qg,rfl⟩:=dep hD 27 rfl rfl rfl rfl
   have hle_:=HLe.out.2
   clear hF hD
   refine want_yes rfl rfl rfl qg ?_
   go_simp
   exact hK _ _ hC (Below.refl _ _) rfl
  refine RegSteps.cons ?_ ?_
  ·intro _ az wz hC hF hD _ K hK
   obtain ⟨_,q61,rfl⟩:=dep hD 27 rfl rfl rfl rfl
   obtain ⟨_,q66,rfl⟩:=dep hD 32 rfl rfl rfl rfl
   clear hF hD
   refine want_none rfl ?_
   go_simp
   exact hK _ _ hC (Below.refl _ _) rfl
  exact RegSteps.nil
 intro w5 hC5
 rintro _ rfl _ rfl _ rfl _ rfl _ rfl _ rfl _ rfl _ rfl _ rfl _ ⟨y43,rfl,_⟩ _ rfl _ rfl _ rfl _ rfl _ rfl _ rfl _ ⟨y50,rfl,_⟩ _ rfl _ rfl _ rfl _ rfl _ rfl _ rfl _ rfl _ rfl _ rfl _ rfl _ rfl _ rfl _ rfl _ rfl _ rfl _ rfl _ rfl
 simp only [FinOK,Act.put,List.setIfInBounds_toArray,List.set_cons_zero,List.set_cons_succ]
 have HB5:=Lib.hid (Below.call HB4.out hC5)
 have HC5:=Lib.hid hC5
 have HZ7:=Lib.hid (HV7.out.on hC5)
 have HZ12:=Lib.hid (HV12.out.on hC5)
 obtain ⟨⟨x0,x1,x2,x3,x4,x5,x6,x7,x8⟩,_⟩:=HZ7.out.all9
 have hRr5:=HRr.out _ hC5
 have hRs5:=HRs.out _ hC5
 obtain ⟨csr,hcsr,hRr6⟩:=id hRr5
 have HLv5:=HLv.out csr _ hRr6
 rw [← hcsr] at HLv5
 have HLv6:=Lib.hid HLv5
 have HRr5:=Lib.hid hRr5
 have HRs5:=Lib.hid hRs5
 clear hC5 HLv5 hRr6 hcsr hRr5 hRs5 HB4 HV7 HV10 HV12 HRr HRb HRs HSa HSb HOr HPl HSi HSm HNr HNs HEr HEs HLv
 clear csr
 go_wp2_with fail
 refine HLv6.out.mono ?_
 rintro e w6 ⟨Lv,LA,lc,rfl,k6,hK6,hL6,hb6⟩
 obtain ⟨ln,hln⟩:∃ n,Lv.length=n:=⟨_,rfl⟩
 have HLn:=Lib.hid hln
 have hsz:Hid (Lv.length≤1000000∧∀ x∈Lv,Qy.nodes x≤1000000):=Lib.hid ⟨by have h1:=HG.out.2.1;omega,fun x hx=>by have:=hb6 x hx;omega⟩
 rw [hln]
 have HK7:=Lib.hid hK6
 have HB6:=Lib.hid (Below.call HB5.out k6)
 have HR6:=Lib.hid (And.intro (isReg_keep HRr5.out k6) (isReg_keep HRs5.out k6))
 have HZ:=Lib.hid (And.intro (HZ7.out.on k6) (HZ12.out.on k6))
 clear x0 x1 x2 x3 x4 x5 x6 x7 x8 k6 hK6 hL6 hb6 hln HLv6 HZ7 HZ12 HRr5 HRs5 HB5 HC5
 have hn2b:n2≤maxLen:=by have h1:=HK2.out.cap;have h2:=HK2.out.mx;have h3:=HN2.out;omega
 unfold maxLen at hn2b
 go_wp2_with fail
 go_loopw [14] (fun s wr=>∃ i:Nat,i≤n2∧s=.int .i64 (i:Int)∧Below w6.heap.size w6 wr) (fun s _=>n2 - (intOf s).toNat)
 case atStart=>exact ⟨0,by omega,rfl,Below.refl _ _⟩
 case round=>
  obtain ⟨i,hi,rfl,hB⟩:=hrel
  have HBr:=Lib.hid hB
  by_cases hc:i<n2∧i<20
  ·obtain ⟨hc1,hc2⟩:=hc
   have i0:(0:Int)≤(i:Int):=Int.natCast_nonneg i
   have i1:(i:Int)<(n2:Int):=by omega
   have i2:(i:Int)<20:=by omega
   obtain ⟨x,hx⟩:∃ x,l2[i]? = some x:=⟨_,List.getElem?_eq_getElem (by have:=HN2.out;omega)⟩
   have hB2:=Below.call HB6.out hB
   obtain ⟨g,off,hA,hg,hcell⟩:=(HK2.out.on hB2).sl.at_ (i:=i) (x:=.int .i64 x) (by simp [i64,hx])
   obtain ⟨r0,r1⟩:=HK2.out.rg x (List.mem_of_getElem? hx)
   obtain ⟨ch,hch⟩:∃ z,around x 1048576=z:=⟨_,rfl⟩
   have hchb:=around_bd x (m:=1048576) (by omega)
   have HA:=Lib.hid fun u=>Around_any x 1048576 u r0 r1 (by omega) (by omega)
   rw [hch] at HA hchb
   have HChb:=Lib.hid hchb
   have hcap:=HK2.out.cap
   rw [HN2.out] at hcap
   subst hA
   clear hx hch r0 r1 hB2 hB
   go_wp2_with fail
   refine (HA.out _).mono ?_
   rintro e w8 ⟨rfl,k8⟩
   have HB8:=Lib.hid (Below.call HBr.out k8)
   clear k8 hcell hg
   have HZ7:=Lib.hid (HZ.out.1.on HB8.out)
   have HZ12:=Lib.hid (HZ.out.2.on HB8.out)
   obtain ⟨mb,hmb⟩:∃ b,Qy.mean (pickB Lv ch) R=b:=⟨_,rfl⟩
   have HMr:Hid (∀ u,Below w8.heap.size w8 u→Calls Tryd.prog 28 #[.agg #[.int .i64 rn0,.string rs1,.int .i64 rn2,.int .i64 rn3,.int .i64 rn4,.int .i64 rn5,.int .i64 rn6,.int .i64 rn7,.slice rA8 rl8 rc8],.slice LA ln lc,.int .i64 ch] u (RetB u mb)):=Lib.hid fun u hu=>by
    have hb:=Below.call HB8.out hu
    have h2:=HMn.out Lv hsz.out ch HChb.out R (by have:=HG.out.2.1;omega) HG.out.1 _ LA lc _ u (isReg_keep HR6.out.1 hb) (HK7.out.on hb)
    rw [HLn.out,hmb] at h2
    exact h2
   have HMs:Hid (∀ u,Below w8.heap.size w8 u→Calls Tryd.prog 28 #[.agg #[.int .i64 sn0,.string ss1,.int .i64 sn2,.int .i64 sn3,.int .i64 sn4,.int .i64 sn5,.int .i64 sn6,.int .i64 sn7,.slice sA8 sl8 sc8],.slice LA ln lc,.int .i64 ch] u (RetB u mb)):=Lib.hid fun u hu=>by
    have hb:=Below.call HB8.out hu
    have h2:=HMn.out Lv hsz.out ch HChb.out sR (by have h1:=HG.out.2.1;have h2:=HG.out.2.2.1;omega) HsE.out _ LA lc _ u (isReg_keep HR6.out.2 hb) (HK7.out.on hb)
    rw [HLn.out,HG.out.2.2.2.2,hmb] at h2
    exact h2
   clear hmb
   go_upto_region 12 with fail
   refine wp_region_specs w8 [Spec.eq (.agg #[.int .i64 rn0,.string rs1,.int .i64 rn2,.int .i64 rn3,.int .i64 rn4,.int .i64 rn5,.int .i64 rn6,.int .i64 rn7,.slice rA8 rl8 rc8]),Spec.eq (.slice LA ln lc),Spec.eq (.int .i64 ch),Spec.eq (.bool mb),Spec.eq (.agg #[.int .i64 sn0,.string ss1,.int .i64 sn2,.int .i64 sn3,.int .i64 sn4,.int .i64 sn5,.int .i64 sn6,.int .i64 sn7,.slice sA8 sl8 sc8]),Spec.eq (.slice LA ln lc),Spec.eq (.int .i64 ch),Spec.eq (.bool mb),Spec.eq (.bool false)]
    (by kernel_rfl) (by kernel_rfl) rfl (by kernel_rfl) (Below.drew (Below.refl _ _)) ?_ ?_
   ·
    refine RegSteps.cons ?_ ?_
    ·intro _ az wz hC hF hD _ K hK
     have q7:az.tmps[7]? = some (.pointer (some ⟨g7,0,none⟩)):=hF 7 rfl
     obtain ⟨⟨z0,z1,z2,z3,z4,z5,z6,z7,z8⟩,_⟩:=(HZ7.out.on hC).all9
     clear hF hD
     refine want_none rfl ?_
     go_simp
     exact hK _ _ hC (Below.refl _ _) rfl
    refine RegSteps.cons ?_ ?_
    ·intro _ az wz hC hF hD _ K hK
     have q13:az.tmps[13]? = some (.slice LA ln lc):=hF 13 rfl
     clear hF hD
     refine want_none rfl ?_
     go_simp
     exact hK _ _ hC (Below.refl _ _) rfl
    refine RegSteps.cons ?_ ?_
    ·intro _ az wz hC hF hD _ K hK
     have q15:az.tmps[15]? = some (.int .i64 ch):=hF 15 rfl
     clear hF hD
     refine want_none rfl ?_
     go_simp
     exact hK _ _ hC (Below.refl _ _) rfl
    refine RegSteps.cons ?_ ?_
    ·intro _ az wz hC hF hD _ K hK
     obtain ⟨_,q85,rfl⟩:=dep hD 0 rfl rfl rfl rfl
     obtain ⟨_,q86,rfl⟩:=dep hD 1 rfl rfl rfl rfl
     obtain ⟨_,q87,rfl⟩:=dep hD 2 rfl rfl rfl rfl
     clear hF hD
     refine want_none rfl ?_
     go_simp
     refine (HMr.out _ hC).mono ?_
     rintro e wy ⟨rfl,k⟩
     exact hK _ _ (Below.call hC k) k rfl
    refine RegSteps.cons ?_ ?_
    ·intro _ az wz hC hF hD _ K hK
     have q12:az.tmps[12]? = some (.pointer (some ⟨g12,0,none⟩)):=hF 12 rfl
     obtain ⟨⟨z0,z1,z2,z3,z4,z5,z6,z7,z8⟩,_⟩:=(HZ12.out.on hC).all9
     clear hF hD
     refine want_none rfl ?_
     go_simp
     exact hK _ _ hC (Below.refl _ _) rfl
    refine RegSteps.cons ?_ ?_
    ·intro _ az wz hC hF hD _ K hK
     have q13:az.tmps[13]? = some (.slice LA ln lc):=hF 13 rfl
     clear hF hD
     refine want_none rfl ?_
     go_simp
     exact hK _ _ hC (Below.refl _ _) rfl
    refine RegSteps.cons ?_ ?_
    ·intro _ az wz hC hF hD _ K hK
     have q15:az.tmps[15]? = some (.int .i64 ch):=hF 15 rfl
     clear hF hD
     refine want_none rfl ?_
     go_simp
     exact hK _ _ hC (Below.refl _ _) rfl
    refine RegSteps.cons ?_ ?_
    ·intro _ az wz hC hF hD _ K hK
     obtain ⟨_,q89,rfl⟩:=dep hD 4 rfl rfl rfl rfl
     obtain ⟨_,q90,rfl⟩:=dep hD 5 rfl rfl rfl rfl
     obtain ⟨_,q91,rfl⟩:=dep hD 6 rfl rfl rfl rfl
     clear hF hD
     refine want_none rfl ?_
     go_simp
     refine (HMs.out _ hC).mono ?_
     rintro e wy ⟨rfl,k⟩
     exact hK _ _ (Below.call hC k) k rfl
    refine RegSteps.cons ?_ ?_
    ·intro _ az wz hC hF hD _ K hK
     obtain ⟨_,q88,rfl⟩:=dep hD 3 rfl rfl rfl rfl
     obtain ⟨_,q92,rfl⟩:=dep hD 7 rfl rfl rfl rfl
     clear hF hD
     refine want_none rfl ?_
     go_simp
     exact hK _ _ hC (Below.refl _ _) rfl
    exact RegSteps.nil
   intro w9 hC9
   rintro _ rfl _ rfl _ rfl _ rfl _ rfl _ rfl _ rfl _ rfl _ rfl
   simp only [FinOK,Act.put,List.setIfInBounds_toArray,List.set_cons_zero,List.set_cons_succ]
   have HB9:=Lib.hid (Below.call HB8.out hC9)
   clear hC9
   go_wp2_with fail
   go_roundw
   case rel=>exact ⟨i+1,by omega,by go_num,HB9.out⟩
   case measure=>simp [intOf];omega
  ·have HBe:=Lib.hid (Below.call HB6.out hB)
   clear hB
   by_cases hc1:i<n2
   ·have i1:(i:Int)<(n2:Int):=by omega
    have i2:¬ (i:Int)<20:=by omega
    go_wp2_with fail
    refine (HL0.out _).mono ?_
    rintro e w9 ⟨rfl,k9⟩
    have HF:=Lib.hid (Below.call HBe.out k9)
    clear k9
    go_wp2
    go_returns
    exact ⟨by simp,HF.out⟩
   ·have i1:¬ (i:Int)<(n2:Int):=by omega
    go_wp2_with fail
    refine (HL0.out _).mono ?_
    rintro e w9 ⟨rfl,k9⟩
    have HF:=Lib.hid (Below.call HBe.out k9)
    clear k9
    go_wp2
    go_returns
    exact ⟨by simp,HF.out⟩
end Go.Proofs.YtmlpibdincfgbaaDoor
