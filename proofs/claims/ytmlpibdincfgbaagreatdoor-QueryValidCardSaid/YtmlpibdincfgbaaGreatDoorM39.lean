/-
  Chapter 38's program: Valid and Print, of every query.
-/
import Derived.Test.YtmlpibdincfgbaaGreatDoorM38
import Derived.Test.YtmlpibdincfgbaaGreatDoorQS2
import Derived.Test.YtmlpibdincfgbaaGreatDoorQS7
import Derived.Test.YtmlpibdincfgbaaGreatDoorK21
namespace Go.Proofs.YtmlpibdincfgbaaGreatDoor
open Go.RowKit
set_option linter.unusedSimpArgs false
set_option linter.unusedVariables false
theorem validE_partsP {q:Qy.Qry} (h:Qy.validE q=0):0≤q.kind∧q.kind≤255∧0≤q.day∧q.day≤73048∧0≤q.scale∧q.scale≤23∧Qy.viewOK q.vkind q.offs=true∧Qy.regE q.reg=0:=by
 unfold Qy.validE at h
 split at h
 ·cases h
 rename_i h1
 split at h
 ·cases h
 rename_i h2
 exact ⟨by omega,by omega,by omega,by omega,by omega,by omega,by simpa using h2,h⟩
theorem regE_partsP {R:Qy.Reg} (h:Qy.regE R=0):Qy.nodes R≤256∧Qy.nodeE R=0:=by
 unfold Qy.regE at h
 split at h
 ·cases h
 ·exact ⟨by omega,h⟩
set_option maxRecDepth 100000 in
set_option maxHeartbeats 3200000 in
theorem pValid_any (q:Qy.Qry) (hn:Qy.nodes q.reg≤1000000) (ho:q.offs.length≤1000000) (v:Value) (w:World) (hv:IsQry w q v):Calls Tryz.prog 20 #[v] w (RetInt w (Qy.validE q)):=by
 obtain ⟨n0,s1,n2,n3,n4,n5,n6,n7,A8,l8,c8,vA,vl,vc,rfl,hvl,hR,hI,hv1,hv2⟩:=hv
 obtain ⟨qk,QR,qv,qo,qd,qs⟩:=q
 simp only at hvl hR hI hn ho ⊢
 obtain ⟨E,hE⟩:∃ E,Qy.validE ⟨qk,QR,qv,qo,qd,qs⟩=E:=⟨_,rfl⟩
 rw [hE]
 unfold Qy.validE at hE
 simp only at hE
 have HG:=Lib.hid fun v u h=>region_any QR hn v u h
 have HV:Hid (∀ u,Below w.heap.size w u→Calls Tryz.prog 23 #[.agg #[.int .i64 qv,.slice vA vl vc]] u (RetInt u (if Qy.viewOK qv qo=true then 0 else 1))):=Lib.hid fun u k=>by rw [hvl];exact pView_any (c:=vc) (hI.on k) ho
 have HR:=Lib.hid hR.isReg
 obtain ⟨vb,hvb⟩:∃ b,Qy.viewOK qv qo=b:=⟨_,rfl⟩
 obtain ⟨re,hre⟩:∃ e,Qy.regE QR=e:=⟨_,rfl⟩
 rw [hvb] at HV
 rw [hre] at HG
 rw [hvb,hre] at hE
 have HE:=Lib.hid hE
 obtain ⟨b1,hb1⟩:∃ b,(decide (0≤qk)&&decide (qk≤255))=b:=⟨_,rfl⟩
 obtain ⟨b2,hb2⟩:∃ b,(decide (0≤qd)&&decide (qd≤73048))=b:=⟨_,rfl⟩
 obtain ⟨b3,hb3⟩:∃ b,(decide (0≤qs)&&decide (qs≤23))=b:=⟨_,rfl⟩
 have H1:=Lib.hid fun u=>in_any qk 0 255 u
 have H2:=Lib.hid fun u=>in_any qd 0 73048 u
 have H3:=Lib.hid fun u=>in_any qs 0 23 u
 rw [hb1] at H1
 rw [hb2] at H2
 rw [hb3] at H3
 have HBS:=Lib.hid (And.intro hb1 (And.intro hb2 hb3))
 clear hvl hR hI hv1 hv2 hvb hre hE hb1 hb2 hb3 hn ho
 go_enter Tryz.func20,Tryz.ntmps20
 go_upto_region 1 with fail
 refine wp_new1 fun W0 hA hB=>?_
 have HA:=Lib.hid hA
 have HB:=Lib.hid hB
 obtain ⟨⟨y0,y1,y2,y3,y4,y5,y6,y7,y8,y9,y10,y11,y12,y13⟩,_⟩:=hA.all14
 clear hA hB
 cases b1
 ·have HF:Hid (E=5):=Lib.hid (by
   obtain ⟨h1,h2,h3⟩:=HBS.out
   simp only [Bool.and_eq_false_iff,Bool.and_eq_true,decide_eq_false_iff_not,decide_eq_true_eq] at h1 h2 h3
   rw [← HE.out,if_pos (by omega)])
  go_wp2_with fail
  refine (H1.out _).mono ?_
  rintro e w1 ⟨rfl,e_⟩
  subst e_
  go_wp2
  go_returns
  exact ⟨by rw [HF.out];simp,HB.out⟩
 cases b2
 ·have HF:Hid (E=5):=Lib.hid (by
   obtain ⟨h1,h2,h3⟩:=HBS.out
   simp only [Bool.and_eq_false_iff,Bool.and_eq_true,decide_eq_false_iff_not,decide_eq_true_eq] at h1 h2 h3
   rw [← HE.out,if_pos (by omega)])
  go_wp2_with fail
  refine (H1.out _).mono ?_
  rintro e w1 ⟨rfl,e_⟩
  subst e_
  go_wp2_with fail
  refine (H2.out _).mono ?_
  rintro e w2 ⟨rfl,e_⟩
  subst e_
  go_wp2
  go_returns
  exact ⟨by rw [HF.out];simp,HB.out⟩
 cases b3
 ·have HF:Hid (E=5):=Lib.hid (by
   obtain ⟨h1,h2,h3⟩:=HBS.out
   simp only [Bool.and_eq_false_iff,Bool.and_eq_true,decide_eq_false_iff_not,decide_eq_true_eq] at h1 h2 h3
   rw [← HE.out,if_pos (by omega)])
  go_wp2_with fail
  refine (H1.out _).mono ?_
  rintro e w1 ⟨rfl,e_⟩
  subst e_
  go_wp2_with fail
  refine (H2.out _).mono ?_
  rintro e w2 ⟨rfl,e_⟩
  subst e_
  go_wp2_with fail
  refine (H3.out _).mono ?_
  rintro e w3 ⟨rfl,e_⟩
  subst e_
  go_wp2
  go_returns
  exact ⟨by rw [HF.out];simp,HB.out⟩
 have HE2:Hid (E=if vb=false then 1 else re):=Lib.hid (by
  obtain ⟨h1,h2,h3⟩:=HBS.out
  simp only [Bool.and_eq_true,decide_eq_true_eq] at h1 h2 h3
  rw [← HE.out,if_neg (by omega)])
 go_wp2_with fail
 refine (H1.out _).mono ?_
 rintro e w1 ⟨rfl,e_⟩
 subst e_
 go_wp2_with fail
 refine (H2.out _).mono ?_
 rintro e w1 ⟨rfl,e_⟩
 subst e_
 go_wp2_with fail
 refine (H3.out _).mono ?_
 rintro e w1 ⟨rfl,e_⟩
 subst e_
 cases vb
 ·have HF:Hid (E=1):=Lib.hid (by rw [HE2.out,if_pos rfl])
  go_wp2_with fail
  refine (HV.out _ HB.out).mono ?_
  rintro e w2 ⟨rfl,k1⟩
  have HB1:=Lib.hid (Below.call HB.out k1)
  clear k1 y0 y1 y2 y3 y4 y5 y6 y7 y8 y9 y10 y11 y12 y13
  go_wp2
  go_returns
  exact ⟨by rw [HF.out];simp,HB1.out⟩
 have HF:Hid (E=re):=Lib.hid (by rw [HE2.out,if_neg (by simp)])
 go_wp2_with fail
 refine (HV.out _ HB.out).mono ?_
 rintro e w2 ⟨rfl,k1⟩
 have hB1:=Below.call HB.out k1
 have HR1:=Lib.hid (HR.out.on hB1)
 clear y0 y1 y2 y3 y4 y5 y6 y7 y8 y9 y10 y11 y12 y13
 obtain ⟨⟨y0,y1,y2,y3,y4,y5,y6,y7,y8,y9,y10,y11,y12,y13⟩,_⟩:=(HA.out.on k1).all14
 clear k1
 go_wp2_with fail
 refine (HG.out _ _ HR1.out).mono ?_
 rintro e w3 ⟨rfl,k2⟩
 have HF2:=Lib.hid (Below.call hB1 k2)
 clear k2 hB1 y0 y1 y2 y3 y4 y5 y6 y7 y8 y9 y10 y11 y12 y13
 go_wp2
 go_returns
 exact ⟨by rw [HF.out];simp,HF2.out⟩
def itoaC (l:List Int) (i:Nat):List Value:=cellsS ((l.take i).map Lib.itoa)
theorem itoas_step {l:List Int} {i:Nat} {z:Int} (h:l[i]? = some z):itoaC l (i+1)=itoaC l i++[.string ⟨(Lib.itoa z).toArray⟩]:=by
 unfold itoaC
 rw [List.take_add_one,h]
 simp [cellsS]
set_option maxRecDepth 100000 in
set_option maxHeartbeats 6400000 in
theorem pPrint_any (q:Qy.Qry) (hn:Qy.nodes q.reg≤1000000) (ho:q.offs.length≤1000000) (v:Value) (w:World) (hT:TabQ w) (hv:IsQry w q v):Calls Tryz.prog 18 #[v] w fun e w'=>e=.returned (.tuple #[.string ⟨(Qy.printQ q).1.toArray⟩,.int .i64 (Qy.printQ q).2])∧Below w.heap.size w w':=by
 have HVd:=Lib.hid fun v u h=>pValid_any q hn ho v u h
 have HI0:=Lib.hid hv
 have HT0:=Lib.hid hT
 obtain ⟨n0,s1,n2,n3,n4,n5,n6,n7,A8,l8,c8,vA,vl,vc,rfl,hvl,hR,hI,hv1,hv2⟩:=hv
 obtain ⟨E,hE⟩:∃ E,Qy.validE q=E:=⟨_,rfl⟩
 by_cases hE0:E=0
 rotate_left
 ·have hp:Qy.printQ q=([],E):=by unfold Qy.printQ;rw [hE,if_pos hE0]
  rw [hE] at HVd
  have HP:=Lib.hid hp
  obtain ⟨qk,QR,qv,qo,qd,qs⟩:=q
  simp only at HP HVd HI0 ⊢
  have hez:(E==0)=false:=by simp [hE0]
  clear hp hE hvl hR hI hv1 hv2 hn ho hT
  go_enter Tryz.func18,Tryz.ntmps18
  go_upto_region 1 with fail
  refine wp_new1 fun W0 hA hB=>?_
  obtain ⟨⟨y0,y1,y2,y3,y4,y5,y6,y7,y8,y9,y10,y11,y12,y13⟩,_⟩:=hA.all14
  have HB:=Lib.hid hB
  have HX:=Lib.hid (HI0.out.on hB)
  clear hA hB
  go_wp2_with fail
  refine (HVd.out _ _ HX.out).mono ?_
  rintro e w1 ⟨rfl,k1⟩
  have HB1:=Lib.hid (Below.call HB.out k1)
  clear k1 y0 y1 y2 y3 y4 y5 y6 y7 y8 y9 y10 y11 y12 y13
  go_wp2
  go_returns
  exact ⟨by rw [HP.out] <;> rfl,HB1.out⟩
 subst hE0
 rw [hE] at HVd
 have hpQ:Qy.printQ q=if 4096<(Qy.printT q).length then ([],4) else (Qy.printT q,0):=by unfold Qy.printQ;rw [if_neg (by rw [hE];simp)]
 have HPQ:=Lib.hid hpQ
 obtain ⟨k0,k1,d0,d1,s0,s1_,hvk,hrE⟩:=validE_partsP hE
 obtain ⟨qk,QR,qv,qo,qd,qs⟩:=q
 simp only at hvl hR hI k0 k1 d0 d1 s0 s1_ hvk hrE ⊢
 obtain ⟨hg2,hnE⟩:=regE_partsP hrE
 have htl:=Qy.text_len QR false hnE
 obtain ⟨hvp,hvr,hvd⟩:=view_parts hvk
 have hD:∀ (z:Int),0≤z→z≤100000→∃ t:ByteArray,t=⟨(Lib.itoa z).toArray⟩∧t.size≤11∧∀ u,TabQ u→Calls Tryz.prog 47 #[.int .i64 z] u fun e w'=>e=.returned (.string t)∧Below u.heap.size u w':=fun z h0 h1=>
  ⟨_,rfl,by rw [lsz];exact Qy.itoa_len z (by omega) (by omega),fun u h=>itoaQ z (by omega) (by omega) u h⟩
 obtain ⟨tk,htk,hzk,HDk⟩:=hD qk (by omega) (by omega)
 obtain ⟨td,htd,hzd,HDd⟩:=hD qd (by omega) (by omega)
 obtain ⟨ts,hts,hzs,HDs⟩:=hD qs (by omega) (by omega)
 replace HDk:=Lib.hid HDk
 replace HDd:=Lib.hid HDd
 replace HDs:=Lib.hid HDs
 have HDO:=Lib.hid hD
 obtain ⟨tt,htt⟩:∃ t:ByteArray,⟨(Qy.text QR false).toArray⟩=t:=⟨_,rfl⟩
 have hzt:tt.size≤20000:=by rw [← htt,lsz];omega
 have HTt:Hid (∀ (v:Value) (u:World),TabQ u→IsReg u QR v→Calls Tryz.prog 49 #[v] u fun e w'=>e=.returned (.string tt)∧Below u.heap.size u w'):=Lib.hid fun v u h' h=>htt▸ptext_any _ QR (Nat.le_refl _) (by omega) hnE v u h' h
 have HTX:=Lib.hid (And.intro htk (And.intro htd (And.intro hts htt)))
 have HR:=Lib.hid hR.isReg
 have HVW:=Lib.hid (And.intro hI (And.intro hvl hvr))
 obtain ⟨m,hm⟩:∃ m,qo.length=m:=⟨_,rfl⟩
 have hvl2:vl=m:=by rw [hvl,hm]
 subst hvl2
 have HM:=Lib.hid hm
 have hm8:vl≤8:=by rw [← hm];omega
 have hjl:(Qy.join [44] (qo.map Lib.itoa)).length≤128:=by
  refine Qy.join_len [44] (by simp) _ _ ?_
  rw [List.map_map]
  have:∀ l:List Int,(∀ n∈l,0≤n∧n≤63)→(l.map ((fun t:Qy.Bs=>t.length+5) ∘ Lib.itoa)).sum≤16 * l.length:=by
   intro l
   induction l with
   | nil=>intro _;simp
   | cons z l ih=>
    intro h
    have h1:=Qy.itoa_len z (by have:=h z (by simp);omega) (by have:=h z (by simp);omega)
    have h2:=ih fun n hn=>h n (List.mem_cons_of_mem _ hn)
    simp only [List.map_cons,List.sum_cons,List.length_cons,Function.comp]
    omega
  have h3:=this qo hvr
  rw [hm] at h3
  omega
 have HJL:=Lib.hid hjl
 have hvp2:qv=0∨qv=1∨(qv=2∧vl=0):=by rw [hm] at hvp;omega
 clear hvl hR hI hv1 hv2 hvk hrE hg2 hnE htl hvr hvd htk htd hts htt hD k0 k1 d0 d1 s0 s1_ hm hvp hpQ hE hn ho hT hjl
 rcases hvp2 with rfl | rfl | ⟨rfl,rfl⟩
 ·
  go_enter Tryz.func18,Tryz.ntmps18
  go_upto_region 1 with fail
  refine wp_new1 fun W0 hA hB=>?_
  have HA0:=Lib.hid hA
  obtain ⟨⟨y0,y1,y2,y3,y4,y5,y6,y7,y8,y9,y10,y11,y12,y13⟩,_⟩:=hA.all14
  clear hA
  go_wp2_with fail
  refine (HVd.out _ _ (HI0.out.on hB)).mono ?_
  rintro e w1 ⟨rfl,k1⟩
  have HB1:=Lib.hid (Below.call hB k1)
  have HA:=Lib.hid (HA0.out.on k1)
  clear k1 hB HA0 HVd HI0 y0 y1 y2 y3 y4 y5 y6 y7 y8 y9 y10 y11 y12 y13
  obtain ⟨⟨y0,y1,y2,y3,y4,y5,y6,y7,y8,y9,y10,y11,y12,y13⟩,_⟩:=HA.out.all14
  go_wp2_with fail
  clear y0 y1 y2 y3 y4 y5 y6 y7 y8 y9 y10 y11 y12 y13
  go_loopw [6,23] (fun s6 s23 wr=>∃ i:Nat,i≤vl∧s23=.int .i64 (i:Int)∧wr.ownsRow (w.heap.size+1) 9 1 s6 i (itoaC qo i)∧Own wr w.heap.size 48 [.int .i64 qk,.int .i64 n0,.string s1,.int .i64 n2,.int .i64 n3,.int .i64 n4,.int .i64 n5,.int .i64 n6,.int .i64 n7,.slice A8 l8 c8,.int .i64 0,.slice vA vl vc,.int .i64 qd,.int .i64 qs]∧Below w.heap.size w wr) (fun _ s _=>vl - (intOf s).toNat)
  case atStart=>exact ⟨0,Nat.zero_le _,rfl,World.ownsRow_nil _ _ _ 1,HA.out,HB1.out⟩
  case round=>
   obtain ⟨i,hi,rfl,hrow,hA,hB⟩:=hrel
   clear HB1 HA
   rcases Nat.lt_or_eq_of_le hi with hlt | heq
   ·have i1:(i:Int)<(vl:Int):=by omega
    obtain ⟨g,off,rfl,hgl,hc⟩:=HVW.out.1.get (by have:=HM.out;omega)
    obtain ⟨z,hz⟩:∃ z,qo[i]? = some z:=⟨_,List.getElem?_eq_getElem (by have:=HM.out;omega)⟩
    have x1:=(World.cell?_of_block (a:=⟨g,off+i,none⟩) (hB.block g hgl)).trans (hc i z hz)
    have zr:=HVW.out.2.2 z (List.mem_of_getElem? hz)
    obtain ⟨tz,htz1,htz2,HDz⟩:=HDO.out z zr.1 (by omega)
    have HC:=Lib.hid (HDz wr (HT0.out.on hB))
    have HSt:=Lib.hid (And.intro (itoas_step hz) htz1)
    have HS:=Lib.hid (And.intro hrow (And.intro hA hB))
    clear hrow hA hB hc hgl hz zr htz1 HDz
    go_wp2_with fail
    refine HC.out.mono ?_
    rintro e w3 ⟨rfl,k3⟩
    have HS3:=Lib.hid (And.intro (owns_below HS.out.1 k3) (And.intro (HS.out.2.1.on k3) (Below.call HS.out.2.2 k3)))
    clear k3 HS HC x1
    have kn:=below_new w3 (.cells #[.string tz] 9)
    have q2:=owns_below HS3.out.1 kn
    have HO:=own_news (Own.new w3 9 [.string tz])
    have one1:∀ u∈[Value.string tz],u.oneCell'=true:=by simp [Value.oneCell']
    have HKn:=Lib.hid (And.intro kn (HS3.out.2.1.on kn))
    have hwz:=HS3.out.2.1.lt
    clear kn
    obtain ⟨i0_,hi_,hz0,hz1,hz2⟩:=info_parts str_infoQ
    go_wp2_with (at_builtin;refine wpList_pushO _ rfl _ _ 43 rfl 9 i0_ (.string ⟨#[]⟩) 1 16 Tryz.underlying43 hi_ hz0 hz1 hz2 rfl (by decide) (w.heap.size+1) _ _ _ rfl q2 ⟨w3.heap.size,0,none⟩ 1 [.string tz] rfl rfl HO one1 ?c4 ?c5 ?c6 ?_)
    case c4=>unfold maxLen;omega
    case c5=>omega
    case c6=>simp;omega
    intro v' w7 hrow3 hgrow hv'
    rw [HSt.out.2,← HSt.out.1] at hrow3
    have hB7:=below_row HS3.out.2.2 HKn.out.1 (owns_baseV HS3.out.1 (Nat.le_add_right _ 1)) hgrow
    have hA7:Own w7 w.heap.size 48 [.int .i64 qk,.int .i64 n0,.string s1,.int .i64 n2,.int .i64 n3,.int .i64 n4,.int .i64 n5,.int .i64 n6,.int .i64 n7,.slice A8 l8 c8,.int .i64 0,.slice (some ⟨g,off,none⟩) vl vc,.int .i64 qd,.int .i64 qs]:=HKn.out.2.grown hgrow (fun e=>by have h9:=(HS3.out.1.lt _ e.symm).1;omega)
    have HS7:=Lib.hid (And.intro hrow3 (And.intro hA7 hB7))
    clear hrow3 hgrow hv' q2 HO one1 hi_ hz0 hz1 hz2 hB7 hA7 HS3
    clear i0_
    go_wp2_with fail
    go_roundw
    case rel=>exact ⟨i+1,by omega,by go_num,HS7.out.1,HS7.out.2.1,HS7.out.2.2⟩
    case measure=>simp [intOf];omega
   ·subst heq
    obtain ⟨A9,c9,hv0⟩:=owns_slice hrow
    subst hv0
    have hrow2:wr.ownsRow (w.heap.size+1) 9 1 (.slice A9 i c9) i (cellsS (qo.map Lib.itoa)):=by
     have h9:=hrow
     unfold itoaC at h9
     rw [List.take_of_length_le (by have:=HM.out;omega)] at h9
     exact h9
    obtain ⟨w4,hw4⟩:∃ w4,w4=wr:=⟨_,rfl⟩
    subst hw4
    have hls:(qo.map Lib.itoa).length=i:=by rw [List.length_map];exact HM.out
    obtain ⟨m,hmi⟩:∃ m,m=i:=⟨_,rfl⟩
    subst hmi
    obtain ⟨tj,htj⟩:∃ t:ByteArray,⟨(Qy.join [44] (qo.map Lib.itoa)).toArray⟩=t:=⟨_,rfl⟩
    have hzj:tj.size≤128:=by rw [← htj,lsz];exact HJL.out
    have HJN:Hid (∀ wz,Below w4.heap.size w4 wz→Calls Tryz.prog 48 #[.slice A9 m c9,.string ⟨#[44]⟩] wz fun e w'=>e=.returned (.string tj)∧Below wz.heap.size wz w'):=Lib.hid fun wz kz=>by
     obtain ⟨A',c',e',hJ⟩:=joinRow (owns_below hrow2 kz) hls (by omega) [44] (by have:=HJL.out;omega)
     cases e'
     rw [← htj]
     exact hJ
    have HTJ:=Lib.hid htj
    have HA4:=Lib.hid hA
    have HB4:=Lib.hid hB
    clear hrow hrow2 hls htj hA hB
    go_upto_region 12 with fail
    refine wp_region_specs w4 [sOwn w4.heap.size 2 9 ([.string ⟨#[111,102,102,105,99,101,32]⟩,.string ⟨#[99,111,97,108,105,116,105,111,110,32]⟩]),Spec.eq (.pointer (some ⟨w.heap.size,10,none⟩)),Spec.eq (.pointer (some ⟨w.heap.size,10,none⟩)),Spec.eq (.int .i64 0),sWd 0 ([.string ⟨#[111,102,102,105,99,101,32]⟩,.string ⟨#[99,111,97,108,105,116,105,111,110,32]⟩]),Spec.eq (.string ⟨#[111,102,102,105,99,101,32]⟩),Spec.eq (.slice A9 m c9),Spec.eq (.string tj),Spec.eq (.string (⟨#[111,102,102,105,99,101,32]⟩++tj)),Spec.eq (.string (⟨#[111,102,102,105,99,101,32]⟩++tj))]
     (by kernel_rfl) (by kernel_rfl) rfl (by kernel_rfl) (Below.drew (Below.refl _ _)) ?_ ?_
    ·
     refine RegSteps.cons ?_ ?_
     ·intro _ az wz hC hF hD _ K hK
      clear hF hD
      refine want_none rfl ?_
      go_simp
      exact hK _ _ (Below.alloc hC hC.size _) (below_new _ _) ⟨_,rfl,hC.size,Own.new wz 9 [.string ⟨#[111,102,102,105,99,101,32]⟩,.string ⟨#[99,111,97,108,105,116,105,111,110,32]⟩]⟩
     refine RegSteps.cons ?_ ?_
     ·intro _ az wz hC hF hD _ K hK
      have q1:az.tmps[1]? = some (.pointer (some ⟨w.heap.size,0,none⟩)):=hF 1 rfl
      clear hF hD
      refine want_none rfl ?_
      go_simp
      exact hK _ _ hC (Below.refl _ _) rfl
     refine RegSteps.cons ?_ ?_
     ·intro _ az wz hC hF hD _ K hK
      obtain ⟨_,q34,rfl⟩:=dep hD 1 rfl rfl rfl rfl
      clear hF hD
      refine want_none rfl ?_
      go_simp
      exact hK _ _ hC (Below.refl _ _) rfl
     refine RegSteps.cons ?_ ?_
     ·intro _ az wz hC hF hD _ K hK
      obtain ⟨_,q35,rfl⟩:=dep hD 2 rfl rfl rfl rfl
      obtain ⟨⟨y0,y1,y2,y3,y4,y5,y6,y7,y8,y9,y10,y11,y12,y13⟩,_⟩:=(HA4.out.on hC).all14
      clear hF hD
      refine want_none rfl ?_
      go_simp
      exact hK _ _ hC (Below.refl _ _) rfl
     refine RegSteps.cons ?_ ?_
     ·intro _ az wz hC hF hD _ K hK
      obtain ⟨_,q33,x33,rfl,hx33⟩:=dep hD 0 rfl rfl rfl rfl
      obtain ⟨_,q36,rfl⟩:=dep hD 3 rfl rfl rfl rfl
      obtain ⟨hB33,hO33⟩:=hx33
      clear hF hD
      refine want_none rfl ?_
      go_simp
      exact hK _ _ hC (Below.refl _ _) ⟨x33,rfl,hO33⟩
     refine RegSteps.cons ?_ ?_
     ·intro _ az wz hC hF hD _ K hK
      obtain ⟨_,q37,x37,rfl,hx37⟩:=dep hD 4 rfl rfl rfl rfl
      have zc:=hx37.cell 0
      clear hF hD
      refine want_none rfl ?_
      go_simp
      exact hK _ _ hC (Below.refl _ _) rfl
     refine RegSteps.cons ?_ ?_
     ·intro _ az wz hC hF hD _ K hK
      have q6:az.tmps[6]? = some (.slice A9 m c9):=hF 6 rfl
      clear hF hD
      refine want_none rfl ?_
      go_simp
      exact hK _ _ hC (Below.refl _ _) rfl
     refine RegSteps.cons ?_ ?_
     ·intro _ az wz hC hF hD _ K hK
      obtain ⟨_,q39,rfl⟩:=dep hD 6 rfl rfl rfl rfl
      clear hF hD
      refine want_none rfl ?_
      go_simp
      refine (HJN.out _ hC).mono ?_
      rintro e wy ⟨rfl,k⟩
      exact hK _ _ (Below.call hC k) k rfl
     refine RegSteps.cons ?_ ?_
     ·intro _ az wz hC hF hD _ K hK
      obtain ⟨_,q38,rfl⟩:=dep hD 5 rfl rfl rfl rfl
      obtain ⟨_,q40,rfl⟩:=dep hD 7 rfl rfl rfl rfl
      have g_:¬ 9223372036854775807<7+tj.size:=by omega
      clear hF hD
      refine want_none rfl ?_
      go_simp
      try go_ints
      exact hK _ _ hC (Below.refl _ _) rfl
     refine RegSteps.cons ?_ ?_
     ·intro _ az wz hC hF hD _ K hK
      obtain ⟨_,q41,rfl⟩:=dep hD 8 rfl rfl rfl rfl
      clear hF hD
      refine want_none rfl ?_
      go_simp
      exact hK _ _ hC (Below.refl _ _) rfl
     exact RegSteps.nil
    intro w5 hC5
    rintro _ ⟨y33,rfl,_⟩ _ rfl _ rfl _ rfl _ ⟨y37,rfl,_⟩ _ rfl _ rfl _ rfl _ rfl _ rfl
    simp only [FinOK,Act.put,List.setIfInBounds_toArray,List.set_cons_zero,List.set_cons_succ]
    have HA5:=Lib.hid (HA4.out.on hC5)
    have HB5:=Lib.hid (Below.call HB4.out hC5)
    clear hC5
    try clear hx33
    obtain ⟨tv,htv⟩:∃ t:ByteArray,t=⟨#[111,102,102,105,99,101,32]⟩++tj:=⟨_,rfl⟩
    have hzv:tv.size≤150:=by rw [htv,ByteArray.size_append,lsz];simp only [List.length_cons,List.length_nil];omega
    have HTV:Hid (tv=⟨(Qy.vtext 0++Qy.join [44] (qo.map Lib.itoa)).toArray⟩):=Lib.hid (by
     rw [htv,← HTJ.out]
     exact txt_cat [111,102,102,105,99,101,32] _)
    rw [← htv]
    clear htv
    go_upto_region 13 with fail
    have HTb5:=Lib.hid (HT0.out.on HB5.out)
    have HRG:Hid (∀ wz,Below w5.heap.size w5 wz→IsReg wz QR (.agg #[.int .i64 n0,.string s1,.int .i64 n2,.int .i64 n3,.int .i64 n4,.int .i64 n5,.int .i64 n6,.int .i64 n7,.slice A8 l8 c8])):=Lib.hid fun wz kz=>HR.out.on (Below.call HB5.out kz)
    have g2:¬ 9223372036854775807<6+tk.size:=by omega
    have g3:¬ 9223372036854775807<6+tk.size+4:=by omega
    have g4:¬ 9223372036854775807<6+tk.size+4+tt.size:=by omega
    have g5:¬ 9223372036854775807<6+tk.size+4+tt.size+4:=by omega
    have g6:¬ 9223372036854775807<6+tk.size+4+tt.size+4+tv.size:=by omega
    have g7:¬ 9223372036854775807<6+tk.size+4+tt.size+4+tv.size+4:=by omega
    have g8:¬ 9223372036854775807<6+tk.size+4+tt.size+4+tv.size+4+td.size:=by omega
    have g9:¬ 9223372036854775807<6+tk.size+4+tt.size+4+tv.size+4+td.size+4:=by omega
    have g10:¬ 9223372036854775807<6+tk.size+4+tt.size+4+tv.size+4+td.size+4+ts.size:=by omega
    refine wp_region_specs w5 [Spec.eq (.pointer (some ⟨w.heap.size,0,none⟩)),Spec.eq (.int .i64 qk),Spec.eq (.string tk),Spec.eq (.string (⟨#[99,111,117,110,116,32]⟩++tk)),Spec.eq (.string (⟨#[99,111,117,110,116,32]⟩++tk++⟨#[32,111,102,32]⟩)),Spec.eq (.pointer (some ⟨w.heap.size,1,none⟩)),Spec.eq (.agg #[.int .i64 n0,.string s1,.int .i64 n2,.int .i64 n3,.int .i64 n4,.int .i64 n5,.int .i64 n6,.int .i64 n7,.slice A8 l8 c8]),Spec.eq (.string tt),Spec.eq (.string (⟨#[99,111,117,110,116,32]⟩++tk++⟨#[32,111,102,32]⟩++tt)),Spec.eq (.string (⟨#[99,111,117,110,116,32]⟩++tk++⟨#[32,111,102,32]⟩++tt++⟨#[32,105,110,32]⟩)),Spec.eq (.string (tv)),Spec.eq (.string (⟨#[99,111,117,110,116,32]⟩++tk++⟨#[32,111,102,32]⟩++tt++⟨#[32,105,110,32]⟩++tv)),Spec.eq (.string (⟨#[99,111,117,110,116,32]⟩++tk++⟨#[32,111,102,32]⟩++tt++⟨#[32,105,110,32]⟩++tv++⟨#[32,111,110,32]⟩)),Spec.eq (.pointer (some ⟨w.heap.size,12,none⟩)),Spec.eq (.int .i64 qd),Spec.eq (.string td),Spec.eq (.string (⟨#[99,111,117,110,116,32]⟩++tk++⟨#[32,111,102,32]⟩++tt++⟨#[32,105,110,32]⟩++tv++⟨#[32,111,110,32]⟩++td)),Spec.eq (.string (⟨#[99,111,117,110,116,32]⟩++tk++⟨#[32,111,102,32]⟩++tt++⟨#[32,105,110,32]⟩++tv++⟨#[32,111,110,32]⟩++td++⟨#[32,97,116,32]⟩)),Spec.eq (.pointer (some ⟨w.heap.size,13,none⟩)),Spec.eq (.int .i64 qs),Spec.eq (.string ts),Spec.eq (.string (⟨#[99,111,117,110,116,32]⟩++tk++⟨#[32,111,102,32]⟩++tt++⟨#[32,105,110,32]⟩++tv++⟨#[32,111,110,32]⟩++td++⟨#[32,97,116,32]⟩++ts)),Spec.eq (.string (⟨#[99,111,117,110,116,32]⟩++tk++⟨#[32,111,102,32]⟩++tt++⟨#[32,105,110,32]⟩++tv++⟨#[32,111,110,32]⟩++td++⟨#[32,97,116,32]⟩++ts))]
     (by kernel_rfl) (by kernel_rfl) rfl (by kernel_rfl) (Below.drew (Below.refl _ _)) ?_ ?_
    ·
     refine RegSteps.cons ?_ ?_
     ·intro _ az wz hC hF hD _ K hK
      have q1:az.tmps[1]? = some (.pointer (some ⟨w.heap.size,0,none⟩)):=hF 1 rfl
      clear hF hD
      refine want_none rfl ?_
      go_simp
      exact hK _ _ hC (Below.refl _ _) rfl
     refine RegSteps.cons ?_ ?_
     ·intro _ az wz hC hF hD _ K hK
      obtain ⟨_,q42,rfl⟩:=dep hD 0 rfl rfl rfl rfl
      obtain ⟨⟨y0,y1,y2,y3,y4,y5,y6,y7,y8,y9,y10,y11,y12,y13⟩,_⟩:=(HA5.out.on hC).all14
      clear hF hD
      refine want_none rfl ?_
      go_simp
      exact hK _ _ hC (Below.refl _ _) rfl
     refine RegSteps.cons ?_ ?_
     ·intro _ az wz hC hF hD _ K hK
      obtain ⟨_,q43,rfl⟩:=dep hD 1 rfl rfl rfl rfl
      clear hF hD
      refine want_none rfl ?_
      go_simp
      refine (HDk.out _ (HTb5.out.on hC)).mono ?_
      rintro e wy ⟨rfl,k⟩
      exact hK _ _ (Below.call hC k) k rfl
     refine RegSteps.cons ?_ ?_
     ·intro _ az wz hC hF hD _ K hK
      obtain ⟨_,q44,rfl⟩:=dep hD 2 rfl rfl rfl rfl
      clear hF hD
      refine want_none rfl ?_
      go_simp
      try go_ints
      exact hK _ _ hC (Below.refl _ _) rfl
     refine RegSteps.cons ?_ ?_
     ·intro _ az wz hC hF hD _ K hK
      obtain ⟨_,q45,rfl⟩:=dep hD 3 rfl rfl rfl rfl
      clear hF hD
      refine want_none rfl ?_
      go_simp
      try go_ints
      exact hK _ _ hC (Below.refl _ _) rfl
     refine RegSteps.cons ?_ ?_
     ·intro _ az wz hC hF hD _ K hK
      have q1:az.tmps[1]? = some (.pointer (some ⟨w.heap.size,0,none⟩)):=hF 1 rfl
      clear hF hD
      refine want_none rfl ?_
      go_simp
      exact hK _ _ hC (Below.refl _ _) rfl
     refine RegSteps.cons ?_ ?_
     ·intro _ az wz hC hF hD _ K hK
      obtain ⟨_,q47,rfl⟩:=dep hD 5 rfl rfl rfl rfl
      obtain ⟨⟨y0,y1,y2,y3,y4,y5,y6,y7,y8,y9,y10,y11,y12,y13⟩,_⟩:=(HA5.out.on hC).all14
      clear hF hD
      refine want_none rfl ?_
      go_simp
      exact hK _ _ hC (Below.refl _ _) rfl
     refine RegSteps.cons ?_ ?_
     ·intro _ az wz hC hF hD _ K hK
      obtain ⟨_,q48,rfl⟩:=dep hD 6 rfl rfl rfl rfl
      clear hF hD
      refine want_none rfl ?_
      go_simp
      refine (HTt.out _ _ (HTb5.out.on hC) (HRG.out _ hC)).mono ?_
      rintro e wy ⟨rfl,k⟩
      exact hK _ _ (Below.call hC k) k rfl
     refine RegSteps.cons ?_ ?_
     ·intro _ az wz hC hF hD _ K hK
      obtain ⟨_,q46,rfl⟩:=dep hD 4 rfl rfl rfl rfl
      obtain ⟨_,q49,rfl⟩:=dep hD 7 rfl rfl rfl rfl
      clear hF hD
      refine want_none rfl ?_
      go_simp
      try go_ints
      exact hK _ _ hC (Below.refl _ _) rfl
     refine RegSteps.cons ?_ ?_
     ·intro _ az wz hC hF hD _ K hK
      obtain ⟨_,q50,rfl⟩:=dep hD 8 rfl rfl rfl rfl
      clear hF hD
      refine want_none rfl ?_
      go_simp
      try go_ints
      exact hK _ _ hC (Below.refl _ _) rfl
     refine RegSteps.cons ?_ ?_
     ·intro _ az wz hC hF hD _ K hK
      have q5:az.tmps[5]? = some (.string (tv)):=hF 5 rfl
      clear hF hD
      refine want_none rfl ?_
      go_simp
      exact hK _ _ hC (Below.refl _ _) rfl
     refine RegSteps.cons ?_ ?_
     ·intro _ az wz hC hF hD _ K hK
      obtain ⟨_,q51,rfl⟩:=dep hD 9 rfl rfl rfl rfl
      obtain ⟨_,q52,rfl⟩:=dep hD 10 rfl rfl rfl rfl
      clear hF hD
      refine want_none rfl ?_
      go_simp
      try go_ints
      exact hK _ _ hC (Below.refl _ _) rfl
     refine RegSteps.cons ?_ ?_
     ·intro _ az wz hC hF hD _ K hK
      obtain ⟨_,q53,rfl⟩:=dep hD 11 rfl rfl rfl rfl
      clear hF hD
      refine want_none rfl ?_
      go_simp
      try go_ints
      exact hK _ _ hC (Below.refl _ _) rfl
     refine RegSteps.cons ?_ ?_
     ·intro _ az wz hC hF hD _ K hK
      have q1:az.tmps[1]? = some (.pointer (some ⟨w.heap.size,0,none⟩)):=hF 1 rfl
      clear hF hD
      refine want_none rfl ?_
      go_simp
      exact hK _ _ hC (Below.refl _ _) rfl
     refine RegSteps.cons ?_ ?_
     ·intro _ az wz hC hF hD _ K hK
      obtain ⟨_,q55,rfl⟩:=dep hD 13 rfl rfl rfl rfl
      obtain ⟨⟨y0,y1,y2,y3,y4,y5,y6,y7,y8,y9,y10,y11,y12,y13⟩,_⟩:=(HA5.out.on hC).all14
      clear hF hD
      refine want_none rfl ?_
      go_simp
      exact hK _ _ hC (Below.refl _ _) rfl
     refine RegSteps.cons ?_ ?_
     ·intro _ az wz hC hF hD _ K hK
      obtain ⟨_,q56,rfl⟩:=dep hD 14 rfl rfl rfl rfl
      clear hF hD
      refine want_none rfl ?_
      go_simp
      refine (HDd.out _ (HTb5.out.on hC)).mono ?_
      rintro e wy ⟨rfl,k⟩
      exact hK _ _ (Below.call hC k) k rfl
     refine RegSteps.cons ?_ ?_
     ·intro _ az wz hC hF hD _ K hK
      obtain ⟨_,q54,rfl⟩:=dep hD 12 rfl rfl rfl rfl
      obtain ⟨_,q57,rfl⟩:=dep hD 15 rfl rfl rfl rfl
      clear hF hD
      refine want_none rfl ?_
      go_simp
      try go_ints
      exact hK _ _ hC (Below.refl _ _) rfl
     refine RegSteps.cons ?_ ?_
     ·intro _ az wz hC hF hD _ K hK
      obtain ⟨_,q58,rfl⟩:=dep hD 16 rfl rfl rfl rfl
      clear hF hD
      refine want_none rfl ?_
      go_simp
      try go_ints
      exact hK _ _ hC (Below.refl _ _) rfl
     refine RegSteps.cons ?_ ?_
     ·intro _ az wz hC hF hD _ K hK
      have q1:az.tmps[1]? = some (.pointer (some ⟨w.heap.size,0,none⟩)):=hF 1 rfl
      clear hF hD
      refine want_none rfl ?_
      go_simp
      exact hK _ _ hC (Below.refl _ _) rfl
     refine RegSteps.cons ?_ ?_
     ·intro _ az wz hC hF hD _ K hK
      obtain ⟨_,q60,rfl⟩:=dep hD 18 rfl rfl rfl rfl
      obtain ⟨⟨y0,y1,y2,y3,y4,y5,y6,y7,y8,y9,y10,y11,y12,y13⟩,_⟩:=(HA5.out.on hC).all14
      clear hF hD
      refine want_none rfl ?_
      go_simp
      exact hK _ _ hC (Below.refl _ _) rfl
     refine RegSteps.cons ?_ ?_
     ·intro _ az wz hC hF hD _ K hK
      obtain ⟨_,q61,rfl⟩:=dep hD 19 rfl rfl rfl rfl
      clear hF hD
      refine want_none rfl ?_
      go_simp
      refine (HDs.out _ (HTb5.out.on hC)).mono ?_
      rintro e wy ⟨rfl,k⟩
      exact hK _ _ (Below.call hC k) k rfl
     refine RegSteps.cons ?_ ?_
     ·intro _ az wz hC hF hD _ K hK
      obtain ⟨_,q59,rfl⟩:=dep hD 17 rfl rfl rfl rfl
      obtain ⟨_,q62,rfl⟩:=dep hD 20 rfl rfl rfl rfl
      clear hF hD
      refine want_none rfl ?_
      go_simp
      try go_ints
      exact hK _ _ hC (Below.refl _ _) rfl
     refine RegSteps.cons ?_ ?_
     ·intro _ az wz hC hF hD _ K hK
      obtain ⟨_,q63,rfl⟩:=dep hD 21 rfl rfl rfl rfl
      clear hF hD
      refine want_none rfl ?_
      go_simp
      exact hK _ _ hC (Below.refl _ _) rfl
     exact RegSteps.nil
    intro w6 hC6
    rintro _ rfl _ rfl _ rfl _ rfl _ rfl _ rfl _ rfl _ rfl _ rfl _ rfl _ rfl _ rfl _ rfl _ rfl _ rfl _ rfl _ rfl _ rfl _ rfl _ rfl _ rfl _ rfl _ rfl
    simp only [FinOK,Act.put,List.setIfInBounds_toArray,List.set_cons_zero,List.set_cons_succ]
    have HFin:Hid (⟨#[99,111,117,110,116,32]⟩++tk++⟨#[32,111,102,32]⟩++tt++⟨#[32,105,110,32]⟩++tv++⟨#[32,111,110,32]⟩++td++⟨#[32,97,116,32]⟩++ts=⟨(Qy.printT ⟨qk,QR,0,qo,qd,qs⟩).toArray⟩):=Lib.hid (by rw [HTX.out.1,HTX.out.2.1,HTX.out.2.2.1,← HTX.out.2.2.2,HTV.out];exact str_eq (by simp [str_cat,Qy.printT,Qy.vtext]))
    have HLZ:Hid ((Qy.printT ⟨qk,QR,0,qo,qd,qs⟩).length=6+tk.size+4+tt.size+4+tv.size+4+td.size+4+ts.size):=Lib.hid (by
     have h8:=congrArg ByteArray.size HFin.out
     have h9:=lsz (Qy.printT ⟨qk,QR,0,qo,qd,qs⟩)
     rw [← h9,← h8]
     simp only [ByteArray.size_append,lsz,List.length_cons,List.length_nil])
    have HF:=Lib.hid (Below.call HB5.out hC6)
    clear hC6 g2 g3 g4 g5 g6 g7 g8 g9 g10
    by_cases hbig:4096<6+tk.size+4+tt.size+4+tv.size+4+td.size+4+ts.size
    ·have HP:Hid (Qy.printQ ⟨qk,QR,0,qo,qd,qs⟩=([],4)):=Lib.hid (by rw [HPQ.out,HLZ.out,if_pos hbig])
     have hfz2:(4096:Int)<((6+tk.size+4+tt.size+4+tv.size+4+td.size+4+ts.size:Nat):Int):=by omega
     clear hbig
     go_wp2
     go_returns
     exact ⟨by rw [HP.out] <;> rfl,HF.out⟩
    ·have HP:Hid (Qy.printQ ⟨qk,QR,0,qo,qd,qs⟩=(Qy.printT ⟨qk,QR,0,qo,qd,qs⟩,0)):=Lib.hid (by rw [HPQ.out,HLZ.out,if_neg hbig])
     have hfz2:¬ (4096:Int)<((6+tk.size+4+tt.size+4+tv.size+4+td.size+4+ts.size:Nat):Int):=by omega
     clear hbig
     go_wp2
     go_returns
     exact ⟨by rw [HP.out];show _=Ending.returned (.tuple #[.string ⟨(Qy.printT _).toArray⟩,.int .i64 0]);rw [← HFin.out];simp,HF.out⟩
 ·
  go_enter Tryz.func18,Tryz.ntmps18
  go_upto_region 1 with fail
  refine wp_new1 fun W0 hA hB=>?_
  have HA0:=Lib.hid hA
  obtain ⟨⟨y0,y1,y2,y3,y4,y5,y6,y7,y8,y9,y10,y11,y12,y13⟩,_⟩:=hA.all14
  clear hA
  go_wp2_with fail
  refine (HVd.out _ _ (HI0.out.on hB)).mono ?_
  rintro e w1 ⟨rfl,k1⟩
  have HB1:=Lib.hid (Below.call hB k1)
  have HA:=Lib.hid (HA0.out.on k1)
  clear k1 hB HA0 HVd HI0 y0 y1 y2 y3 y4 y5 y6 y7 y8 y9 y10 y11 y12 y13
  obtain ⟨⟨y0,y1,y2,y3,y4,y5,y6,y7,y8,y9,y10,y11,y12,y13⟩,_⟩:=HA.out.all14
  go_wp2_with fail
  clear y0 y1 y2 y3 y4 y5 y6 y7 y8 y9 y10 y11 y12 y13
  go_loopw [6,23] (fun s6 s23 wr=>∃ i:Nat,i≤vl∧s23=.int .i64 (i:Int)∧wr.ownsRow (w.heap.size+1) 9 1 s6 i (itoaC qo i)∧Own wr w.heap.size 48 [.int .i64 qk,.int .i64 n0,.string s1,.int .i64 n2,.int .i64 n3,.int .i64 n4,.int .i64 n5,.int .i64 n6,.int .i64 n7,.slice A8 l8 c8,.int .i64 1,.slice vA vl vc,.int .i64 qd,.int .i64 qs]∧Below w.heap.size w wr) (fun _ s _=>vl - (intOf s).toNat)
  case atStart=>exact ⟨0,Nat.zero_le _,rfl,World.ownsRow_nil _ _ _ 1,HA.out,HB1.out⟩
  case round=>
   obtain ⟨i,hi,rfl,hrow,hA,hB⟩:=hrel
   clear HB1 HA
   rcases Nat.lt_or_eq_of_le hi with hlt | heq
   ·have i1:(i:Int)<(vl:Int):=by omega
    obtain ⟨g,off,rfl,hgl,hc⟩:=HVW.out.1.get (by have:=HM.out;omega)
    obtain ⟨z,hz⟩:∃ z,qo[i]? = some z:=⟨_,List.getElem?_eq_getElem (by have:=HM.out;omega)⟩
    have x1:=(World.cell?_of_block (a:=⟨g,off+i,none⟩) (hB.block g hgl)).trans (hc i z hz)
    have zr:=HVW.out.2.2 z (List.mem_of_getElem? hz)
    obtain ⟨tz,htz1,htz2,HDz⟩:=HDO.out z zr.1 (by omega)
    have HC:=Lib.hid (HDz wr (HT0.out.on hB))
    have HSt:=Lib.hid (And.intro (itoas_step hz) htz1)
    have HS:=Lib.hid (And.intro hrow (And.intro hA hB))
    clear hrow hA hB hc hgl hz zr htz1 HDz
    go_wp2_with fail
    refine HC.out.mono ?_
    rintro e w3 ⟨rfl,k3⟩
    have HS3:=Lib.hid (And.intro (owns_below HS.out.1 k3) (And.intro (HS.out.2.1.on k3) (Below.call HS.out.2.2 k3)))
    clear k3 HS HC x1
    have kn:=below_new w3 (.cells #[.string tz] 9)
    have q2:=owns_below HS3.out.1 kn
    have HO:=own_news (Own.new w3 9 [.string tz])
    have one1:∀ u∈[Value.string tz],u.oneCell'=true:=by simp [Value.oneCell']
    have HKn:=Lib.hid (And.intro kn (HS3.out.2.1.on kn))
    have hwz:=HS3.out.2.1.lt
    clear kn
    obtain ⟨i0_,hi_,hz0,hz1,hz2⟩:=info_parts str_infoQ
    go_wp2_with (at_builtin;refine wpList_pushO _ rfl _ _ 43 rfl 9 i0_ (.string ⟨#[]⟩) 1 16 Tryz.underlying43 hi_ hz0 hz1 hz2 rfl (by decide) (w.heap.size+1) _ _ _ rfl q2 ⟨w3.heap.size,0,none⟩ 1 [.string tz] rfl rfl HO one1 ?c4 ?c5 ?c6 ?_)
    case c4=>unfold maxLen;omega
    case c5=>omega
    case c6=>simp;omega
    intro v' w7 hrow3 hgrow hv'
    rw [HSt.out.2,← HSt.out.1] at hrow3
    have hB7:=below_row HS3.out.2.2 HKn.out.1 (owns_baseV HS3.out.1 (Nat.le_add_right _ 1)) hgrow
    have hA7:Own w7 w.heap.size 48 [.int .i64 qk,.int .i64 n0,.string s1,.int .i64 n2,.int .i64 n3,.int .i64 n4,.int .i64 n5,.int .i64 n6,.int .i64 n7,.slice A8 l8 c8,.int .i64 1,.slice (some ⟨g,off,none⟩) vl vc,.int .i64 qd,.int .i64 qs]:=HKn.out.2.grown hgrow (fun e=>by have h9:=(HS3.out.1.lt _ e.symm).1;omega)
    have HS7:=Lib.hid (And.intro hrow3 (And.intro hA7 hB7))
    clear hrow3 hgrow hv' q2 HO one1 hi_ hz0 hz1 hz2 hB7 hA7 HS3
    clear i0_
    go_wp2_with fail
    go_roundw
    case rel=>exact ⟨i+1,by omega,by go_num,HS7.out.1,HS7.out.2.1,HS7.out.2.2⟩
    case measure=>simp [intOf];omega
   ·subst heq
    obtain ⟨A9,c9,hv0⟩:=owns_slice hrow
    subst hv0
    have hrow2:wr.ownsRow (w.heap.size+1) 9 1 (.slice A9 i c9) i (cellsS (qo.map Lib.itoa)):=by
     have h9:=hrow
     unfold itoaC at h9
     rw [List.take_of_length_le (by have:=HM.out;omega)] at h9
     exact h9
    obtain ⟨w4,hw4⟩:∃ w4,w4=wr:=⟨_,rfl⟩
    subst hw4
    have hls:(qo.map Lib.itoa).length=i:=by rw [List.length_map];exact HM.out
    obtain ⟨m,hmi⟩:∃ m,m=i:=⟨_,rfl⟩
    subst hmi
    obtain ⟨tj,htj⟩:∃ t:ByteArray,⟨(Qy.join [44] (qo.map Lib.itoa)).toArray⟩=t:=⟨_,rfl⟩
    have hzj:tj.size≤128:=by rw [← htj,lsz];exact HJL.out
    have HJN:Hid (∀ wz,Below w4.heap.size w4 wz→Calls Tryz.prog 48 #[.slice A9 m c9,.string ⟨#[44]⟩] wz fun e w'=>e=.returned (.string tj)∧Below wz.heap.size wz w'):=Lib.hid fun wz kz=>by
     obtain ⟨A',c',e',hJ⟩:=joinRow (owns_below hrow2 kz) hls (by omega) [44] (by have:=HJL.out;omega)
     cases e'
     rw [← htj]
     exact hJ
    have HTJ:=Lib.hid htj
    have HA4:=Lib.hid hA
    have HB4:=Lib.hid hB
    clear hrow hrow2 hls htj hA hB
    go_upto_region 12 with fail
    refine wp_region_specs w4 [sOwn w4.heap.size 2 9 ([.string ⟨#[111,102,102,105,99,101,32]⟩,.string ⟨#[99,111,97,108,105,116,105,111,110,32]⟩]),Spec.eq (.pointer (some ⟨w.heap.size,10,none⟩)),Spec.eq (.pointer (some ⟨w.heap.size,10,none⟩)),Spec.eq (.int .i64 1),sWd 1 ([.string ⟨#[111,102,102,105,99,101,32]⟩,.string ⟨#[99,111,97,108,105,116,105,111,110,32]⟩]),Spec.eq (.string ⟨#[99,111,97,108,105,116,105,111,110,32]⟩),Spec.eq (.slice A9 m c9),Spec.eq (.string tj),Spec.eq (.string (⟨#[99,111,97,108,105,116,105,111,110,32]⟩++tj)),Spec.eq (.string (⟨#[99,111,97,108,105,116,105,111,110,32]⟩++tj))]
     (by kernel_rfl) (by kernel_rfl) rfl (by kernel_rfl) (Below.drew (Below.refl _ _)) ?_ ?_
    ·
     refine RegSteps.cons ?_ ?_
     ·intro _ az wz hC hF hD _ K hK
      clear hF hD
      refine want_none rfl ?_
      go_simp
      exact hK _ _ (Below.alloc hC hC.size _) (below_new _ _) ⟨_,rfl,hC.size,Own.new wz 9 [.string ⟨#[111,102,102,105,99,101,32]⟩,.string ⟨#[99,111,97,108,105,116,105,111,110,32]⟩]⟩
     refine RegSteps.cons ?_ ?_
     ·intro _ az wz hC hF hD _ K hK
      have q1:az.tmps[1]? = some (.pointer (some ⟨w.heap.size,0,none⟩)):=hF 1 rfl
      clear hF hD
      refine want_none rfl ?_
      go_simp
      exact hK _ _ hC (Below.refl _ _) rfl
     refine RegSteps.cons ?_ ?_
     ·intro _ az wz hC hF hD _ K hK
      obtain ⟨_,q34,rfl⟩:=dep hD 1 rfl rfl rfl rfl
      clear hF hD
      refine want_none rfl ?_
      go_simp
      exact hK _ _ hC (Below.refl _ _) rfl
     refine RegSteps.cons ?_ ?_
     ·intro _ az wz hC hF hD _ K hK
      obtain ⟨_,q35,rfl⟩:=dep hD 2 rfl rfl rfl rfl
      obtain ⟨⟨y0,y1,y2,y3,y4,y5,y6,y7,y8,y9,y10,y11,y12,y13⟩,_⟩:=(HA4.out.on hC).all14
      clear hF hD
      refine want_none rfl ?_
      go_simp
      exact hK _ _ hC (Below.refl _ _) rfl
     refine RegSteps.cons ?_ ?_
     ·intro _ az wz hC hF hD _ K hK
      obtain ⟨_,q33,x33,rfl,hx33⟩:=dep hD 0 rfl rfl rfl rfl
      obtain ⟨_,q36,rfl⟩:=dep hD 3 rfl rfl rfl rfl
      obtain ⟨hB33,hO33⟩:=hx33
      clear hF hD
      refine want_none rfl ?_
      go_simp
      exact hK _ _ hC (Below.refl _ _) ⟨x33,rfl,hO33⟩
     refine RegSteps.cons ?_ ?_
     ·intro _ az wz hC hF hD _ K hK
      obtain ⟨_,q37,x37,rfl,hx37⟩:=dep hD 4 rfl rfl rfl rfl
      have zc:=hx37.cell 1
      clear hF hD
      refine want_none rfl ?_
      go_simp
      exact hK _ _ hC (Below.refl _ _) rfl
     refine RegSteps.cons ?_ ?_
     ·intro _ az wz hC hF hD _ K hK
      have q6:az.tmps[6]? = some (.slice A9 m c9):=hF 6 rfl
      clear hF hD
      refine want_none rfl ?_
      go_simp
      exact hK _ _ hC (Below.refl _ _) rfl
     refine RegSteps.cons ?_ ?_
     ·intro _ az wz hC hF hD _ K hK
      obtain ⟨_,q39,rfl⟩:=dep hD 6 rfl rfl rfl rfl
      clear hF hD
      refine want_none rfl ?_
      go_simp
      refine (HJN.out _ hC).mono ?_
      rintro e wy ⟨rfl,k⟩
      exact hK _ _ (Below.call hC k) k rfl
     refine RegSteps.cons ?_ ?_
     ·intro _ az wz hC hF hD _ K hK
      obtain ⟨_,q38,rfl⟩:=dep hD 5 rfl rfl rfl rfl
      obtain ⟨_,q40,rfl⟩:=dep hD 7 rfl rfl rfl rfl
      have g_:¬ 9223372036854775807<10+tj.size:=by omega
      clear hF hD
      refine want_none rfl ?_
      go_simp
      try go_ints
      exact hK _ _ hC (Below.refl _ _) rfl
     refine RegSteps.cons ?_ ?_
     ·intro _ az wz hC hF hD _ K hK
      obtain ⟨_,q41,rfl⟩:=dep hD 8 rfl rfl rfl rfl
      clear hF hD
      refine want_none rfl ?_
      go_simp
      exact hK _ _ hC (Below.refl _ _) rfl
     exact RegSteps.nil
    intro w5 hC5
    rintro _ ⟨y33,rfl,_⟩ _ rfl _ rfl _ rfl _ ⟨y37,rfl,_⟩ _ rfl _ rfl _ rfl _ rfl _ rfl
    simp only [FinOK,Act.put,List.setIfInBounds_toArray,List.set_cons_zero,List.set_cons_succ]
    have HA5:=Lib.hid (HA4.out.on hC5)
    have HB5:=Lib.hid (Below.call HB4.out hC5)
    clear hC5
    try clear hx33
    obtain ⟨tv,htv⟩:∃ t:ByteArray,t=⟨#[99,111,97,108,105,116,105,111,110,32]⟩++tj:=⟨_,rfl⟩
    have hzv:tv.size≤150:=by rw [htv,ByteArray.size_append,lsz];simp only [List.length_cons,List.length_nil];omega
    have HTV:Hid (tv=⟨(Qy.vtext 1++Qy.join [44] (qo.map Lib.itoa)).toArray⟩):=Lib.hid (by
     rw [htv,← HTJ.out]
     exact txt_cat [99,111,97,108,105,116,105,111,110,32] _)
    rw [← htv]
    clear htv
    go_upto_region 13 with fail
    have HTb5:=Lib.hid (HT0.out.on HB5.out)
    have HRG:Hid (∀ wz,Below w5.heap.size w5 wz→IsReg wz QR (.agg #[.int .i64 n0,.string s1,.int .i64 n2,.int .i64 n3,.int .i64 n4,.int .i64 n5,.int .i64 n6,.int .i64 n7,.slice A8 l8 c8])):=Lib.hid fun wz kz=>HR.out.on (Below.call HB5.out kz)
    have g2:¬ 9223372036854775807<6+tk.size:=by omega
    have g3:¬ 9223372036854775807<6+tk.size+4:=by omega
    have g4:¬ 9223372036854775807<6+tk.size+4+tt.size:=by omega
    have g5:¬ 9223372036854775807<6+tk.size+4+tt.size+4:=by omega
    have g6:¬ 9223372036854775807<6+tk.size+4+tt.size+4+tv.size:=by omega
    have g7:¬ 9223372036854775807<6+tk.size+4+tt.size+4+tv.size+4:=by omega
    have g8:¬ 9223372036854775807<6+tk.size+4+tt.size+4+tv.size+4+td.size:=by omega
    have g9:¬ 9223372036854775807<6+tk.size+4+tt.size+4+tv.size+4+td.size+4:=by omega
    have g10:¬ 9223372036854775807<6+tk.size+4+tt.size+4+tv.size+4+td.size+4+ts.size:=by omega
    refine wp_region_specs w5 [Spec.eq (.pointer (some ⟨w.heap.size,0,none⟩)),Spec.eq (.int .i64 qk),Spec.eq (.string tk),Spec.eq (.string (⟨#[99,111,117,110,116,32]⟩++tk)),Spec.eq (.string (⟨#[99,111,117,110,116,32]⟩++tk++⟨#[32,111,102,32]⟩)),Spec.eq (.pointer (some ⟨w.heap.size,1,none⟩)),Spec.eq (.agg #[.int .i64 n0,.string s1,.int .i64 n2,.int .i64 n3,.int .i64 n4,.int .i64 n5,.int .i64 n6,.int .i64 n7,.slice A8 l8 c8]),Spec.eq (.string tt),Spec.eq (.string (⟨#[99,111,117,110,116,32]⟩++tk++⟨#[32,111,102,32]⟩++tt)),Spec.eq (.string (⟨#[99,111,117,110,116,32]⟩++tk++⟨#[32,111,102,32]⟩++tt++⟨#[32,105,110,32]⟩)),Spec.eq (.string (tv)),Spec.eq (.string (⟨#[99,111,117,110,116,32]⟩++tk++⟨#[32,111,102,32]⟩++tt++⟨#[32,105,110,32]⟩++tv)),Spec.eq (.string (⟨#[99,111,117,110,116,32]⟩++tk++⟨#[32,111,102,32]⟩++tt++⟨#[32,105,110,32]⟩++tv++⟨#[32,111,110,32]⟩)),Spec.eq (.pointer (some ⟨w.heap.size,12,none⟩)),Spec.eq (.int .i64 qd),Spec.eq (.string td),Spec.eq (.string (⟨#[99,111,117,110,116,32]⟩++tk++⟨#[32,111,102,32]⟩++tt++⟨#[32,105,110,32]⟩++tv++⟨#[32,111,110,32]⟩++td)),Spec.eq (.string (⟨#[99,111,117,110,116,32]⟩++tk++⟨#[32,111,102,32]⟩++tt++⟨#[32,105,110,32]⟩++tv++⟨#[32,111,110,32]⟩++td++⟨#[32,97,116,32]⟩)),Spec.eq (.pointer (some ⟨w.heap.size,13,none⟩)),Spec.eq (.int .i64 qs),Spec.eq (.string ts),Spec.eq (.string (⟨#[99,111,117,110,116,32]⟩++tk++⟨#[32,111,102,32]⟩++tt++⟨#[32,105,110,32]⟩++tv++⟨#[32,111,110,32]⟩++td++⟨#[32,97,116,32]⟩++ts)),Spec.eq (.string (⟨#[99,111,117,110,116,32]⟩++tk++⟨#[32,111,102,32]⟩++tt++⟨#[32,105,110,32]⟩++tv++⟨#[32,111,110,32]⟩++td++⟨#[32,97,116,32]⟩++ts))]
     (by kernel_rfl) (by kernel_rfl) rfl (by kernel_rfl) (Below.drew (Below.refl _ _)) ?_ ?_
    ·
     refine RegSteps.cons ?_ ?_
     ·intro _ az wz hC hF hD _ K hK
      have q1:az.tmps[1]? = some (.pointer (some ⟨w.heap.size,0,none⟩)):=hF 1 rfl
      clear hF hD
      refine want_none rfl ?_
      go_simp
      exact hK _ _ hC (Below.refl _ _) rfl
     refine RegSteps.cons ?_ ?_
     ·intro _ az wz hC hF hD _ K hK
      obtain ⟨_,q42,rfl⟩:=dep hD 0 rfl rfl rfl rfl
      obtain ⟨⟨y0,y1,y2,y3,y4,y5,y6,y7,y8,y9,y10,y11,y12,y13⟩,_⟩:=(HA5.out.on hC).all14
      clear hF hD
      refine want_none rfl ?_
      go_simp
      exact hK _ _ hC (Below.refl _ _) rfl
     refine RegSteps.cons ?_ ?_
     ·intro _ az wz hC hF hD _ K hK
      obtain ⟨_,q43,rfl⟩:=dep hD 1 rfl rfl rfl rfl
      clear hF hD
      refine want_none rfl ?_
      go_simp
      refine (HDk.out _ (HTb5.out.on hC)).mono ?_
      rintro e wy ⟨rfl,k⟩
      exact hK _ _ (Below.call hC k) k rfl
     refine RegSteps.cons ?_ ?_
     ·intro _ az wz hC hF hD _ K hK
      obtain ⟨_,q44,rfl⟩:=dep hD 2 rfl rfl rfl rfl
      clear hF hD
      refine want_none rfl ?_
      go_simp
      try go_ints
      exact hK _ _ hC (Below.refl _ _) rfl
     refine RegSteps.cons ?_ ?_
     ·intro _ az wz hC hF hD _ K hK
      obtain ⟨_,q45,rfl⟩:=dep hD 3 rfl rfl rfl rfl
      clear hF hD
      refine want_none rfl ?_
      go_simp
      try go_ints
      exact hK _ _ hC (Below.refl _ _) rfl
     refine RegSteps.cons ?_ ?_
     ·intro _ az wz hC hF hD _ K hK
      have q1:az.tmps[1]? = some (.pointer (some ⟨w.heap.size,0,none⟩)):=hF 1 rfl
      clear hF hD
      refine want_none rfl ?_
      go_simp
      exact hK _ _ hC (Below.refl _ _) rfl
     refine RegSteps.cons ?_ ?_
     ·intro _ az wz hC hF hD _ K hK
      obtain ⟨_,q47,rfl⟩:=dep hD 5 rfl rfl rfl rfl
      obtain ⟨⟨y0,y1,y2,y3,y4,y5,y6,y7,y8,y9,y10,y11,y12,y13⟩,_⟩:=(HA5.out.on hC).all14
      clear hF hD
      refine want_none rfl ?_
      go_simp
      exact hK _ _ hC (Below.refl _ _) rfl
     refine RegSteps.cons ?_ ?_
     ·intro _ az wz hC hF hD _ K hK
      obtain ⟨_,q48,rfl⟩:=dep hD 6 rfl rfl rfl rfl
      clear hF hD
      refine want_none rfl ?_
      go_simp
      refine (HTt.out _ _ (HTb5.out.on hC) (HRG.out _ hC)).mono ?_
      rintro e wy ⟨rfl,k⟩
      exact hK _ _ (Below.call hC k) k rfl
     refine RegSteps.cons ?_ ?_
     ·intro _ az wz hC hF hD _ K hK
      obtain ⟨_,q46,rfl⟩:=dep hD 4 rfl rfl rfl rfl
      obtain ⟨_,q49,rfl⟩:=dep hD 7 rfl rfl rfl rfl
      clear hF hD
      refine want_none rfl ?_
      go_simp
      try go_ints
      exact hK _ _ hC (Below.refl _ _) rfl
     refine RegSteps.cons ?_ ?_
     ·intro _ az wz hC hF hD _ K hK
      obtain ⟨_,q50,rfl⟩:=dep hD 8 rfl rfl rfl rfl
      clear hF hD
      refine want_none rfl ?_
      go_simp
      try go_ints
      exact hK _ _ hC (Below.refl _ _) rfl
     refine RegSteps.cons ?_ ?_
     ·intro _ az wz hC hF hD _ K hK
      have q5:az.tmps[5]? = some (.string (tv)):=hF 5 rfl
      clear hF hD
      refine want_none rfl ?_
      go_simp
      exact hK _ _ hC (Below.refl _ _) rfl
     refine RegSteps.cons ?_ ?_
     ·intro _ az wz hC hF hD _ K hK
      obtain ⟨_,q51,rfl⟩:=dep hD 9 rfl rfl rfl rfl
      obtain ⟨_,q52,rfl⟩:=dep hD 10 rfl rfl rfl rfl
      clear hF hD
      refine want_none rfl ?_
      go_simp
      try go_ints
      exact hK _ _ hC (Below.refl _ _) rfl
     refine RegSteps.cons ?_ ?_
     ·intro _ az wz hC hF hD _ K hK
      obtain ⟨_,q53,rfl⟩:=dep hD 11 rfl rfl rfl rfl
      clear hF hD
      refine want_none rfl ?_
      go_simp
      try go_ints
      exact hK _ _ hC (Below.refl _ _) rfl
     refine RegSteps.cons ?_ ?_
     ·intro _ az wz hC hF hD _ K hK
      have q1:az.tmps[1]? = some (.pointer (some ⟨w.heap.size,0,none⟩)):=hF 1 rfl
      clear hF hD
      refine want_none rfl ?_
      go_simp
      exact hK _ _ hC (Below.refl _ _) rfl
     refine RegSteps.cons ?_ ?_
     ·intro _ az wz hC hF hD _ K hK
      obtain ⟨_,q55,rfl⟩:=dep hD 13 rfl rfl rfl rfl
      obtain ⟨⟨y0,y1,y2,y3,y4,y5,y6,y7,y8,y9,y10,y11,y12,y13⟩,_⟩:=(HA5.out.on hC).all14
      clear hF hD
      refine want_none rfl ?_
      go_simp
      exact hK _ _ hC (Below.refl _ _) rfl
     refine RegSteps.cons ?_ ?_
     ·intro _ az wz hC hF hD _ K hK
      obtain ⟨_,q56,rfl⟩:=dep hD 14 rfl rfl rfl rfl
      clear hF hD
      refine want_none rfl ?_
      go_simp
      refine (HDd.out _ (HTb5.out.on hC)).mono ?_
      rintro e wy ⟨rfl,k⟩
      exact hK _ _ (Below.call hC k) k rfl
     refine RegSteps.cons ?_ ?_
     ·intro _ az wz hC hF hD _ K hK
      obtain ⟨_,q54,rfl⟩:=dep hD 12 rfl rfl rfl rfl
      obtain ⟨_,q57,rfl⟩:=dep hD 15 rfl rfl rfl rfl
      clear hF hD
      refine want_none rfl ?_
      go_simp
      try go_ints
      exact hK _ _ hC (Below.refl _ _) rfl
     refine RegSteps.cons ?_ ?_
     ·intro _ az wz hC hF hD _ K hK
      obtain ⟨_,q58,rfl⟩:=dep hD 16 rfl rfl rfl rfl
      clear hF hD
      refine want_none rfl ?_
      go_simp
      try go_ints
      exact hK _ _ hC (Below.refl _ _) rfl
     refine RegSteps.cons ?_ ?_
     ·intro _ az wz hC hF hD _ K hK
      have q1:az.tmps[1]? = some (.pointer (some ⟨w.heap.size,0,none⟩)):=hF 1 rfl
      clear hF hD
      refine want_none rfl ?_
      go_simp
      exact hK _ _ hC (Below.refl _ _) rfl
     refine RegSteps.cons ?_ ?_
     ·intro _ az wz hC hF hD _ K hK
      obtain ⟨_,q60,rfl⟩:=dep hD 18 rfl rfl rfl rfl
      obtain ⟨⟨y0,y1,y2,y3,y4,y5,y6,y7,y8,y9,y10,y11,y12,y13⟩,_⟩:=(HA5.out.on hC).all14
      clear hF hD
      refine want_none rfl ?_
      go_simp
      exact hK _ _ hC (Below.refl _ _) rfl
     refine RegSteps.cons ?_ ?_
     ·intro _ az wz hC hF hD _ K hK
      obtain ⟨_,q61,rfl⟩:=dep hD 19 rfl rfl rfl rfl
      clear hF hD
      refine want_none rfl ?_
      go_simp
      refine (HDs.out _ (HTb5.out.on hC)).mono ?_
      rintro e wy ⟨rfl,k⟩
      exact hK _ _ (Below.call hC k) k rfl
     refine RegSteps.cons ?_ ?_
     ·intro _ az wz hC hF hD _ K hK
      obtain ⟨_,q59,rfl⟩:=dep hD 17 rfl rfl rfl rfl
      obtain ⟨_,q62,rfl⟩:=dep hD 20 rfl rfl rfl rfl
      clear hF hD
      refine want_none rfl ?_
      go_simp
      try go_ints
      exact hK _ _ hC (Below.refl _ _) rfl
     refine RegSteps.cons ?_ ?_
     ·intro _ az wz hC hF hD _ K hK
      obtain ⟨_,q63,rfl⟩:=dep hD 21 rfl rfl rfl rfl
      clear hF hD
      refine want_none rfl ?_
      go_simp
      exact hK _ _ hC (Below.refl _ _) rfl
     exact RegSteps.nil
    intro w6 hC6
    rintro _ rfl _ rfl _ rfl _ rfl _ rfl _ rfl _ rfl _ rfl _ rfl _ rfl _ rfl _ rfl _ rfl _ rfl _ rfl _ rfl _ rfl _ rfl _ rfl _ rfl _ rfl _ rfl _ rfl
    simp only [FinOK,Act.put,List.setIfInBounds_toArray,List.set_cons_zero,List.set_cons_succ]
    have HFin:Hid (⟨#[99,111,117,110,116,32]⟩++tk++⟨#[32,111,102,32]⟩++tt++⟨#[32,105,110,32]⟩++tv++⟨#[32,111,110,32]⟩++td++⟨#[32,97,116,32]⟩++ts=⟨(Qy.printT ⟨qk,QR,1,qo,qd,qs⟩).toArray⟩):=Lib.hid (by rw [HTX.out.1,HTX.out.2.1,HTX.out.2.2.1,← HTX.out.2.2.2,HTV.out];exact str_eq (by simp [str_cat,Qy.printT,Qy.vtext]))
    have HLZ:Hid ((Qy.printT ⟨qk,QR,1,qo,qd,qs⟩).length=6+tk.size+4+tt.size+4+tv.size+4+td.size+4+ts.size):=Lib.hid (by
     have h8:=congrArg ByteArray.size HFin.out
     have h9:=lsz (Qy.printT ⟨qk,QR,1,qo,qd,qs⟩)
     rw [← h9,← h8]
     simp only [ByteArray.size_append,lsz,List.length_cons,List.length_nil])
    have HF:=Lib.hid (Below.call HB5.out hC6)
    clear hC6 g2 g3 g4 g5 g6 g7 g8 g9 g10
    by_cases hbig:4096<6+tk.size+4+tt.size+4+tv.size+4+td.size+4+ts.size
    ·have HP:Hid (Qy.printQ ⟨qk,QR,1,qo,qd,qs⟩=([],4)):=Lib.hid (by rw [HPQ.out,HLZ.out,if_pos hbig])
     have hfz2:(4096:Int)<((6+tk.size+4+tt.size+4+tv.size+4+td.size+4+ts.size:Nat):Int):=by omega
     clear hbig
     go_wp2
     go_returns
     exact ⟨by rw [HP.out] <;> rfl,HF.out⟩
    ·have HP:Hid (Qy.printQ ⟨qk,QR,1,qo,qd,qs⟩=(Qy.printT ⟨qk,QR,1,qo,qd,qs⟩,0)):=Lib.hid (by rw [HPQ.out,HLZ.out,if_neg hbig])
     have hfz2:¬ (4096:Int)<((6+tk.size+4+tt.size+4+tv.size+4+td.size+4+ts.size:Nat):Int):=by omega
     clear hbig
     go_wp2
     go_returns
     exact ⟨by rw [HP.out];show _=Ending.returned (.tuple #[.string ⟨(Qy.printT _).toArray⟩,.int .i64 0]);rw [← HFin.out];simp,HF.out⟩
 ·
  go_enter Tryz.func18,Tryz.ntmps18
  go_upto_region 1 with fail
  refine wp_new1 fun W0 hA hB=>?_
  have HA0:=Lib.hid hA
  obtain ⟨⟨y0,y1,y2,y3,y4,y5,y6,y7,y8,y9,y10,y11,y12,y13⟩,_⟩:=hA.all14
  clear hA
  go_wp2_with fail
  refine (HVd.out _ _ (HI0.out.on hB)).mono ?_
  rintro e w1 ⟨rfl,k1⟩
  have HB1:=Lib.hid (Below.call hB k1)
  have HA:=Lib.hid (HA0.out.on k1)
  clear k1 hB HA0 HVd HI0 y0 y1 y2 y3 y4 y5 y6 y7 y8 y9 y10 y11 y12 y13
  obtain ⟨⟨y0,y1,y2,y3,y4,y5,y6,y7,y8,y9,y10,y11,y12,y13⟩,_⟩:=HA.out.all14
  obtain ⟨w5,hw5⟩:∃ w5,w5=w1:=⟨_,rfl⟩
  subst hw5
  have HA5:=HA
  have HB5:=HB1
  go_upto_region 13 with fail
  clear y0 y1 y2 y3 y4 y5 y6 y7 y8 y9 y10 y11 y12 y13
  have HTb5:=Lib.hid (HT0.out.on HB5.out)
  have HRG:Hid (∀ wz,Below w5.heap.size w5 wz→IsReg wz QR (.agg #[.int .i64 n0,.string s1,.int .i64 n2,.int .i64 n3,.int .i64 n4,.int .i64 n5,.int .i64 n6,.int .i64 n7,.slice A8 l8 c8])):=Lib.hid fun wz kz=>HR.out.on (Below.call HB5.out kz)
  have g2:¬ 9223372036854775807<6+tk.size:=by omega
  have g3:¬ 9223372036854775807<6+tk.size+4:=by omega
  have g4:¬ 9223372036854775807<6+tk.size+4+tt.size:=by omega
  have g5:¬ 9223372036854775807<6+tk.size+4+tt.size+4:=by omega
  have g6:¬ 9223372036854775807<6+tk.size+4+tt.size+4+7:=by omega
  have g7:¬ 9223372036854775807<6+tk.size+4+tt.size+4+7+4:=by omega
  have g8:¬ 9223372036854775807<6+tk.size+4+tt.size+4+7+4+td.size:=by omega
  have g9:¬ 9223372036854775807<6+tk.size+4+tt.size+4+7+4+td.size+4:=by omega
  have g10:¬ 9223372036854775807<6+tk.size+4+tt.size+4+7+4+td.size+4+ts.size:=by omega
  refine wp_region_specs w5 [Spec.eq (.pointer (some ⟨w.heap.size,0,none⟩)),Spec.eq (.int .i64 qk),Spec.eq (.string tk),Spec.eq (.string (⟨#[99,111,117,110,116,32]⟩++tk)),Spec.eq (.string (⟨#[99,111,117,110,116,32]⟩++tk++⟨#[32,111,102,32]⟩)),Spec.eq (.pointer (some ⟨w.heap.size,1,none⟩)),Spec.eq (.agg #[.int .i64 n0,.string s1,.int .i64 n2,.int .i64 n3,.int .i64 n4,.int .i64 n5,.int .i64 n6,.int .i64 n7,.slice A8 l8 c8]),Spec.eq (.string tt),Spec.eq (.string (⟨#[99,111,117,110,116,32]⟩++tk++⟨#[32,111,102,32]⟩++tt)),Spec.eq (.string (⟨#[99,111,117,110,116,32]⟩++tk++⟨#[32,111,102,32]⟩++tt++⟨#[32,105,110,32]⟩)),Spec.eq (.string ⟨#[99,111,110,116,114,111,108]⟩),Spec.eq (.string (⟨#[99,111,117,110,116,32]⟩++tk++⟨#[32,111,102,32]⟩++tt++⟨#[32,105,110,32]⟩++⟨#[99,111,110,116,114,111,108]⟩)),Spec.eq (.string (⟨#[99,111,117,110,116,32]⟩++tk++⟨#[32,111,102,32]⟩++tt++⟨#[32,105,110,32]⟩++⟨#[99,111,110,116,114,111,108]⟩++⟨#[32,111,110,32]⟩)),Spec.eq (.pointer (some ⟨w.heap.size,12,none⟩)),Spec.eq (.int .i64 qd),Spec.eq (.string td),Spec.eq (.string (⟨#[99,111,117,110,116,32]⟩++tk++⟨#[32,111,102,32]⟩++tt++⟨#[32,105,110,32]⟩++⟨#[99,111,110,116,114,111,108]⟩++⟨#[32,111,110,32]⟩++td)),Spec.eq (.string (⟨#[99,111,117,110,116,32]⟩++tk++⟨#[32,111,102,32]⟩++tt++⟨#[32,105,110,32]⟩++⟨#[99,111,110,116,114,111,108]⟩++⟨#[32,111,110,32]⟩++td++⟨#[32,97,116,32]⟩)),Spec.eq (.pointer (some ⟨w.heap.size,13,none⟩)),Spec.eq (.int .i64 qs),Spec.eq (.string ts),Spec.eq (.string (⟨#[99,111,117,110,116,32]⟩++tk++⟨#[32,111,102,32]⟩++tt++⟨#[32,105,110,32]⟩++⟨#[99,111,110,116,114,111,108]⟩++⟨#[32,111,110,32]⟩++td++⟨#[32,97,116,32]⟩++ts)),Spec.eq (.string (⟨#[99,111,117,110,116,32]⟩++tk++⟨#[32,111,102,32]⟩++tt++⟨#[32,105,110,32]⟩++⟨#[99,111,110,116,114,111,108]⟩++⟨#[32,111,110,32]⟩++td++⟨#[32,97,116,32]⟩++ts))]
   (by kernel_rfl) (by kernel_rfl) rfl (by kernel_rfl) (Below.drew (Below.refl _ _)) ?_ ?_
  ·
   refine RegSteps.cons ?_ ?_
   ·intro _ az wz hC hF hD _ K hK
    have q1:az.tmps[1]? = some (.pointer (some ⟨w.heap.size,0,none⟩)):=hF 1 rfl
    clear hF hD
    refine want_none rfl ?_
    go_simp
    exact hK _ _ hC (Below.refl _ _) rfl
   refine RegSteps.cons ?_ ?_
   ·intro _ az wz hC hF hD _ K hK
    obtain ⟨_,q42,rfl⟩:=dep hD 0 rfl rfl rfl rfl
    obtain ⟨⟨y0,y1,y2,y3,y4,y5,y6,y7,y8,y9,y10,y11,y12,y13⟩,_⟩:=(HA5.out.on hC).all14
    clear hF hD
    refine want_none rfl ?_
    go_simp
    exact hK _ _ hC (Below.refl _ _) rfl
   refine RegSteps.cons ?_ ?_
   ·intro _ az wz hC hF hD _ K hK
    obtain ⟨_,q43,rfl⟩:=dep hD 1 rfl rfl rfl rfl
    clear hF hD
    refine want_none rfl ?_
    go_simp
    refine (HDk.out _ (HTb5.out.on hC)).mono ?_
    rintro e wy ⟨rfl,k⟩
    exact hK _ _ (Below.call hC k) k rfl
   refine RegSteps.cons ?_ ?_
   ·intro _ az wz hC hF hD _ K hK
    obtain ⟨_,q44,rfl⟩:=dep hD 2 rfl rfl rfl rfl
    clear hF hD
    refine want_none rfl ?_
    go_simp
    try go_ints
    exact hK _ _ hC (Below.refl _ _) rfl
   refine RegSteps.cons ?_ ?_
   ·intro _ az wz hC hF hD _ K hK
    obtain ⟨_,q45,rfl⟩:=dep hD 3 rfl rfl rfl rfl
    clear hF hD
    refine want_none rfl ?_
    go_simp
    try go_ints
    exact hK _ _ hC (Below.refl _ _) rfl
   refine RegSteps.cons ?_ ?_
   ·intro _ az wz hC hF hD _ K hK
    have q1:az.tmps[1]? = some (.pointer (some ⟨w.heap.size,0,none⟩)):=hF 1 rfl
    clear hF hD
    refine want_none rfl ?_
    go_simp
    exact hK _ _ hC (Below.refl _ _) rfl
   refine RegSteps.cons ?_ ?_
   ·intro _ az wz hC hF hD _ K hK
    obtain ⟨_,q47,rfl⟩:=dep hD 5 rfl rfl rfl rfl
    obtain ⟨⟨y0,y1,y2,y3,y4,y5,y6,y7,y8,y9,y10,y11,y12,y13⟩,_⟩:=(HA5.out.on hC).all14
    clear hF hD
    refine want_none rfl ?_
    go_simp
    exact hK _ _ hC (Below.refl _ _) rfl
   refine RegSteps.cons ?_ ?_
   ·intro _ az wz hC hF hD _ K hK
    obtain ⟨_,q48,rfl⟩:=dep hD 6 rfl rfl rfl rfl
    clear hF hD
    refine want_none rfl ?_
    go_simp
    refine (HTt.out _ _ (HTb5.out.on hC) (HRG.out _ hC)).mono ?_
    rintro e wy ⟨rfl,k⟩
    exact hK _ _ (Below.call hC k) k rfl
   refine RegSteps.cons ?_ ?_
   ·intro _ az wz hC hF hD _ K hK
    obtain ⟨_,q46,rfl⟩:=dep hD 4 rfl rfl rfl rfl
    obtain ⟨_,q49,rfl⟩:=dep hD 7 rfl rfl rfl rfl
    clear hF hD
    refine want_none rfl ?_
    go_simp
    try go_ints
    exact hK _ _ hC (Below.refl _ _) rfl
   refine RegSteps.cons ?_ ?_
   ·intro _ az wz hC hF hD _ K hK
    obtain ⟨_,q50,rfl⟩:=dep hD 8 rfl rfl rfl rfl
    clear hF hD
    refine want_none rfl ?_
    go_simp
    try go_ints
    exact hK _ _ hC (Below.refl _ _) rfl
   refine RegSteps.cons ?_ ?_
   ·intro _ az wz hC hF hD _ K hK
    have q5:az.tmps[5]? = some (.string ⟨#[99,111,110,116,114,111,108]⟩):=hF 5 rfl
    clear hF hD
    refine want_none rfl ?_
    go_simp
    exact hK _ _ hC (Below.refl _ _) rfl
   refine RegSteps.cons ?_ ?_
   ·intro _ az wz hC hF hD _ K hK
    obtain ⟨_,q51,rfl⟩:=dep hD 9 rfl rfl rfl rfl
    obtain ⟨_,q52,rfl⟩:=dep hD 10 rfl rfl rfl rfl
    clear hF hD
    refine want_none rfl ?_
    go_simp
    try go_ints
    exact hK _ _ hC (Below.refl _ _) rfl
   refine RegSteps.cons ?_ ?_
   ·intro _ az wz hC hF hD _ K hK
    obtain ⟨_,q53,rfl⟩:=dep hD 11 rfl rfl rfl rfl
    clear hF hD
    refine want_none rfl ?_
    go_simp
    try go_ints
    exact hK _ _ hC (Below.refl _ _) rfl
   refine RegSteps.cons ?_ ?_
   ·intro _ az wz hC hF hD _ K hK
    have q1:az.tmps[1]? = some (.pointer (some ⟨w.heap.size,0,none⟩)):=hF 1 rfl
    clear hF hD
    refine want_none rfl ?_
    go_simp
    exact hK _ _ hC (Below.refl _ _) rfl
   refine RegSteps.cons ?_ ?_
   ·intro _ az wz hC hF hD _ K hK
    obtain ⟨_,q55,rfl⟩:=dep hD 13 rfl rfl rfl rfl
    obtain ⟨⟨y0,y1,y2,y3,y4,y5,y6,y7,y8,y9,y10,y11,y12,y13⟩,_⟩:=(HA5.out.on hC).all14
    clear hF hD
    refine want_none rfl ?_
    go_simp
    exact hK _ _ hC (Below.refl _ _) rfl
   refine RegSteps.cons ?_ ?_
   ·intro _ az wz hC hF hD _ K hK
    obtain ⟨_,q56,rfl⟩:=dep hD 14 rfl rfl rfl rfl
    clear hF hD
    refine want_none rfl ?_
    go_simp
    refine (HDd.out _ (HTb5.out.on hC)).mono ?_
    rintro e wy ⟨rfl,k⟩
    exact hK _ _ (Below.call hC k) k rfl
   refine RegSteps.cons ?_ ?_
   ·intro _ az wz hC hF hD _ K hK
    obtain ⟨_,q54,rfl⟩:=dep hD 12 rfl rfl rfl rfl
    obtain ⟨_,q57,rfl⟩:=dep hD 15 rfl rfl rfl rfl
    clear hF hD
    refine want_none rfl ?_
    go_simp
    try go_ints
    exact hK _ _ hC (Below.refl _ _) rfl
   refine RegSteps.cons ?_ ?_
   ·intro _ az wz hC hF hD _ K hK
    obtain ⟨_,q58,rfl⟩:=dep hD 16 rfl rfl rfl rfl
    clear hF hD
    refine want_none rfl ?_
    go_simp
    try go_ints
    exact hK _ _ hC (Below.refl _ _) rfl
   refine RegSteps.cons ?_ ?_
   ·intro _ az wz hC hF hD _ K hK
    have q1:az.tmps[1]? = some (.pointer (some ⟨w.heap.size,0,none⟩)):=hF 1 rfl
    clear hF hD
    refine want_none rfl ?_
    go_simp
    exact hK _ _ hC (Below.refl _ _) rfl
   refine RegSteps.cons ?_ ?_
   ·intro _ az wz hC hF hD _ K hK
    obtain ⟨_,q60,rfl⟩:=dep hD 18 rfl rfl rfl rfl
    obtain ⟨⟨y0,y1,y2,y3,y4,y5,y6,y7,y8,y9,y10,y11,y12,y13⟩,_⟩:=(HA5.out.on hC).all14
    clear hF hD
    refine want_none rfl ?_
    go_simp
    exact hK _ _ hC (Below.refl _ _) rfl
   refine RegSteps.cons ?_ ?_
   ·intro _ az wz hC hF hD _ K hK
    obtain ⟨_,q61,rfl⟩:=dep hD 19 rfl rfl rfl rfl
    clear hF hD
    refine want_none rfl ?_
    go_simp
    refine (HDs.out _ (HTb5.out.on hC)).mono ?_
    rintro e wy ⟨rfl,k⟩
    exact hK _ _ (Below.call hC k) k rfl
   refine RegSteps.cons ?_ ?_
   ·intro _ az wz hC hF hD _ K hK
    obtain ⟨_,q59,rfl⟩:=dep hD 17 rfl rfl rfl rfl
    obtain ⟨_,q62,rfl⟩:=dep hD 20 rfl rfl rfl rfl
    clear hF hD
    refine want_none rfl ?_
    go_simp
    try go_ints
    exact hK _ _ hC (Below.refl _ _) rfl
   refine RegSteps.cons ?_ ?_
   ·intro _ az wz hC hF hD _ K hK
    obtain ⟨_,q63,rfl⟩:=dep hD 21 rfl rfl rfl rfl
    clear hF hD
    refine want_none rfl ?_
    go_simp
    exact hK _ _ hC (Below.refl _ _) rfl
   exact RegSteps.nil
  intro w6 hC6
  rintro _ rfl _ rfl _ rfl _ rfl _ rfl _ rfl _ rfl _ rfl _ rfl _ rfl _ rfl _ rfl _ rfl _ rfl _ rfl _ rfl _ rfl _ rfl _ rfl _ rfl _ rfl _ rfl _ rfl
  simp only [FinOK,Act.put,List.setIfInBounds_toArray,List.set_cons_zero,List.set_cons_succ]
  have HFin:Hid (⟨#[99,111,117,110,116,32]⟩++tk++⟨#[32,111,102,32]⟩++tt++⟨#[32,105,110,32]⟩++⟨#[99,111,110,116,114,111,108]⟩++⟨#[32,111,110,32]⟩++td++⟨#[32,97,116,32]⟩++ts=⟨(Qy.printT ⟨qk,QR,2,qo,qd,qs⟩).toArray⟩):=Lib.hid (by rw [HTX.out.1,HTX.out.2.1,HTX.out.2.2.1,← HTX.out.2.2.2];exact str_eq (by simp [str_cat,Qy.printT,Qy.vtext,List.eq_nil_of_length_eq_zero HM.out,Qy.join]))
  have HLZ:Hid ((Qy.printT ⟨qk,QR,2,qo,qd,qs⟩).length=6+tk.size+4+tt.size+4+7+4+td.size+4+ts.size):=Lib.hid (by
   have h8:=congrArg ByteArray.size HFin.out
   have h9:=lsz (Qy.printT ⟨qk,QR,2,qo,qd,qs⟩)
   rw [← h9,← h8]
   simp only [ByteArray.size_append,lsz,List.length_cons,List.length_nil])
  have HF:=Lib.hid (Below.call HB5.out hC6)
  clear hC6 g2 g3 g4 g5 g6 g7 g8 g9 g10
  by_cases hbig:4096<6+tk.size+4+tt.size+4+7+4+td.size+4+ts.size
  ·have HP:Hid (Qy.printQ ⟨qk,QR,2,qo,qd,qs⟩=([],4)):=Lib.hid (by rw [HPQ.out,HLZ.out,if_pos hbig])
   have hfz2:(4096:Int)<((6+tk.size+4+tt.size+4+7+4+td.size+4+ts.size:Nat):Int):=by omega
   clear hbig
   go_wp2
   go_returns
   exact ⟨by rw [HP.out] <;> rfl,HF.out⟩
  ·have HP:Hid (Qy.printQ ⟨qk,QR,2,qo,qd,qs⟩=(Qy.printT ⟨qk,QR,2,qo,qd,qs⟩,0)):=Lib.hid (by rw [HPQ.out,HLZ.out,if_neg hbig])
   have hfz2:¬ (4096:Int)<((6+tk.size+4+tt.size+4+7+4+td.size+4+ts.size:Nat):Int):=by omega
   clear hbig
   go_wp2
   go_returns
   exact ⟨by rw [HP.out];show _=Ending.returned (.tuple #[.string ⟨(Qy.printT _).toArray⟩,.int .i64 0]);rw [← HFin.out];simp,HF.out⟩
end Go.Proofs.YtmlpibdincfgbaaGreatDoor
