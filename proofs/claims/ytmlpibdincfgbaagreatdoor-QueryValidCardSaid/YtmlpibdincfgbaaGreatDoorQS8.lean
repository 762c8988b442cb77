/-
  Chapter 38's reference: the errors of regions, of any.
  Chapter 38's reference: the errors of views and queries, of any; what Print gives for any query.
-/
import Derived.Test.YtmlpibdincfgbaaGreatDoorQS2
namespace Go.Proofs.YtmlpibdincfgbaaGreatDoor
open Go.RowKit
set_option linter.unusedSimpArgs false
set_option linter.unusedVariables false
set_option maxRecDepth 100000 in
set_option maxHeartbeats 6400000 in
theorem rnode_any:∀ (n:Nat) (R:Qy.Reg),Qy.nodes R≤n→n≤1000000→∀ (v:Value) (w:World),IsReg w R v→Calls Tryz.prog 60 #[v] w (RetInt w (Qy.nodeE R)):=by
 intro n
 induction n with
 | zero=>intro R h;have:=Qy.nodes_pos R;omega
 | succ n ih=>
  intro R hn hN v w hv
  obtain ⟨cs,rfl,hR⟩:=hv
  obtain ⟨k,nm,ax,ay,b0,b1,b2,b3,kids⟩:=R
  rw [RegAt] at hR
  obtain ⟨A,c,rfl,hK⟩:=hR
  have HIH:Hid (∀ R∈kids,∀ (v:Value) (w:World),IsReg w R v→Calls Tryz.prog 60 #[v] w (RetInt w (Qy.nodeE R))):=Lib.hid fun R hR=>ih R (by have:=Qy.nodes_kid (k:=k) (nm:=nm) (ax:=ax) (ay:=ay) (b0:=b0) (b1:=b1) (b2:=b2) (b3:=b3) hR;omega) (by omega)
  have hml:=Qy.len_nodesL kids
  have hml2:kids.length≤n:=by rw [Qy.nodes] at hn;omega
  obtain ⟨E,hE⟩:∃ E,Qy.nodeE (.mk k nm ax ay b0 b1 b2 b3 kids)=E:=⟨_,rfl⟩
  rw [hE]
  rw [Qy.nodeE_eq] at hE
  obtain ⟨m,hm⟩:∃ m,kids.length=m:=⟨_,rfl⟩
  have HM:=Lib.hid hm
  rw [hm] at hE
  have HE:=Lib.hid hE
  rw [hm] at hml hml2 ⊢
  have HK:=Lib.hid hK
  clear hm ih hn hml hE hK
  have hp0:Qy.ptOK 0 0=true:=by decide
  have hx0:Qy.boxOK 0 0 0 0=true:=by decide
  have HP0:=Lib.hid (And.intro hp0 hx0)
  clear hp0 hx0
  rcases (by omega:k=0∨k=1∨k=2∨k=3∨k=4∨k=5∨k=6∨(k<0∨6<k)) with rfl | rfl | rfl | rfl | rfl | rfl | rfl | hko
  ·
   go_enter Tryz.func60,Tryz.ntmps60
   go_upto_region 1 with fail
   refine wp_new1 fun W0 hA hB=>?_
   have HB:=Lib.hid hB
   clear hB
   obtain ⟨⟨y0,y1,y2,y3,y4,y5,y6,y7,y8⟩,_⟩:=hA.all9
   have HA:=Lib.hid hA
   clear hA
   by_cases hm:m=0
   rotate_left
   ·
    have hm0:0<m:=by omega
    have HF:Hid (E=1):=Lib.hid (by rw [← HE.out];simp [Qy.nodeF,hm])
    go_wp2
    go_returns
    exact ⟨by rw [HF.out];simp,HB.out⟩
   subst hm
   by_cases hnm:nm=[]
   rotate_left
   ·
    have hs1:((bs nm).toList==[])=false:=by rw [bs_toList];simpa using hnm
    have hs2:((bs nm).toList != [])=true:=by rw [bne,hs1];rfl
    have HF:Hid (E=1):=Lib.hid (by rw [← HE.out];simp [Qy.nodeF,hnm])
    go_wp2
    go_returns
    exact ⟨by rw [HF.out];simp,HB.out⟩
   subst hnm
   have hs1:((bs []).toList==[])=true:=by rw [bs_toList];rfl
   have hs2:((bs []).toList != [])=false:=by rw [bs_toList];rfl
   by_cases hv:ax=0
   rotate_left
   ·
    have HF:Hid (E=1):=Lib.hid (by rw [← HE.out];simp [Qy.nodeF,hv])
    go_wp2
    go_returns
    exact ⟨by rw [HF.out];simp,HB.out⟩
   subst hv
   by_cases hv:ay=0
   rotate_left
   ·
    have HF:Hid (E=1):=Lib.hid (by rw [← HE.out];simp [Qy.nodeF,hv])
    go_wp2
    go_returns
    exact ⟨by rw [HF.out];simp,HB.out⟩
   subst hv
   by_cases hv:b0=0
   rotate_left
   ·
    have HF:Hid (E=1):=Lib.hid (by rw [← HE.out];simp [Qy.nodeF,hv])
    go_wp2
    go_returns
    exact ⟨by rw [HF.out];simp,HB.out⟩
   subst hv
   by_cases hv:b1=0
   rotate_left
   ·
    have HF:Hid (E=1):=Lib.hid (by rw [← HE.out];simp [Qy.nodeF,hv])
    go_wp2
    go_returns
    exact ⟨by rw [HF.out];simp,HB.out⟩
   subst hv
   by_cases hv:b2=0
   rotate_left
   ·
    have HF:Hid (E=1):=Lib.hid (by rw [← HE.out];simp [Qy.nodeF,hv])
    go_wp2
    go_returns
    exact ⟨by rw [HF.out];simp,HB.out⟩
   subst hv
   by_cases hv:b3=0
   rotate_left
   ·
    have HF:Hid (E=1):=Lib.hid (by rw [← HE.out];simp [Qy.nodeF,hv])
    go_wp2
    go_returns
    exact ⟨by rw [HF.out];simp,HB.out⟩
   subst hv
   have HG1:=Lib.hid fun u=>Good_any 0 0 u
   have HG2:=Lib.hid fun u=>GoodBox_any 0 0 0 0 u
   rw [goodV_pt] at HG1
   rw [goodB_box] at HG2
   rw [HP0.out.1,if_pos rfl] at HG1
   rw [HP0.out.2,if_pos rfl] at HG2
   have HF:Hid (E=Qy.nodesE kids):=Lib.hid (by rw [← HE.out];simp [Qy.nodeF,HP0.out.1,HP0.out.2])
   go_wp2_with fail
   refine (HG1.out _).mono ?_
   rintro e w2 ⟨rfl,k2⟩
   clear y0 y1 y2 y3 y4 y5 y6 y7 y8
   obtain ⟨⟨y0,y1,y2,y3,y4,y5,y6,y7,y8⟩,_⟩:=(HA.out.on k2).all9
   have HX:=Lib.hid (And.intro (HA.out.on k2) (Below.call HB.out k2))
   clear k2
   go_wp2_with fail
   refine (HG2.out _).mono ?_
   rintro e w3 ⟨rfl,k3⟩
   clear y0 y1 y2 y3 y4 y5 y6 y7 y8
   have HY:=Lib.hid (And.intro (HX.out.1.on k3) (Below.call HX.out.2 k3))
   clear k3
   go_wp2_with fail
   go_loopw [3] (fun s wr=>∃ i:Nat,i≤0∧s=.int .i64 (i:Int)∧(∀ R∈kids.take i,Qy.nodeE R=0)∧Own wr w.heap.size 32 [.int .i64 0,.string (bs []),.int .i64 0,.int .i64 0,.int .i64 0,.int .i64 0,.int .i64 0,.int .i64 0,.slice A 0 c]∧Below w.heap.size w wr) (fun s _=>0 - (intOf s).toNat)
   case atStart=>exact ⟨0,Nat.zero_le _,rfl,by simp,HY.out.1,HY.out.2⟩
   case round=>
    obtain ⟨i,hi,rfl,hall,hA,hB⟩:=hrel
    have y8:=hA.cell 8
    have HALL:=Lib.hid hall
    clear hall
    rcases Nat.lt_or_eq_of_le hi with hlt | heq
    ·omega
    ·subst heq
     have HN0:Hid (Qy.nodesE kids=0):=Lib.hid (Qy.nodesE_all (by have h9:=HALL.out;rwa [List.take_of_length_le (by have:=HM.out;omega)] at h9))
     have HS:=Lib.hid hB
     clear hA hB
     go_wp2
     go_returns
     exact ⟨by rw [HF.out,HN0.out];simp,HS.out⟩
  ·
   go_enter Tryz.func60,Tryz.ntmps60
   go_upto_region 1 with fail
   refine wp_new1 fun W0 hA hB=>?_
   have HB:=Lib.hid hB
   clear hB
   obtain ⟨⟨y0,y1,y2,y3,y4,y5,y6,y7,y8⟩,_⟩:=hA.all9
   have HA:=Lib.hid hA
   clear hA
   by_cases hm:m=0
   rotate_left
   ·
    have hm0:0<m:=by omega
    have HF:Hid (E=1):=Lib.hid (by rw [← HE.out];simp [Qy.nodeF,hm])
    go_wp2
    go_returns
    exact ⟨by rw [HF.out];simp,HB.out⟩
   subst hm
   by_cases hv:ax=0
   rotate_left
   ·
    have HF:Hid (E=1):=Lib.hid (by rw [← HE.out];simp [Qy.nodeF,hv])
    go_wp2
    go_returns
    exact ⟨by rw [HF.out];simp,HB.out⟩
   subst hv
   by_cases hv:ay=0
   rotate_left
   ·
    have HF:Hid (E=1):=Lib.hid (by rw [← HE.out];simp [Qy.nodeF,hv])
    go_wp2
    go_returns
    exact ⟨by rw [HF.out];simp,HB.out⟩
   subst hv
   by_cases hv:b0=0
   rotate_left
   ·
    have HF:Hid (E=1):=Lib.hid (by rw [← HE.out];simp [Qy.nodeF,hv])
    go_wp2
    go_returns
    exact ⟨by rw [HF.out];simp,HB.out⟩
   subst hv
   by_cases hv:b1=0
   rotate_left
   ·
    have HF:Hid (E=1):=Lib.hid (by rw [← HE.out];simp [Qy.nodeF,hv])
    go_wp2
    go_returns
    exact ⟨by rw [HF.out];simp,HB.out⟩
   subst hv
   by_cases hv:b2=0
   rotate_left
   ·
    have HF:Hid (E=1):=Lib.hid (by rw [← HE.out];simp [Qy.nodeF,hv])
    go_wp2
    go_returns
    exact ⟨by rw [HF.out];simp,HB.out⟩
   subst hv
   by_cases hv:b3=0
   rotate_left
   ·
    have HF:Hid (E=1):=Lib.hid (by rw [← HE.out];simp [Qy.nodeF,hv])
    go_wp2
    go_returns
    exact ⟨by rw [HF.out];simp,HB.out⟩
   subst hv
   have HG1:=Lib.hid fun u=>Good_any 0 0 u
   have HG2:=Lib.hid fun u=>GoodBox_any 0 0 0 0 u
   rw [goodV_pt] at HG1
   rw [goodB_box] at HG2
   rw [HP0.out.1,if_pos rfl] at HG1
   rw [HP0.out.2,if_pos rfl] at HG2
   obtain ⟨nok,hnok⟩:∃ b,Qy.nameOK nm=b:=⟨_,rfl⟩
   have HNm:=Lib.hid fun u=>named_any nm u
   rw [hnok] at HNm
   cases nok
   ·
    have HF:Hid (E=6):=Lib.hid (by rw [← HE.out];simp [Qy.nodeF,hnok])
    clear hnok HG1 HG2
    go_wp2_with fail
    refine (HNm.out _).mono ?_
    rintro e w2 ⟨rfl,e_⟩
    subst e_
    go_wp2
    go_returns
    exact ⟨by rw [HF.out];simp,HB.out⟩
   have HF:Hid (E=Qy.nodesE kids):=Lib.hid (by rw [← HE.out];simp [Qy.nodeF,HP0.out.1,HP0.out.2,hnok])
   clear hnok
   go_wp2_with fail
   refine (HNm.out _).mono ?_
   rintro e w1 ⟨rfl,e_⟩
   subst e_
   go_wp2_with fail
   refine (HG1.out _).mono ?_
   rintro e w2 ⟨rfl,k2⟩
   clear y0 y1 y2 y3 y4 y5 y6 y7 y8
   obtain ⟨⟨y0,y1,y2,y3,y4,y5,y6,y7,y8⟩,_⟩:=(HA.out.on k2).all9
   have HX:=Lib.hid (And.intro (HA.out.on k2) (Below.call HB.out k2))
   clear k2
   go_wp2_with fail
   refine (HG2.out _).mono ?_
   rintro e w3 ⟨rfl,k3⟩
   clear y0 y1 y2 y3 y4 y5 y6 y7 y8
   have HY:=Lib.hid (And.intro (HX.out.1.on k3) (Below.call HX.out.2 k3))
   clear k3
   go_wp2_with fail
   go_loopw [3] (fun s wr=>∃ i:Nat,i≤0∧s=.int .i64 (i:Int)∧(∀ R∈kids.take i,Qy.nodeE R=0)∧Own wr w.heap.size 32 [.int .i64 1,.string (bs nm),.int .i64 0,.int .i64 0,.int .i64 0,.int .i64 0,.int .i64 0,.int .i64 0,.slice A 0 c]∧Below w.heap.size w wr) (fun s _=>0 - (intOf s).toNat)
   case atStart=>exact ⟨0,Nat.zero_le _,rfl,by simp,HY.out.1,HY.out.2⟩
   case round=>
    obtain ⟨i,hi,rfl,hall,hA,hB⟩:=hrel
    have y8:=hA.cell 8
    have HALL:=Lib.hid hall
    clear hall
    rcases Nat.lt_or_eq_of_le hi with hlt | heq
    ·omega
    ·subst heq
     have HN0:Hid (Qy.nodesE kids=0):=Lib.hid (Qy.nodesE_all (by have h9:=HALL.out;rwa [List.take_of_length_le (by have:=HM.out;omega)] at h9))
     have HS:=Lib.hid hB
     clear hA hB
     go_wp2
     go_returns
     exact ⟨by rw [HF.out,HN0.out];simp,HS.out⟩
  ·
   go_enter Tryz.func60,Tryz.ntmps60
   go_upto_region 1 with fail
   refine wp_new1 fun W0 hA hB=>?_
   have HB:=Lib.hid hB
   clear hB
   obtain ⟨⟨y0,y1,y2,y3,y4,y5,y6,y7,y8⟩,_⟩:=hA.all9
   have HA:=Lib.hid hA
   clear hA
   by_cases hm:m=0
   rotate_left
   ·
    have hm0:0<m:=by omega
    have HF:Hid (E=1):=Lib.hid (by rw [← HE.out];simp [Qy.nodeF,hm])
    go_wp2
    go_returns
    exact ⟨by rw [HF.out];simp,HB.out⟩
   subst hm
   by_cases hnm:nm=[]
   rotate_left
   ·
    have hs1:((bs nm).toList==[])=false:=by rw [bs_toList];simpa using hnm
    have hs2:((bs nm).toList != [])=true:=by rw [bne,hs1];rfl
    have HF:Hid (E=1):=Lib.hid (by rw [← HE.out];simp [Qy.nodeF,hnm])
    go_wp2
    go_returns
    exact ⟨by rw [HF.out];simp,HB.out⟩
   subst hnm
   have hs1:((bs []).toList==[])=true:=by rw [bs_toList];rfl
   have hs2:((bs []).toList != [])=false:=by rw [bs_toList];rfl
   by_cases hv:b0=0
   rotate_left
   ·
    have HF:Hid (E=1):=Lib.hid (by rw [← HE.out];simp [Qy.nodeF,hv])
    go_wp2
    go_returns
    exact ⟨by rw [HF.out];simp,HB.out⟩
   subst hv
   by_cases hv:b1=0
   rotate_left
   ·
    have HF:Hid (E=1):=Lib.hid (by rw [← HE.out];simp [Qy.nodeF,hv])
    go_wp2
    go_returns
    exact ⟨by rw [HF.out];simp,HB.out⟩
   subst hv
   by_cases hv:b2=0
   rotate_left
   ·
    have HF:Hid (E=1):=Lib.hid (by rw [← HE.out];simp [Qy.nodeF,hv])
    go_wp2
    go_returns
    exact ⟨by rw [HF.out];simp,HB.out⟩
   subst hv
   by_cases hv:b3=0
   rotate_left
   ·
    have HF:Hid (E=1):=Lib.hid (by rw [← HE.out];simp [Qy.nodeF,hv])
    go_wp2
    go_returns
    exact ⟨by rw [HF.out];simp,HB.out⟩
   subst hv
   have HG1:=Lib.hid fun u=>Good_any ax ay u
   have HG2:=Lib.hid fun u=>GoodBox_any 0 0 0 0 u
   rw [goodV_pt] at HG1
   rw [goodB_box] at HG2
   rw [HP0.out.2,if_pos rfl] at HG2
   cases hpt:Qy.ptOK ax ay
   ·
    rw [hpt,if_neg (by simp)] at HG1
    have HF:Hid (E=5):=Lib.hid (by rw [← HE.out];simp [Qy.nodeF,hpt])
    clear hpt HG2
    go_wp2_with fail
    refine (HG1.out _).mono ?_
    rintro e w2 ⟨rfl,k2⟩
    have HB2:=Lib.hid (Below.call HB.out k2)
    clear k2
    go_wp2
    go_returns
    exact ⟨by rw [HF.out];simp,HB2.out⟩
   rw [hpt,if_pos rfl] at HG1
   have HF:Hid (E=Qy.nodesE kids):=Lib.hid (by rw [← HE.out];simp [Qy.nodeF,HP0.out.1,HP0.out.2,hpt])
   clear hpt
   go_wp2_with fail
   refine (HG1.out _).mono ?_
   rintro e w2 ⟨rfl,k2⟩
   clear y0 y1 y2 y3 y4 y5 y6 y7 y8
   obtain ⟨⟨y0,y1,y2,y3,y4,y5,y6,y7,y8⟩,_⟩:=(HA.out.on k2).all9
   have HX:=Lib.hid (And.intro (HA.out.on k2) (Below.call HB.out k2))
   clear k2
   go_wp2_with fail
   refine (HG2.out _).mono ?_
   rintro e w3 ⟨rfl,k3⟩
   clear y0 y1 y2 y3 y4 y5 y6 y7 y8
   have HY:=Lib.hid (And.intro (HX.out.1.on k3) (Below.call HX.out.2 k3))
   clear k3
   go_wp2_with fail
   go_loopw [3] (fun s wr=>∃ i:Nat,i≤0∧s=.int .i64 (i:Int)∧(∀ R∈kids.take i,Qy.nodeE R=0)∧Own wr w.heap.size 32 [.int .i64 2,.string (bs []),.int .i64 ax,.int .i64 ay,.int .i64 0,.int .i64 0,.int .i64 0,.int .i64 0,.slice A 0 c]∧Below w.heap.size w wr) (fun s _=>0 - (intOf s).toNat)
   case atStart=>exact ⟨0,Nat.zero_le _,rfl,by simp,HY.out.1,HY.out.2⟩
   case round=>
    obtain ⟨i,hi,rfl,hall,hA,hB⟩:=hrel
    have y8:=hA.cell 8
    have HALL:=Lib.hid hall
    clear hall
    rcases Nat.lt_or_eq_of_le hi with hlt | heq
    ·omega
    ·subst heq
     have HN0:Hid (Qy.nodesE kids=0):=Lib.hid (Qy.nodesE_all (by have h9:=HALL.out;rwa [List.take_of_length_le (by have:=HM.out;omega)] at h9))
     have HS:=Lib.hid hB
     clear hA hB
     go_wp2
     go_returns
     exact ⟨by rw [HF.out,HN0.out];simp,HS.out⟩
  ·
   go_enter Tryz.func60,Tryz.ntmps60
   go_upto_region 1 with fail
   refine wp_new1 fun W0 hA hB=>?_
   have HB:=Lib.hid hB
   clear hB
   obtain ⟨⟨y0,y1,y2,y3,y4,y5,y6,y7,y8⟩,_⟩:=hA.all9
   have HA:=Lib.hid hA
   clear hA
   by_cases hm:m=0
   rotate_left
   ·
    have hm0:0<m:=by omega
    have HF:Hid (E=1):=Lib.hid (by rw [← HE.out];simp [Qy.nodeF,hm])
    go_wp2
    go_returns
    exact ⟨by rw [HF.out];simp,HB.out⟩
   subst hm
   by_cases hnm:nm=[]
   rotate_left
   ·
    have hs1:((bs nm).toList==[])=false:=by rw [bs_toList];simpa using hnm
    have hs2:((bs nm).toList != [])=true:=by rw [bne,hs1];rfl
    have HF:Hid (E=1):=Lib.hid (by rw [← HE.out];simp [Qy.nodeF,hnm])
    go_wp2
    go_returns
    exact ⟨by rw [HF.out];simp,HB.out⟩
   subst hnm
   have hs1:((bs []).toList==[])=true:=by rw [bs_toList];rfl
   have hs2:((bs []).toList != [])=false:=by rw [bs_toList];rfl
   by_cases hv:ax=0
   rotate_left
   ·
    have HF:Hid (E=1):=Lib.hid (by rw [← HE.out];simp [Qy.nodeF,hv])
    go_wp2
    go_returns
    exact ⟨by rw [HF.out];simp,HB.out⟩
   subst hv
   by_cases hv:ay=0
   rotate_left
   ·
    have HF:Hid (E=1):=Lib.hid (by rw [← HE.out];simp [Qy.nodeF,hv])
    go_wp2
    go_returns
    exact ⟨by rw [HF.out];simp,HB.out⟩
   subst hv
   have HG1:=Lib.hid fun u=>Good_any 0 0 u
   have HG2:=Lib.hid fun u=>GoodBox_any b0 b1 b2 b3 u
   rw [goodV_pt] at HG1
   rw [goodB_box] at HG2
   rw [HP0.out.1,if_pos rfl] at HG1
   cases hpt:Qy.boxOK b0 b1 b2 b3
   ·
    rw [hpt,if_neg (by simp)] at HG2
    have HF:Hid (E=5):=Lib.hid (by rw [← HE.out];simp [Qy.nodeF,hpt,HP0.out.1])
    clear hpt
    go_wp2_with fail
    refine (HG1.out _).mono ?_
    rintro e w2 ⟨rfl,k2⟩
    clear y0 y1 y2 y3 y4 y5 y6 y7 y8
    obtain ⟨⟨y0,y1,y2,y3,y4,y5,y6,y7,y8⟩,_⟩:=(HA.out.on k2).all9
    have HB2:=Lib.hid (Below.call HB.out k2)
    clear k2
    go_wp2_with fail
    refine (HG2.out _).mono ?_
    rintro e w3 ⟨rfl,k3⟩
    have HB3:=Lib.hid (Below.call HB2.out k3)
    clear k3
    go_wp2
    go_returns
    exact ⟨by rw [HF.out];simp,HB3.out⟩
   rw [hpt,if_pos rfl] at HG2
   have HF:Hid (E=Qy.nodesE kids):=Lib.hid (by rw [← HE.out];simp [Qy.nodeF,HP0.out.1,HP0.out.2,hpt])
   clear hpt
   go_wp2_with fail
   refine (HG1.out _).mono ?_
   rintro e w2 ⟨rfl,k2⟩
   clear y0 y1 y2 y3 y4 y5 y6 y7 y8
   obtain ⟨⟨y0,y1,y2,y3,y4,y5,y6,y7,y8⟩,_⟩:=(HA.out.on k2).all9
   have HX:=Lib.hid (And.intro (HA.out.on k2) (Below.call HB.out k2))
   clear k2
   go_wp2_with fail
   refine (HG2.out _).mono ?_
   rintro e w3 ⟨rfl,k3⟩
   clear y0 y1 y2 y3 y4 y5 y6 y7 y8
   have HY:=Lib.hid (And.intro (HX.out.1.on k3) (Below.call HX.out.2 k3))
   clear k3
   go_wp2_with fail
   go_loopw [3] (fun s wr=>∃ i:Nat,i≤0∧s=.int .i64 (i:Int)∧(∀ R∈kids.take i,Qy.nodeE R=0)∧Own wr w.heap.size 32 [.int .i64 3,.string (bs []),.int .i64 0,.int .i64 0,.int .i64 b0,.int .i64 b1,.int .i64 b2,.int .i64 b3,.slice A 0 c]∧Below w.heap.size w wr) (fun s _=>0 - (intOf s).toNat)
   case atStart=>exact ⟨0,Nat.zero_le _,rfl,by simp,HY.out.1,HY.out.2⟩
   case round=>
    obtain ⟨i,hi,rfl,hall,hA,hB⟩:=hrel
    have y8:=hA.cell 8
    have HALL:=Lib.hid hall
    clear hall
    rcases Nat.lt_or_eq_of_le hi with hlt | heq
    ·omega
    ·subst heq
     have HN0:Hid (Qy.nodesE kids=0):=Lib.hid (Qy.nodesE_all (by have h9:=HALL.out;rwa [List.take_of_length_le (by have:=HM.out;omega)] at h9))
     have HS:=Lib.hid hB
     clear hA hB
     go_wp2
     go_returns
     exact ⟨by rw [HF.out,HN0.out];simp,HS.out⟩
  ·
   go_enter Tryz.func60,Tryz.ntmps60
   go_upto_region 1 with fail
   refine wp_new1 fun W0 hA hB=>?_
   have HB:=Lib.hid hB
   clear hB
   obtain ⟨⟨y0,y1,y2,y3,y4,y5,y6,y7,y8⟩,_⟩:=hA.all9
   have HA:=Lib.hid hA
   clear hA
   by_cases hnm:nm=[]
   rotate_left
   ·
    have hs1:((bs nm).toList==[])=false:=by rw [bs_toList];simpa using hnm
    have hs2:((bs nm).toList != [])=true:=by rw [bne,hs1];rfl
    have HF:Hid (E=1):=Lib.hid (by rw [← HE.out];simp [Qy.nodeF,hnm])
    go_wp2
    go_returns
    exact ⟨by rw [HF.out];simp,HB.out⟩
   subst hnm
   have hs1:((bs []).toList==[])=true:=by rw [bs_toList];rfl
   have hs2:((bs []).toList != [])=false:=by rw [bs_toList];rfl
   by_cases hv:ax=0
   rotate_left
   ·
    have HF:Hid (E=1):=Lib.hid (by rw [← HE.out];simp [Qy.nodeF,hv])
    go_wp2
    go_returns
    exact ⟨by rw [HF.out];simp,HB.out⟩
   subst hv
   by_cases hv:ay=0
   rotate_left
   ·
    have HF:Hid (E=1):=Lib.hid (by rw [← HE.out];simp [Qy.nodeF,hv])
    go_wp2
    go_returns
    exact ⟨by rw [HF.out];simp,HB.out⟩
   subst hv
   by_cases hv:b0=0
   rotate_left
   ·
    have HF:Hid (E=1):=Lib.hid (by rw [← HE.out];simp [Qy.nodeF,hv])
    go_wp2
    go_returns
    exact ⟨by rw [HF.out];simp,HB.out⟩
   subst hv
   by_cases hv:b1=0
   rotate_left
   ·
    have HF:Hid (E=1):=Lib.hid (by rw [← HE.out];simp [Qy.nodeF,hv])
    go_wp2
    go_returns
    exact ⟨by rw [HF.out];simp,HB.out⟩
   subst hv
   by_cases hv:b2=0
   rotate_left
   ·
    have HF:Hid (E=1):=Lib.hid (by rw [← HE.out];simp [Qy.nodeF,hv])
    go_wp2
    go_returns
    exact ⟨by rw [HF.out];simp,HB.out⟩
   subst hv
   by_cases hv:b3=0
   rotate_left
   ·
    have HF:Hid (E=1):=Lib.hid (by rw [← HE.out];simp [Qy.nodeF,hv])
    go_wp2
    go_returns
    exact ⟨by rw [HF.out];simp,HB.out⟩
   subst hv
   have HG1:=Lib.hid fun u=>Good_any 0 0 u
   have HG2:=Lib.hid fun u=>GoodBox_any 0 0 0 0 u
   rw [goodV_pt] at HG1
   rw [goodB_box] at HG2
   rw [HP0.out.1,if_pos rfl] at HG1
   rw [HP0.out.2,if_pos rfl] at HG2
   have HF:Hid (E=Qy.nodesE kids):=Lib.hid (by rw [← HE.out];simp [Qy.nodeF,HP0.out.1,HP0.out.2])
   go_wp2_with fail
   refine (HG1.out _).mono ?_
   rintro e w2 ⟨rfl,k2⟩
   clear y0 y1 y2 y3 y4 y5 y6 y7 y8
   obtain ⟨⟨y0,y1,y2,y3,y4,y5,y6,y7,y8⟩,_⟩:=(HA.out.on k2).all9
   have HX:=Lib.hid (And.intro (HA.out.on k2) (Below.call HB.out k2))
   clear k2
   go_wp2_with fail
   refine (HG2.out _).mono ?_
   rintro e w3 ⟨rfl,k3⟩
   clear y0 y1 y2 y3 y4 y5 y6 y7 y8
   have HY:=Lib.hid (And.intro (HX.out.1.on k3) (Below.call HX.out.2 k3))
   clear k3
   go_wp2_with fail
   go_loopw [3] (fun s wr=>∃ i:Nat,i≤m∧s=.int .i64 (i:Int)∧(∀ R∈kids.take i,Qy.nodeE R=0)∧Own wr w.heap.size 32 [.int .i64 4,.string (bs []),.int .i64 0,.int .i64 0,.int .i64 0,.int .i64 0,.int .i64 0,.int .i64 0,.slice A m c]∧Below w.heap.size w wr) (fun s _=>m - (intOf s).toNat)
   case atStart=>exact ⟨0,Nat.zero_le _,rfl,by simp,HY.out.1,HY.out.2⟩
   case round=>
    obtain ⟨i,hi,rfl,hall,hA,hB⟩:=hrel
    have y8:=hA.cell 8
    have HALL:=Lib.hid hall
    clear hall
    rcases Nat.lt_or_eq_of_le hi with hlt | heq
    ·have i1:(i:Int)<(m:Int):=by omega
     obtain ⟨Ri,hRi⟩:∃ R,kids[i]? = some R:=⟨_,List.getElem?_eq_getElem (by have:=HM.out;omega)⟩
     have hKr:KidsAt wr (fun _=>True) A 0 kids:=HK.out.on hB
     obtain ⟨g,off,n0,s1,n2,n3,n4,n5,n6,n7,A8,l8,c8,rfl,_,hgl,⟨e0,e1,e2,e3,e4,e5,e6,e7,e8⟩,hR⟩:=hKr.lit hRi
     have HC:=Lib.hid (HIH.out Ri (List.mem_of_getElem? hRi) _ _ hR.isReg)
     have hT:kids.take (i+1)=kids.take i++[Ri]:=by rw [List.take_add_one,hRi];rfl
     have HT:=Lib.hid hT
     obtain ⟨ne,hne⟩:∃ ne,Qy.nodeE Ri=ne:=⟨_,rfl⟩
     rw [hne] at HC
     have HNE:=Lib.hid hne
     have HS:=Lib.hid (And.intro hA hB)
     clear hA hB hKr hR hRi hgl hT hne
     go_wp2_with fail
     refine HC.out.mono ?_
     rintro e w6 ⟨rfl,k6⟩
     have HS6:=Lib.hid (And.intro (HS.out.1.on k6) (Below.call HS.out.2 k6))
     clear e0 e1 e2 e3 e4 e5 e6 e7 e8 k6 y8
     by_cases h0:ne=0
     ·
      subst h0
      have HA2:Hid (∀ R∈kids.take (i+1),Qy.nodeE R=0):=Lib.hid (by rw [HT.out];exact Qy.all_snoc HALL.out HNE.out)
      go_wp2_with fail
      go_roundw
      case rel=>exact ⟨i+1,by omega,by go_num,HA2.out,HS6.out.1,HS6.out.2⟩
      case measure=>simp [intOf];omega
     ·
      have HS:Hid (Qy.nodesE kids=ne):=Lib.hid (Qy.nodesE_first HT.out HALL.out HNE.out h0)
      go_wp2
      go_returns
      exact ⟨by rw [HF.out,HS.out];simp,HS6.out.2⟩
    ·subst heq
     have HN0:Hid (Qy.nodesE kids=0):=Lib.hid (Qy.nodesE_all (by have h9:=HALL.out;rwa [List.take_of_length_le (by have:=HM.out;omega)] at h9))
     have HS:=Lib.hid hB
     clear hA hB
     go_wp2
     go_returns
     exact ⟨by rw [HF.out,HN0.out];simp,HS.out⟩
  ·
   go_enter Tryz.func60,Tryz.ntmps60
   go_upto_region 1 with fail
   refine wp_new1 fun W0 hA hB=>?_
   have HB:=Lib.hid hB
   clear hB
   obtain ⟨⟨y0,y1,y2,y3,y4,y5,y6,y7,y8⟩,_⟩:=hA.all9
   have HA:=Lib.hid hA
   clear hA
   by_cases hnm:nm=[]
   rotate_left
   ·
    have hs1:((bs nm).toList==[])=false:=by rw [bs_toList];simpa using hnm
    have hs2:((bs nm).toList != [])=true:=by rw [bne,hs1];rfl
    have HF:Hid (E=1):=Lib.hid (by rw [← HE.out];simp [Qy.nodeF,hnm])
    go_wp2
    go_returns
    exact ⟨by rw [HF.out];simp,HB.out⟩
   subst hnm
   have hs1:((bs []).toList==[])=true:=by rw [bs_toList];rfl
   have hs2:((bs []).toList != [])=false:=by rw [bs_toList];rfl
   by_cases hv:ax=0
   rotate_left
   ·
    have HF:Hid (E=1):=Lib.hid (by rw [← HE.out];simp [Qy.nodeF,hv])
    go_wp2
    go_returns
    exact ⟨by rw [HF.out];simp,HB.out⟩
   subst hv
   by_cases hv:ay=0
   rotate_left
   ·
    have HF:Hid (E=1):=Lib.hid (by rw [← HE.out];simp [Qy.nodeF,hv])
    go_wp2
    go_returns
    exact ⟨by rw [HF.out];simp,HB.out⟩
   subst hv
   by_cases hv:b0=0
   rotate_left
   ·
    have HF:Hid (E=1):=Lib.hid (by rw [← HE.out];simp [Qy.nodeF,hv])
    go_wp2
    go_returns
    exact ⟨by rw [HF.out];simp,HB.out⟩
   subst hv
   by_cases hv:b1=0
   rotate_left
   ·
    have HF:Hid (E=1):=Lib.hid (by rw [← HE.out];simp [Qy.nodeF,hv])
    go_wp2
    go_returns
    exact ⟨by rw [HF.out];simp,HB.out⟩
   subst hv
   by_cases hv:b2=0
   rotate_left
   ·
    have HF:Hid (E=1):=Lib.hid (by rw [← HE.out];simp [Qy.nodeF,hv])
    go_wp2
    go_returns
    exact ⟨by rw [HF.out];simp,HB.out⟩
   subst hv
   by_cases hv:b3=0
   rotate_left
   ·
    have HF:Hid (E=1):=Lib.hid (by rw [← HE.out];simp [Qy.nodeF,hv])
    go_wp2
    go_returns
    exact ⟨by rw [HF.out];simp,HB.out⟩
   subst hv
   have HG1:=Lib.hid fun u=>Good_any 0 0 u
   have HG2:=Lib.hid fun u=>GoodBox_any 0 0 0 0 u
   rw [goodV_pt] at HG1
   rw [goodB_box] at HG2
   rw [HP0.out.1,if_pos rfl] at HG1
   rw [HP0.out.2,if_pos rfl] at HG2
   have HF:Hid (E=Qy.nodesE kids):=Lib.hid (by rw [← HE.out];simp [Qy.nodeF,HP0.out.1,HP0.out.2])
   go_wp2_with fail
   refine (HG1.out _).mono ?_
   rintro e w2 ⟨rfl,k2⟩
   clear y0 y1 y2 y3 y4 y5 y6 y7 y8
   obtain ⟨⟨y0,y1,y2,y3,y4,y5,y6,y7,y8⟩,_⟩:=(HA.out.on k2).all9
   have HX:=Lib.hid (And.intro (HA.out.on k2) (Below.call HB.out k2))
   clear k2
   go_wp2_with fail
   refine (HG2.out _).mono ?_
   rintro e w3 ⟨rfl,k3⟩
   clear y0 y1 y2 y3 y4 y5 y6 y7 y8
   have HY:=Lib.hid (And.intro (HX.out.1.on k3) (Below.call HX.out.2 k3))
   clear k3
   go_wp2_with fail
   go_loopw [3] (fun s wr=>∃ i:Nat,i≤m∧s=.int .i64 (i:Int)∧(∀ R∈kids.take i,Qy.nodeE R=0)∧Own wr w.heap.size 32 [.int .i64 5,.string (bs []),.int .i64 0,.int .i64 0,.int .i64 0,.int .i64 0,.int .i64 0,.int .i64 0,.slice A m c]∧Below w.heap.size w wr) (fun s _=>m - (intOf s).toNat)
   case atStart=>exact ⟨0,Nat.zero_le _,rfl,by simp,HY.out.1,HY.out.2⟩
   case round=>
    obtain ⟨i,hi,rfl,hall,hA,hB⟩:=hrel
    have y8:=hA.cell 8
    have HALL:=Lib.hid hall
    clear hall
    rcases Nat.lt_or_eq_of_le hi with hlt | heq
    ·have i1:(i:Int)<(m:Int):=by omega
     obtain ⟨Ri,hRi⟩:∃ R,kids[i]? = some R:=⟨_,List.getElem?_eq_getElem (by have:=HM.out;omega)⟩
     have hKr:KidsAt wr (fun _=>True) A 0 kids:=HK.out.on hB
     obtain ⟨g,off,n0,s1,n2,n3,n4,n5,n6,n7,A8,l8,c8,rfl,_,hgl,⟨e0,e1,e2,e3,e4,e5,e6,e7,e8⟩,hR⟩:=hKr.lit hRi
     have HC:=Lib.hid (HIH.out Ri (List.mem_of_getElem? hRi) _ _ hR.isReg)
     have hT:kids.take (i+1)=kids.take i++[Ri]:=by rw [List.take_add_one,hRi];rfl
     have HT:=Lib.hid hT
     obtain ⟨ne,hne⟩:∃ ne,Qy.nodeE Ri=ne:=⟨_,rfl⟩
     rw [hne] at HC
     have HNE:=Lib.hid hne
     have HS:=Lib.hid (And.intro hA hB)
     clear hA hB hKr hR hRi hgl hT hne
     go_wp2_with fail
     refine HC.out.mono ?_
     rintro e w6 ⟨rfl,k6⟩
     have HS6:=Lib.hid (And.intro (HS.out.1.on k6) (Below.call HS.out.2 k6))
     clear e0 e1 e2 e3 e4 e5 e6 e7 e8 k6 y8
     by_cases h0:ne=0
     ·
      subst h0
      have HA2:Hid (∀ R∈kids.take (i+1),Qy.nodeE R=0):=Lib.hid (by rw [HT.out];exact Qy.all_snoc HALL.out HNE.out)
      go_wp2_with fail
      go_roundw
      case rel=>exact ⟨i+1,by omega,by go_num,HA2.out,HS6.out.1,HS6.out.2⟩
      case measure=>simp [intOf];omega
     ·
      have HS:Hid (Qy.nodesE kids=ne):=Lib.hid (Qy.nodesE_first HT.out HALL.out HNE.out h0)
      go_wp2
      go_returns
      exact ⟨by rw [HF.out,HS.out];simp,HS6.out.2⟩
    ·subst heq
     have HN0:Hid (Qy.nodesE kids=0):=Lib.hid (Qy.nodesE_all (by have h9:=HALL.out;rwa [List.take_of_length_le (by have:=HM.out;omega)] at h9))
     have HS:=Lib.hid hB
     clear hA hB
     go_wp2
     go_returns
     exact ⟨by rw [HF.out,HN0.out];simp,HS.out⟩
  ·
   go_enter Tryz.func60,Tryz.ntmps60
   go_upto_region 1 with fail
   refine wp_new1 fun W0 hA hB=>?_
   have HB:=Lib.hid hB
   clear hB
   obtain ⟨⟨y0,y1,y2,y3,y4,y5,y6,y7,y8⟩,_⟩:=hA.all9
   have HA:=Lib.hid hA
   clear hA
   by_cases hm:m=1
   rotate_left
   ·
    have hm0:¬ (m:Int)=1:=by omega
    have HF:Hid (E=1):=Lib.hid (by rw [← HE.out];simp [Qy.nodeF,hm])
    go_wp2
    go_returns
    exact ⟨by rw [HF.out];simp,HB.out⟩
   subst hm
   by_cases hnm:nm=[]
   rotate_left
   ·
    have hs1:((bs nm).toList==[])=false:=by rw [bs_toList];simpa using hnm
    have hs2:((bs nm).toList != [])=true:=by rw [bne,hs1];rfl
    have HF:Hid (E=1):=Lib.hid (by rw [← HE.out];simp [Qy.nodeF,hnm])
    go_wp2
    go_returns
    exact ⟨by rw [HF.out];simp,HB.out⟩
   subst hnm
   have hs1:((bs []).toList==[])=true:=by rw [bs_toList];rfl
   have hs2:((bs []).toList != [])=false:=by rw [bs_toList];rfl
   by_cases hv:ax=0
   rotate_left
   ·
    have HF:Hid (E=1):=Lib.hid (by rw [← HE.out];simp [Qy.nodeF,hv])
    go_wp2
    go_returns
    exact ⟨by rw [HF.out];simp,HB.out⟩
   subst hv
   by_cases hv:ay=0
   rotate_left
   ·
    have HF:Hid (E=1):=Lib.hid (by rw [← HE.out];simp [Qy.nodeF,hv])
    go_wp2
    go_returns
    exact ⟨by rw [HF.out];simp,HB.out⟩
   subst hv
   by_cases hv:b0=0
   rotate_left
   ·
    have HF:Hid (E=1):=Lib.hid (by rw [← HE.out];simp [Qy.nodeF,hv])
    go_wp2
    go_returns
    exact ⟨by rw [HF.out];simp,HB.out⟩
   subst hv
   by_cases hv:b1=0
   rotate_left
   ·
    have HF:Hid (E=1):=Lib.hid (by rw [← HE.out];simp [Qy.nodeF,hv])
    go_wp2
    go_returns
    exact ⟨by rw [HF.out];simp,HB.out⟩
   subst hv
   by_cases hv:b2=0
   rotate_left
   ·
    have HF:Hid (E=1):=Lib.hid (by rw [← HE.out];simp [Qy.nodeF,hv])
    go_wp2
    go_returns
    exact ⟨by rw [HF.out];simp,HB.out⟩
   subst hv
   by_cases hv:b3=0
   rotate_left
   ·
    have HF:Hid (E=1):=Lib.hid (by rw [← HE.out];simp [Qy.nodeF,hv])
    go_wp2
    go_returns
    exact ⟨by rw [HF.out];simp,HB.out⟩
   subst hv
   have HG1:=Lib.hid fun u=>Good_any 0 0 u
   have HG2:=Lib.hid fun u=>GoodBox_any 0 0 0 0 u
   rw [goodV_pt] at HG1
   rw [goodB_box] at HG2
   rw [HP0.out.1,if_pos rfl] at HG1
   rw [HP0.out.2,if_pos rfl] at HG2
   have HF:Hid (E=Qy.nodesE kids):=Lib.hid (by rw [← HE.out];simp [Qy.nodeF,HP0.out.1,HP0.out.2])
   go_wp2_with fail
   refine (HG1.out _).mono ?_
   rintro e w2 ⟨rfl,k2⟩
   clear y0 y1 y2 y3 y4 y5 y6 y7 y8
   obtain ⟨⟨y0,y1,y2,y3,y4,y5,y6,y7,y8⟩,_⟩:=(HA.out.on k2).all9
   have HX:=Lib.hid (And.intro (HA.out.on k2) (Below.call HB.out k2))
   clear k2
   go_wp2_with fail
   refine (HG2.out _).mono ?_
   rintro e w3 ⟨rfl,k3⟩
   clear y0 y1 y2 y3 y4 y5 y6 y7 y8
   have HY:=Lib.hid (And.intro (HX.out.1.on k3) (Below.call HX.out.2 k3))
   clear k3
   go_wp2_with fail
   go_loopw [3] (fun s wr=>∃ i:Nat,i≤1∧s=.int .i64 (i:Int)∧(∀ R∈kids.take i,Qy.nodeE R=0)∧Own wr w.heap.size 32 [.int .i64 6,.string (bs []),.int .i64 0,.int .i64 0,.int .i64 0,.int .i64 0,.int .i64 0,.int .i64 0,.slice A 1 c]∧Below w.heap.size w wr) (fun s _=>1 - (intOf s).toNat)
   case atStart=>exact ⟨0,Nat.zero_le _,rfl,by simp,HY.out.1,HY.out.2⟩
   case round=>
    obtain ⟨i,hi,rfl,hall,hA,hB⟩:=hrel
    have y8:=hA.cell 8
    have HALL:=Lib.hid hall
    clear hall
    rcases Nat.lt_or_eq_of_le hi with hlt | heq
    ·have i1:(i:Int)<(1:Int):=by omega
     obtain ⟨Ri,hRi⟩:∃ R,kids[i]? = some R:=⟨_,List.getElem?_eq_getElem (by have:=HM.out;omega)⟩
     have hKr:KidsAt wr (fun _=>True) A 0 kids:=HK.out.on hB
     obtain ⟨g,off,n0,s1,n2,n3,n4,n5,n6,n7,A8,l8,c8,rfl,_,hgl,⟨e0,e1,e2,e3,e4,e5,e6,e7,e8⟩,hR⟩:=hKr.lit hRi
     have HC:=Lib.hid (HIH.out Ri (List.mem_of_getElem? hRi) _ _ hR.isReg)
     have hT:kids.take (i+1)=kids.take i++[Ri]:=by rw [List.take_add_one,hRi];rfl
     have HT:=Lib.hid hT
     obtain ⟨ne,hne⟩:∃ ne,Qy.nodeE Ri=ne:=⟨_,rfl⟩
     rw [hne] at HC
     have HNE:=Lib.hid hne
     have HS:=Lib.hid (And.intro hA hB)
     clear hA hB hKr hR hRi hgl hT hne
     go_wp2_with fail
     refine HC.out.mono ?_
     rintro e w6 ⟨rfl,k6⟩
     have HS6:=Lib.hid (And.intro (HS.out.1.on k6) (Below.call HS.out.2 k6))
     clear e0 e1 e2 e3 e4 e5 e6 e7 e8 k6 y8
     by_cases h0:ne=0
     ·
      subst h0
      have HA2:Hid (∀ R∈kids.take (i+1),Qy.nodeE R=0):=Lib.hid (by rw [HT.out];exact Qy.all_snoc HALL.out HNE.out)
      go_wp2_with fail
      go_roundw
      case rel=>exact ⟨i+1,by omega,by go_num,HA2.out,HS6.out.1,HS6.out.2⟩
      case measure=>simp [intOf];omega
     ·
      have HS:Hid (Qy.nodesE kids=ne):=Lib.hid (Qy.nodesE_first HT.out HALL.out HNE.out h0)
      go_wp2
      go_returns
      exact ⟨by rw [HF.out,HS.out];simp,HS6.out.2⟩
    ·subst heq
     have HN0:Hid (Qy.nodesE kids=0):=Lib.hid (Qy.nodesE_all (by have h9:=HALL.out;rwa [List.take_of_length_le (by have:=HM.out;omega)] at h9))
     have HS:=Lib.hid hB
     clear hA hB
     go_wp2
     go_returns
     exact ⟨by rw [HF.out,HN0.out];simp,HS.out⟩
  ·
   rcases hko with hk | hk
   ·
    have HF:Hid (E=1):=Lib.hid (by rw [← HE.out];unfold Qy.nodeF;rw [if_pos (by omega)])
    go_enter Tryz.func60,Tryz.ntmps60
    go_upto_region 1 with fail
    refine wp_new1 fun W0 hA hB=>?_
    have HB:=Lib.hid hB
    clear hB
    obtain ⟨⟨y0,y1,y2,y3,y4,y5,y6,y7,y8⟩,_⟩:=hA.all9
    have HA:=Lib.hid hA
    clear hA
    go_wp2
    go_returns
    exact ⟨by rw [HF.out];simp,HB.out⟩
   ·
    have h3:¬ k<0:=by omega
    have HF:Hid (E=1):=Lib.hid (by rw [← HE.out];unfold Qy.nodeF;rw [if_pos (by omega)])
    go_enter Tryz.func60,Tryz.ntmps60
    go_upto_region 1 with fail
    refine wp_new1 fun W0 hA hB=>?_
    have HB:=Lib.hid hB
    clear hB
    obtain ⟨⟨y0,y1,y2,y3,y4,y5,y6,y7,y8⟩,_⟩:=hA.all9
    have HA:=Lib.hid hA
    clear hA
    go_wp2
    go_returns
    exact ⟨by rw [HF.out];simp,HB.out⟩
theorem nodes_nest_le (R:Qy.Reg) (n:Nat) (h:Qy.nodes R≤n):Qy.nest R≤n:=Nat.le_trans (Qy.nest_nodes _ R (Nat.le_refl _)) h
set_option maxRecDepth 100000 in
set_option maxHeartbeats 1600000 in
theorem Good38_any (R:Qy.Reg) (hn:Qy.nodes R≤1000000) (v:Value) (w:World) (hv:IsReg w R v):Calls Tryz.prog 28 #[v] w (RetInt w (Qy.regE R)):=by
 have hi:=hv
 obtain ⟨cs,rfl,hR⟩:=hv
 obtain ⟨A8,c8,rfl,_⟩:=hR.cells
 obtain ⟨n0,s1,n2,n3,n4,n5,n6,n7,l8,e⟩:=regCells_parts R A8 c8
 rw [e] at hi ⊢
 obtain ⟨E,hE⟩:∃ E,Qy.regE R=E:=⟨_,rfl⟩
 rw [hE]
 unfold Qy.regE at hE
 have HSz:=Lib.hid fun v u h=>rNodes _ R (Nat.le_refl _) (by omega) v u h
 have HSn:=Lib.hid fun v u h=>rNesting _ R (Nat.le_refl _) (by omega) v u h
 have HNd:=Lib.hid fun v u h=>rnode_any _ R (Nat.le_refl _) (by omega) v u h
 obtain ⟨nn,hnn⟩:∃ nn,Qy.nodes R=nn:=⟨_,rfl⟩
 obtain ⟨nd,hnd⟩:∃ nd,Qy.nest R=nd:=⟨_,rfl⟩
 obtain ⟨ne,hne⟩:∃ ne,Qy.nodeE R=ne:=⟨_,rfl⟩
 have hnb:=nodes_nest_le R _ hn
 rw [hnn] at HSz
 rw [hnd] at HSn
 rw [hne] at HNd
 rw [hnn,hnd,hne] at hE
 rw [hnd] at hnb
 rw [hnn] at hn
 have HE:=Lib.hid hE
 clear e hR hnn hnd hne hE
 go_enter Tryz.func28,Tryz.ntmps28
 go_upto_region 1 with fail
 refine wp_new1 fun W0 hA hB=>?_
 have hi0:=hi.on hB
 have HA:=Lib.hid hA
 obtain ⟨⟨y0,y1,y2,y3,y4,y5,y6,y7,y8⟩,_⟩:=hA.all9
 clear hA hi
 go_wp2_with fail
 refine (HSz.out _ _ hi0).mono ?_
 rintro e w1 ⟨rfl,k1⟩
 have hi1:=hi0.on k1
 have HB1:=Lib.hid (Below.call hB k1)
 have HA1:=Lib.hid (HA.out.on k1)
 clear y0 y1 y2 y3 y4 y5 y6 y7 y8 hi0 hB k1
 by_cases h1:256<nn
 ·have HF:Hid (E=4):=Lib.hid (by rw [← HE.out,if_pos (.inl h1)])
  have h2:(256:Int)<(nn:Int):=by omega
  clear hi1
  go_wp2
  go_returns
  exact ⟨by rw [HF.out];simp,HB1.out⟩
 have h2:¬ (256:Int)<(nn:Int):=by omega
 obtain ⟨⟨y0,y1,y2,y3,y4,y5,y6,y7,y8⟩,_⟩:=HA1.out.all9
 go_wp2_with fail
 refine (HSn.out _ _ hi1).mono ?_
 rintro e w2 ⟨rfl,k1⟩
 have hi2:=hi1.on k1
 have HB2:=Lib.hid (Below.call HB1.out k1)
 have HA2:=Lib.hid (HA1.out.on k1)
 clear y0 y1 y2 y3 y4 y5 y6 y7 y8 hi1 k1
 by_cases h3:16<nd
 ·have HF:Hid (E=4):=Lib.hid (by rw [← HE.out,if_pos (.inr h3)])
  have h4:(16:Int)<(nd:Int):=by omega
  clear hi2
  go_wp2
  go_returns
  exact ⟨by rw [HF.out];simp,HB2.out⟩
 have h4:¬ (16:Int)<(nd:Int):=by omega
 have HF:Hid (E=ne):=Lib.hid (by rw [← HE.out,if_neg (by omega)])
 obtain ⟨⟨y0,y1,y2,y3,y4,y5,y6,y7,y8⟩,_⟩:=HA2.out.all9
 go_wp2_with fail
 refine (HNd.out _ _ hi2).mono ?_
 rintro e w3 ⟨rfl,k3⟩
 have HF3:=Lib.hid (Below.call HB2.out k3)
 clear y0 y1 y2 y3 y4 y5 y6 y7 y8 hi2 k3
 go_wp2
 go_returns
 exact ⟨by rw [HF.out];simp,HF3.out⟩
end Go.Proofs.YtmlpibdincfgbaaGreatDoor
namespace Go.Proofs.YtmlpibdincfgbaaGreatDoor
open Go.RowKit
set_option linter.unusedSimpArgs false
set_option linter.unusedVariables false
def offsOK (l:List Int):Bool:=decide ((∀ n∈l,0≤n∧n≤63)∧l.Nodup)
theorem offs_snoc {l:List Int} {i:Nat} {z:Int} (h:l[i]? = some z) (a:offsOK (l.take i)=true) (h0:0≤z) (h1:z≤63) (hn:z ∉ l.take i):offsOK (l.take (i+1))=true:=by
 unfold offsOK at a ⊢
 simp only [decide_eq_true_eq] at a ⊢
 rw [List.take_add_one,h]
 refine ⟨fun n hm=>?_,?_⟩
 ·rcases List.mem_append.1 hm with hm | hm
  ·exact a.1 n hm
  ·simp only [Option.toList,List.mem_singleton] at hm
   subst hm
   exact ⟨h0,h1⟩
 ·refine List.nodup_append.2 ⟨a.2,by simp,fun x hx y hy=>?_⟩
  simp only [Option.toList,List.mem_singleton] at hy
  subst hy
  intro e
  subst e
  exact hn hx
theorem offs_out {l:List Int} {i:Nat} {z:Int} (h:l[i]? = some z) (hz:z<0∨63<z):offsOK l=false:=by
 unfold offsOK
 simp only [decide_eq_false_iff_not]
 intro hh
 have:=hh.1 z (List.mem_of_getElem? h)
 omega
theorem offs_dup {l:List Int} {i j:Nat} {z:Int} (hi:l[i]? = some z) (hj:l[j]? = some z) (hlt:j<i):offsOK l=false:=by
 unfold offsOK
 simp only [decide_eq_false_iff_not]
 intro hh
 obtain ⟨a1,b1⟩:=List.getElem?_eq_some_iff.1 hj
 obtain ⟨a2,b2⟩:=List.getElem?_eq_some_iff.1 hi
 exact (List.pairwise_iff_getElem.1 hh.2) j i a1 a2 hlt (by rw [b1,b2])
theorem view_offs (k:Int) (l:List Int):Qy.viewOK k l=(decide ((k=0∧l.length=1)∨(k=1∧1≤l.length∧l.length≤8)∨(k=2∧l.length=0))&&offsOK l):=by
 unfold Qy.viewOK offsOK
 by_cases h1:k=0∧l.length=1
 ·simp [h1]
 by_cases h2:k=1∧1≤l.length∧l.length≤8
 ·simp [h2]
 by_cases h3:k=2∧l.length=0
 ·simp [h3]
 ·simp only [h1,h2,h3,decide_false,Bool.or_self,Bool.false_and,or_self]
theorem not_take {l:List Int} {j:Nat} {y z:Int} (h:l[j]? = some y) (hn:z ∉ l.take j) (hne:¬ y=z):z ∉ l.take (j+1):=by
 rw [List.take_add_one,h]
 intro hm
 rcases List.mem_append.1 hm with hm | hm
 ·exact hn hm
 ·simp only [Option.toList,List.mem_singleton] at hm
  exact hne hm.symm
set_option maxRecDepth 100000 in
set_option maxHeartbeats 6400000 in
theorem rView_any {w:World} {S:Nat→Prop} {A:Option Addr} {k:Int} {l:List Int} {c:Nat} (hI:IntsAt w S A l) (hlen:l.length≤1000000) :
 Calls Tryz.prog 58 #[.agg #[.int .i64 k,.slice A l.length c]] w (RetInt w (if Qy.viewOK k l=true then 0 else 1)):=by
 obtain ⟨E,hE⟩:∃ E:Int,(if Qy.viewOK k l=true then (0:Int) else 1)=E:=⟨_,rfl⟩
 rw [hE]
 rw [view_offs] at hE
 have HI:=Lib.hid hI
 obtain ⟨n,hn⟩:∃ n,l.length=n:=⟨_,rfl⟩
 have HN:=Lib.hid hn
 rw [hn] at hE hlen ⊢
 have HE:=Lib.hid hE
 clear hI hn hE
 rcases (by omega:k=0∨k=1∨k=2∨(k<0∨2<k)) with rfl | rfl | rfl | hk
 ·
  rcases (by omega:n=0∨n=1∨1<n) with rfl | rfl | hk
  ·
   go_enter Tryz.func58,Tryz.ntmps58
   go_upto_region 1 with fail
   refine wp_new1 fun W0 hA hB=>?_
   go_upto_region 2 with fail
   refine wp_new1 fun W1 h1 k1=>?_
   go_upto_region 3 with fail
   refine wp_new1 fun W2 h2 k2=>?_
   have hA2:=(hA.on k1).on k2
   have h12:=h1.on k2
   have hB2:=Below.call (Below.call hB k1) k2
   have y0:=hA2.c0
   have y1:=hA2.c1
   have u0:=h12.cell 0
   have v0:=h2.cell 0
   have u1:=h12.cell 1
   have v1:=h2.cell 1
   have u2:=h12.cell 2
   have v2:=h2.cell 2
   have HS:=Lib.hid (And.intro hA2 hB2)
   clear hA hB h1 k1 h2 k2 hA2 h12 hB2
   go_region
   clear y0 y1 u0 u1 u2 v0 v1 v2
   have kd:=Below.drew (Below.refl W2.heap.size W2)
   have HF:=Lib.hid (Below.call HS.out.2 kd)
   have HE1:Hid (E=1):=Lib.hid (by rw [← HE.out,if_neg (by simp <;> omega)])
   clear kd HS
   go_wp2
   go_returns
   exact ⟨by rw [HE1.out];simp,HF.out⟩
  rotate_left
  ·
   have q1:¬ (n:Int)<1:=by omega
   have q2:(1:Int)<(n:Int):=by omega
   go_enter Tryz.func58,Tryz.ntmps58
   go_upto_region 1 with fail
   refine wp_new1 fun W0 hA hB=>?_
   go_upto_region 2 with fail
   refine wp_new1 fun W1 h1 k1=>?_
   go_upto_region 3 with fail
   refine wp_new1 fun W2 h2 k2=>?_
   have hA2:=(hA.on k1).on k2
   have h12:=h1.on k2
   have hB2:=Below.call (Below.call hB k1) k2
   have y0:=hA2.c0
   have y1:=hA2.c1
   have u0:=h12.cell 0
   have v0:=h2.cell 0
   have u1:=h12.cell 1
   have v1:=h2.cell 1
   have u2:=h12.cell 2
   have v2:=h2.cell 2
   have HS:=Lib.hid (And.intro hA2 hB2)
   clear hA hB h1 k1 h2 k2 hA2 h12 hB2
   go_region
   clear y0 y1 u0 u1 u2 v0 v1 v2
   have kd:=Below.drew (Below.refl W2.heap.size W2)
   have HF:=Lib.hid (Below.call HS.out.2 kd)
   have HE1:Hid (E=1):=Lib.hid (by rw [← HE.out,if_neg (by simp <;> omega)])
   clear kd HS
   go_wp2
   go_returns
   exact ⟨by rw [HE1.out];simp,HF.out⟩
  have HE1:Hid (E=if offsOK l=true then 0 else 1):=Lib.hid (by rw [← HE.out];simp)
  go_enter Tryz.func58,Tryz.ntmps58
  go_upto_region 1 with fail
  refine wp_new1 fun W0 hA hB=>?_
  go_upto_region 2 with fail
  refine wp_new1 fun W1 h1 k1=>?_
  go_upto_region 3 with fail
  refine wp_new1 fun W2 h2 k2=>?_
  have hA2:=(hA.on k1).on k2
  have h12:=h1.on k2
  have hB2:=Below.call (Below.call hB k1) k2
  have y0:=hA2.c0
  have y1:=hA2.c1
  have u0:=h12.cell 0
  have v0:=h2.cell 0
  have u1:=h12.cell 1
  have v1:=h2.cell 1
  have u2:=h12.cell 2
  have v2:=h2.cell 2
  have HS:=Lib.hid (And.intro hA2 hB2)
  clear hA hB h1 k1 h2 k2 hA2 h12 hB2
  go_region
  clear y0 y1 u0 u1 u2 v0 v1 v2
  have kd:=Below.drew (Below.refl W2.heap.size W2)
  have HS3:=Lib.hid (And.intro (HS.out.1.on kd) (Below.call HS.out.2 kd))
  clear HS kd
  go_wp2_with fail
  go_loopw [5] (fun s wr=>∃ i:Nat,i≤1∧s=.int .i64 (i:Int)∧offsOK (l.take i)=true∧Own wr w.heap.size 34 [.int .i64 0,.slice A 1 c]∧Below w.heap.size w wr) (fun s _=>1 - (intOf s).toNat)
  case atStart=>exact ⟨0,Nat.zero_le _,rfl,by simp [offsOK],HS3.out.1,HS3.out.2⟩
  case round=>
   obtain ⟨i,hi,rfl,hall,hA,hB⟩:=hrel
   clear HS3
   have HALL:=Lib.hid hall
   clear hall
   have y1:=hA.c1
   rcases Nat.lt_or_eq_of_le hi with hlt | heq
   ·have i1:(i:Int)<(1:Int):=by omega
    obtain ⟨g,off,rfl,hgl,hc⟩:=HI.out.get (by have:=HN.out;omega)
    obtain ⟨z,hz⟩:∃ z,l[i]? = some z:=⟨_,List.getElem?_eq_getElem (by have:=HN.out;omega)⟩
    have HC:=Lib.hid (And.intro hgl hc)
    have x1:=(World.cell?_of_block (a:=⟨g,off+i,none⟩) (hB.block g hgl)).trans (hc i z hz)
    have HZ:=Lib.hid hz
    have HS:=Lib.hid (And.intro hA hB)
    clear hA hB hc hgl hz
    by_cases hz1:z<0
    ·
     have z0:z<0:=by omega
     have HF:Hid (E=1):=Lib.hid (by rw [HE1.out,offs_out HZ.out (by omega)];rfl)
     go_wp2
     go_returns
     exact ⟨by rw [HF.out];simp,HS.out.2⟩
    by_cases hz2:63<z
    ·
     have z0:¬ z<0:=by omega
     have z1:63<z:=by omega
     have HF:Hid (E=1):=Lib.hid (by rw [HE1.out,offs_out HZ.out (by omega)];rfl)
     go_wp2
     go_returns
     exact ⟨by rw [HF.out];simp,HS.out.2⟩
    have z0:¬ z<0:=hz1
    have z1:¬ 63<z:=hz2
    have HZR:=Lib.hid (And.intro z0 z1)
    clear hz1 hz2
    go_wp2_with fail
    clear x1 y1
    go_loopw [6] (fun s wr=>∃ j:Nat,j≤i∧s=.int .i64 (j:Int)∧z ∉ l.take j∧Own wr w.heap.size 34 [.int .i64 0,.slice (some ⟨g,off,none⟩) 1 c]∧Below w.heap.size w wr) (fun s _=>i - (intOf s).toNat)
    case atStart=>exact ⟨0,Nat.zero_le _,rfl,by simp,HS.out.1,HS.out.2⟩
    case round=>
     obtain ⟨j,hj,rfl,hnot,hA,hB⟩:=hrel
     clear HS
     have HNOT:=Lib.hid hnot
     clear hnot
     have y1:=hA.c1
     rcases Nat.lt_or_eq_of_le hj with hjlt | hjeq
     ·omega
     ·subst hjeq
      have HA9:Hid (offsOK (l.take (j+1))=true):=Lib.hid (offs_snoc HZ.out HALL.out (by have:=HZR.out;omega) (by have:=HZR.out;omega) HNOT.out)
      have HS:=Lib.hid (And.intro hA hB)
      clear hA hB
      go_wp2_with fail
      clear y1
      go_roundw
      case rel=>exact ⟨j+1,by omega,by go_num,HA9.out,HS.out.1,HS.out.2⟩
      case measure=>simp [intOf];omega
   ·subst heq
    have HS:=Lib.hid hB
    have HF:Hid (E=0):=Lib.hid (by have h9:=HALL.out;rw [List.take_of_length_le (by have:=HN.out;omega)] at h9;rw [HE1.out,h9,if_pos rfl])
    clear hA hB
    go_wp2
    go_returns
    exact ⟨by rw [HF.out];simp,HS.out⟩
 ·
  rcases (by omega:n=0∨(1≤n∧n≤8)∨8<n) with rfl | ⟨hk1,hk2⟩ | hk
  ·
   go_enter Tryz.func58,Tryz.ntmps58
   go_upto_region 1 with fail
   refine wp_new1 fun W0 hA hB=>?_
   go_upto_region 2 with fail
   refine wp_new1 fun W1 h1 k1=>?_
   go_upto_region 3 with fail
   refine wp_new1 fun W2 h2 k2=>?_
   have hA2:=(hA.on k1).on k2
   have h12:=h1.on k2
   have hB2:=Below.call (Below.call hB k1) k2
   have y0:=hA2.c0
   have y1:=hA2.c1
   have u0:=h12.cell 0
   have v0:=h2.cell 0
   have u1:=h12.cell 1
   have v1:=h2.cell 1
   have u2:=h12.cell 2
   have v2:=h2.cell 2
   have HS:=Lib.hid (And.intro hA2 hB2)
   clear hA hB h1 k1 h2 k2 hA2 h12 hB2
   go_region
   clear y0 y1 u0 u1 u2 v0 v1 v2
   have kd:=Below.drew (Below.refl W2.heap.size W2)
   have HF:=Lib.hid (Below.call HS.out.2 kd)
   have HE1:Hid (E=1):=Lib.hid (by rw [← HE.out,if_neg (by simp <;> omega)])
   clear kd HS
   go_wp2
   go_returns
   exact ⟨by rw [HE1.out];simp,HF.out⟩
  rotate_left
  ·
   have q1:¬ (n:Int)<1:=by omega
   have q2:(8:Int)<(n:Int):=by omega
   go_enter Tryz.func58,Tryz.ntmps58
   go_upto_region 1 with fail
   refine wp_new1 fun W0 hA hB=>?_
   go_upto_region 2 with fail
   refine wp_new1 fun W1 h1 k1=>?_
   go_upto_region 3 with fail
   refine wp_new1 fun W2 h2 k2=>?_
   have hA2:=(hA.on k1).on k2
   have h12:=h1.on k2
   have hB2:=Below.call (Below.call hB k1) k2
   have y0:=hA2.c0
   have y1:=hA2.c1
   have u0:=h12.cell 0
   have v0:=h2.cell 0
   have u1:=h12.cell 1
   have v1:=h2.cell 1
   have u2:=h12.cell 2
   have v2:=h2.cell 2
   have HS:=Lib.hid (And.intro hA2 hB2)
   clear hA hB h1 k1 h2 k2 hA2 h12 hB2
   go_region
   clear y0 y1 u0 u1 u2 v0 v1 v2
   have kd:=Below.drew (Below.refl W2.heap.size W2)
   have HF:=Lib.hid (Below.call HS.out.2 kd)
   have HE1:Hid (E=1):=Lib.hid (by rw [← HE.out,if_neg (by simp <;> omega)])
   clear kd HS
   go_wp2
   go_returns
   exact ⟨by rw [HE1.out];simp,HF.out⟩
  have q1:¬ (n:Int)<1:=by omega
  have q2:¬ (8:Int)<(n:Int):=by omega
  have HE1:Hid (E=if offsOK l=true then 0 else 1):=Lib.hid (by rw [← HE.out];simp [hk1,hk2])
  go_enter Tryz.func58,Tryz.ntmps58
  go_upto_region 1 with fail
  refine wp_new1 fun W0 hA hB=>?_
  go_upto_region 2 with fail
  refine wp_new1 fun W1 h1 k1=>?_
  go_upto_region 3 with fail
  refine wp_new1 fun W2 h2 k2=>?_
  have hA2:=(hA.on k1).on k2
  have h12:=h1.on k2
  have hB2:=Below.call (Below.call hB k1) k2
  have y0:=hA2.c0
  have y1:=hA2.c1
  have u0:=h12.cell 0
  have v0:=h2.cell 0
  have u1:=h12.cell 1
  have v1:=h2.cell 1
  have u2:=h12.cell 2
  have v2:=h2.cell 2
  have HS:=Lib.hid (And.intro hA2 hB2)
  clear hA hB h1 k1 h2 k2 hA2 h12 hB2
  go_region
  clear y0 y1 u0 u1 u2 v0 v1 v2
  have kd:=Below.drew (Below.refl W2.heap.size W2)
  have HS3:=Lib.hid (And.intro (HS.out.1.on kd) (Below.call HS.out.2 kd))
  clear HS kd
  go_wp2_with fail
  go_loopw [5] (fun s wr=>∃ i:Nat,i≤n∧s=.int .i64 (i:Int)∧offsOK (l.take i)=true∧Own wr w.heap.size 34 [.int .i64 1,.slice A n c]∧Below w.heap.size w wr) (fun s _=>n - (intOf s).toNat)
  case atStart=>exact ⟨0,Nat.zero_le _,rfl,by simp [offsOK],HS3.out.1,HS3.out.2⟩
  case round=>
   obtain ⟨i,hi,rfl,hall,hA,hB⟩:=hrel
   clear HS3
   have HALL:=Lib.hid hall
   clear hall
   have y1:=hA.c1
   rcases Nat.lt_or_eq_of_le hi with hlt | heq
   ·have i1:(i:Int)<(n:Int):=by omega
    obtain ⟨g,off,rfl,hgl,hc⟩:=HI.out.get (by have:=HN.out;omega)
    obtain ⟨z,hz⟩:∃ z,l[i]? = some z:=⟨_,List.getElem?_eq_getElem (by have:=HN.out;omega)⟩
    have HC:=Lib.hid (And.intro hgl hc)
    have x1:=(World.cell?_of_block (a:=⟨g,off+i,none⟩) (hB.block g hgl)).trans (hc i z hz)
    have HZ:=Lib.hid hz
    have HS:=Lib.hid (And.intro hA hB)
    clear hA hB hc hgl hz
    by_cases hz1:z<0
    ·
     have z0:z<0:=by omega
     have HF:Hid (E=1):=Lib.hid (by rw [HE1.out,offs_out HZ.out (by omega)];rfl)
     go_wp2
     go_returns
     exact ⟨by rw [HF.out];simp,HS.out.2⟩
    by_cases hz2:63<z
    ·
     have z0:¬ z<0:=by omega
     have z1:63<z:=by omega
     have HF:Hid (E=1):=Lib.hid (by rw [HE1.out,offs_out HZ.out (by omega)];rfl)
     go_wp2
     go_returns
     exact ⟨by rw [HF.out];simp,HS.out.2⟩
    have z0:¬ z<0:=hz1
    have z1:¬ 63<z:=hz2
    have HZR:=Lib.hid (And.intro z0 z1)
    clear hz1 hz2
    go_wp2_with fail
    clear x1 y1
    go_loopw [6] (fun s wr=>∃ j:Nat,j≤i∧s=.int .i64 (j:Int)∧z ∉ l.take j∧Own wr w.heap.size 34 [.int .i64 1,.slice (some ⟨g,off,none⟩) n c]∧Below w.heap.size w wr) (fun s _=>i - (intOf s).toNat)
    case atStart=>exact ⟨0,Nat.zero_le _,rfl,by simp,HS.out.1,HS.out.2⟩
    case round=>
     obtain ⟨j,hj,rfl,hnot,hA,hB⟩:=hrel
     clear HS
     have HNOT:=Lib.hid hnot
     clear hnot
     have y1:=hA.c1
     rcases Nat.lt_or_eq_of_le hj with hjlt | hjeq
     ·have j1:(j:Int)<(i:Int):=by omega
      have j2:(j:Int)<(n:Int):=by omega
      obtain ⟨y,hy⟩:∃ y,l[j]? = some y:=⟨_,List.getElem?_eq_getElem (by have:=HN.out;omega)⟩
      have x1:=(World.cell?_of_block (a:=⟨g,off+i,none⟩) (hB.block g HC.out.1)).trans (HC.out.2 i z HZ.out)
      have x2:=(World.cell?_of_block (a:=⟨g,off+j,none⟩) (hB.block g HC.out.1)).trans (HC.out.2 j y hy)
      have HY:=Lib.hid hy
      have HS:=Lib.hid (And.intro hA hB)
      clear hA hB hy
      by_cases hne:y=z
      ·
       subst hne
       have HF:Hid (E=1):=Lib.hid (by rw [HE1.out,offs_dup HZ.out HY.out hjlt];rfl)
       have HB9:=Lib.hid (Below.call HS.out.2 (Below.drew (Below.refl _ _)))
       go_wp2_with fail
       go_region
       clear x1 x2 y1
       go_wp2
       go_returns
       exact ⟨by rw [HF.out];simp,HB9.out⟩
      have HN2:Hid (z ∉ l.take (j+1)):=Lib.hid (not_take HY.out HNOT.out hne)
      go_wp2_with fail
      go_region
      clear x1 x2 y1
      go_wp2_with fail
      go_roundw
      case rel=>exact ⟨j+1,by omega,by go_num,HN2.out,HS.out.1.on (Below.drew (Below.refl _ _)),Below.call HS.out.2 (Below.drew (Below.refl _ _))⟩
      case measure=>simp [intOf];omega
     ·subst hjeq
      have HA9:Hid (offsOK (l.take (j+1))=true):=Lib.hid (offs_snoc HZ.out HALL.out (by have:=HZR.out;omega) (by have:=HZR.out;omega) HNOT.out)
      have HS:=Lib.hid (And.intro hA hB)
      clear hA hB
      go_wp2_with fail
      clear y1
      go_roundw
      case rel=>exact ⟨j+1,by omega,by go_num,HA9.out,HS.out.1,HS.out.2⟩
      case measure=>simp [intOf];omega
   ·subst heq
    have HS:=Lib.hid hB
    have HF:Hid (E=0):=Lib.hid (by have h9:=HALL.out;rw [List.take_of_length_le (by have:=HN.out;omega)] at h9;rw [HE1.out,h9,if_pos rfl])
    clear hA hB
    go_wp2
    go_returns
    exact ⟨by rw [HF.out];simp,HS.out⟩
 ·
  rcases (by omega:n=0∨0<n) with rfl | hk
  rotate_left
  ·
   have q1:¬ (n:Int)<0:=by omega
   have q2:(0:Int)<(n:Int):=by omega
   go_enter Tryz.func58,Tryz.ntmps58
   go_upto_region 1 with fail
   refine wp_new1 fun W0 hA hB=>?_
   go_upto_region 2 with fail
   refine wp_new1 fun W1 h1 k1=>?_
   go_upto_region 3 with fail
   refine wp_new1 fun W2 h2 k2=>?_
   have hA2:=(hA.on k1).on k2
   have h12:=h1.on k2
   have hB2:=Below.call (Below.call hB k1) k2
   have y0:=hA2.c0
   have y1:=hA2.c1
   have u0:=h12.cell 0
   have v0:=h2.cell 0
   have u1:=h12.cell 1
   have v1:=h2.cell 1
   have u2:=h12.cell 2
   have v2:=h2.cell 2
   have HS:=Lib.hid (And.intro hA2 hB2)
   clear hA hB h1 k1 h2 k2 hA2 h12 hB2
   go_region
   clear y0 y1 u0 u1 u2 v0 v1 v2
   have kd:=Below.drew (Below.refl W2.heap.size W2)
   have HF:=Lib.hid (Below.call HS.out.2 kd)
   have HE1:Hid (E=1):=Lib.hid (by rw [← HE.out,if_neg (by simp <;> omega)])
   clear kd HS
   go_wp2
   go_returns
   exact ⟨by rw [HE1.out];simp,HF.out⟩
  have HE1:Hid (E=if offsOK l=true then 0 else 1):=Lib.hid (by rw [← HE.out];simp)
  go_enter Tryz.func58,Tryz.ntmps58
  go_upto_region 1 with fail
  refine wp_new1 fun W0 hA hB=>?_
  go_upto_region 2 with fail
  refine wp_new1 fun W1 h1 k1=>?_
  go_upto_region 3 with fail
  refine wp_new1 fun W2 h2 k2=>?_
  have hA2:=(hA.on k1).on k2
  have h12:=h1.on k2
  have hB2:=Below.call (Below.call hB k1) k2
  have y0:=hA2.c0
  have y1:=hA2.c1
  have u0:=h12.cell 0
  have v0:=h2.cell 0
  have u1:=h12.cell 1
  have v1:=h2.cell 1
  have u2:=h12.cell 2
  have v2:=h2.cell 2
  have HS:=Lib.hid (And.intro hA2 hB2)
  clear hA hB h1 k1 h2 k2 hA2 h12 hB2
  go_region
  clear y0 y1 u0 u1 u2 v0 v1 v2
  have kd:=Below.drew (Below.refl W2.heap.size W2)
  have HS3:=Lib.hid (And.intro (HS.out.1.on kd) (Below.call HS.out.2 kd))
  clear HS kd
  go_wp2_with fail
  go_loopw [5] (fun s wr=>∃ i:Nat,i≤0∧s=.int .i64 (i:Int)∧offsOK (l.take i)=true∧Own wr w.heap.size 34 [.int .i64 2,.slice A 0 c]∧Below w.heap.size w wr) (fun s _=>0 - (intOf s).toNat)
  case atStart=>exact ⟨0,Nat.zero_le _,rfl,by simp [offsOK],HS3.out.1,HS3.out.2⟩
  case round=>
   obtain ⟨i,hi,rfl,hall,hA,hB⟩:=hrel
   clear HS3
   have HALL:=Lib.hid hall
   clear hall
   have y1:=hA.c1
   rcases Nat.lt_or_eq_of_le hi with hlt | heq
   ·omega
   ·subst heq
    have HS:=Lib.hid hB
    have HF:Hid (E=0):=Lib.hid (by have h9:=HALL.out;rw [List.take_of_length_le (by have:=HN.out;omega)] at h9;rw [HE1.out,h9,if_pos rfl])
    clear hA hB
    go_wp2
    go_returns
    exact ⟨by rw [HF.out];simp,HS.out⟩
 ·
  rcases hk with hk | hk
  ·
   go_enter Tryz.func58,Tryz.ntmps58
   go_upto_region 1 with fail
   refine wp_new1 fun W0 hA hB=>?_
   go_upto_region 2 with fail
   refine wp_new1 fun W1 h1 k1=>?_
   go_upto_region 3 with fail
   refine wp_new1 fun W2 h2 k2=>?_
   have hA2:=(hA.on k1).on k2
   have h12:=h1.on k2
   have hB2:=Below.call (Below.call hB k1) k2
   have y0:=hA2.c0
   have y1:=hA2.c1
   have u0:=h12.cell 0
   have v0:=h2.cell 0
   have u1:=h12.cell 1
   have v1:=h2.cell 1
   have u2:=h12.cell 2
   have v2:=h2.cell 2
   have HS:=Lib.hid (And.intro hA2 hB2)
   clear hA hB h1 k1 h2 k2 hA2 h12 hB2
   go_region
   clear y0 y1 u0 u1 u2 v0 v1 v2
   have kd:=Below.drew (Below.refl W2.heap.size W2)
   have HF:=Lib.hid (Below.call HS.out.2 kd)
   have HE1:Hid (E=1):=Lib.hid (by rw [← HE.out,if_neg (by simp <;> omega)])
   clear kd HS
   go_wp2
   go_returns
   exact ⟨by rw [HE1.out];simp,HF.out⟩
  ·
   have h3:¬ k<0:=by omega
   go_enter Tryz.func58,Tryz.ntmps58
   go_upto_region 1 with fail
   refine wp_new1 fun W0 hA hB=>?_
   go_upto_region 2 with fail
   refine wp_new1 fun W1 h1 k1=>?_
   go_upto_region 3 with fail
   refine wp_new1 fun W2 h2 k2=>?_
   have hA2:=(hA.on k1).on k2
   have h12:=h1.on k2
   have hB2:=Below.call (Below.call hB k1) k2
   have y0:=hA2.c0
   have y1:=hA2.c1
   have u0:=h12.cell 0
   have v0:=h2.cell 0
   have u1:=h12.cell 1
   have v1:=h2.cell 1
   have u2:=h12.cell 2
   have v2:=h2.cell 2
   have HS:=Lib.hid (And.intro hA2 hB2)
   clear hA hB h1 k1 h2 k2 hA2 h12 hB2
   go_region
   clear y0 y1 u0 u1 u2 v0 v1 v2
   have kd:=Below.drew (Below.refl W2.heap.size W2)
   have HF:=Lib.hid (Below.call HS.out.2 kd)
   have HE1:Hid (E=1):=Lib.hid (by rw [← HE.out,if_neg (by simp <;> omega)])
   clear kd HS
   go_wp2
   go_returns
   exact ⟨by rw [HE1.out];simp,HF.out⟩
set_option maxRecDepth 100000 in
set_option maxHeartbeats 3200000 in
theorem rValid_any (q:Qy.Qry) (hn:Qy.nodes q.reg≤1000000) (ho:q.offs.length≤1000000) (v:Value) (w:World) (hv:IsQry w q v):Calls Tryz.prog 25 #[v] w (RetInt w (Qy.validE q)):=by
 obtain ⟨n0,s1,n2,n3,n4,n5,n6,n7,A8,l8,c8,vA,vl,vc,rfl,hvl,hR,hI,hv1,hv2⟩:=hv
 obtain ⟨qk,QR,qv,qo,qd,qs⟩:=q
 simp only at hvl hR hI hn ho ⊢
 obtain ⟨E,hE⟩:∃ E,Qy.validE ⟨qk,QR,qv,qo,qd,qs⟩=E:=⟨_,rfl⟩
 rw [hE]
 unfold Qy.validE at hE
 simp only at hE
 have HG:=Lib.hid fun v u h=>Good38_any QR hn v u h
 have HV:Hid (∀ u,Below w.heap.size w u→Calls Tryz.prog 58 #[.agg #[.int .i64 qv,.slice vA vl vc]] u (RetInt u (if Qy.viewOK qv qo=true then 0 else 1))):=Lib.hid fun u k=>by rw [hvl];exact rView_any (c:=vc) (hI.on k) ho
 have HR:=Lib.hid hR.isReg
 obtain ⟨vb,hvb⟩:∃ b,Qy.viewOK qv qo=b:=⟨_,rfl⟩
 obtain ⟨re,hre⟩:∃ e,Qy.regE QR=e:=⟨_,rfl⟩
 rw [hvb] at HV
 rw [hre] at HG
 rw [hvb,hre] at hE
 have HE:=Lib.hid hE
 clear hvl hR hI hv1 hv2 hvb hre hE
 go_enter Tryz.func25,Tryz.ntmps25
 go_upto_region 1 with fail
 refine wp_new1 fun W0 hA hB=>?_
 have HA:=Lib.hid hA
 have HB:=Lib.hid hB
 obtain ⟨⟨y0,y1,y2,y3,y4,y5,y6,y7,y8,y9,y10,y11,y12,y13⟩,_⟩:=hA.all14
 clear hA hB
 by_cases j0:qk<0
 ·have HF:Hid (E=5):=Lib.hid (by rw [← HE.out,if_pos (by omega)])
  go_wp2
  go_returns
  exact ⟨by rw [HF.out];simp,HB.out⟩
 by_cases j1:255<qk
 ·have HF:Hid (E=5):=Lib.hid (by rw [← HE.out,if_pos (by omega)])
  go_wp2
  go_returns
  exact ⟨by rw [HF.out];simp,HB.out⟩
 by_cases j2:qd<0
 ·have HF:Hid (E=5):=Lib.hid (by rw [← HE.out,if_pos (by omega)])
  go_wp2
  go_returns
  exact ⟨by rw [HF.out];simp,HB.out⟩
 by_cases j3:73048<qd
 ·have HF:Hid (E=5):=Lib.hid (by rw [← HE.out,if_pos (by omega)])
  go_wp2
  go_returns
  exact ⟨by rw [HF.out];simp,HB.out⟩
 by_cases j4:qs<0
 ·have HF:Hid (E=5):=Lib.hid (by rw [← HE.out,if_pos (by omega)])
  go_wp2
  go_returns
  exact ⟨by rw [HF.out];simp,HB.out⟩
 by_cases j5:23<qs
 ·have HF:Hid (E=5):=Lib.hid (by rw [← HE.out,if_pos (by omega)])
  go_wp2
  go_returns
  exact ⟨by rw [HF.out];simp,HB.out⟩
 have HE2:Hid (E=if vb=false then 1 else re):=Lib.hid (by rw [← HE.out,if_neg (by omega)])
 cases vb
 ·have HF:Hid (E=1):=Lib.hid (by rw [HE2.out,if_pos rfl])
  go_wp2_with fail
  refine (HV.out _ HB.out).mono ?_
  rintro e w1 ⟨rfl,k1⟩
  have HB1:=Lib.hid (Below.call HB.out k1)
  clear k1 y0 y1 y2 y3 y4 y5 y6 y7 y8 y9 y10 y11 y12 y13
  go_wp2
  go_returns
  exact ⟨by rw [HF.out];simp,HB1.out⟩
 have HF:Hid (E=re):=Lib.hid (by rw [HE2.out,if_neg (by simp)])
 go_wp2_with fail
 refine (HV.out _ HB.out).mono ?_
 rintro e w1 ⟨rfl,k1⟩
 have hB1:=Below.call HB.out k1
 have HR1:=Lib.hid (HR.out.on hB1)
 clear y0 y1 y2 y3 y4 y5 y6 y7 y8 y9 y10 y11 y12 y13
 obtain ⟨⟨y0,y1,y2,y3,y4,y5,y6,y7,y8,y9,y10,y11,y12,y13⟩,_⟩:=(HA.out.on k1).all14
 clear k1
 go_wp2_with fail
 refine (HG.out _ _ HR1.out).mono ?_
 rintro e w2 ⟨rfl,k2⟩
 have HF2:=Lib.hid (Below.call hB1 k2)
 clear k2 hB1 y0 y1 y2 y3 y4 y5 y6 y7 y8 y9 y10 y11 y12 y13
 go_wp2
 go_returns
 exact ⟨by rw [HF.out];simp,HF2.out⟩
end Go.Proofs.YtmlpibdincfgbaaGreatDoor
