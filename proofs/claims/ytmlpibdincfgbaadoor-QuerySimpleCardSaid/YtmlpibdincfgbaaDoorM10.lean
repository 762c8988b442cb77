/-
  Chapter 38's reference: nodes, nesting.
-/
import Derived.Test.YtmlpibdincfgbaaDoorM9
import Derived.Test.YtmlpibdincfgbaaDoorK18
namespace Go.Proofs.YtmlpibdincfgbaaDoor
open Go.RowKit
set_option linter.unusedSimpArgs false
set_option linter.unusedVariables false
set_option maxRecDepth 100000 in
set_option maxHeartbeats 1600000 in
theorem rNodes:∀ (n:Nat) (R:Qy.Reg),Qy.nodes R≤n→n≤1000000→∀ (v:Value) (w:World),IsReg w R v→
 Calls Tryd.prog 25 #[v] w fun e w'=>e=.returned (.int .i64 (Qy.nodes R:Int))∧Below w.heap.size w w':=by
 intro n
 induction n with
 | zero=>intro R h;have:=Qy.nodes_pos R;omega
 | succ n ih=>
  intro R hn hN v w hv
  obtain ⟨cs,rfl,hR⟩:=hv
  obtain ⟨k,nm,ax,ay,b0,b1,b2,b3,kids⟩:=R
  rw [RegAt] at hR
  obtain ⟨A,c,rfl,hK⟩:=hR
  have HIH:Hid (∀ R∈kids,∀ (v:Value) (w:World),IsReg w R v→Calls Tryd.prog 25 #[v] w fun e w'=>e=.returned (.int .i64 (Qy.nodes R:Int))∧Below w.heap.size w w'):=Lib.hid fun R hR=>ih R (by have:=Qy.nodes_kid (k:=k) (nm:=nm) (ax:=ax) (ay:=ay) (b0:=b0) (b1:=b1) (b2:=b2) (b3:=b3) hR;omega) (by omega)
  have hnn:Qy.nodesL kids≤n:=by rw [Qy.nodes] at hn;omega
  have hnest:=Qy.nest_nodes _ _ hn
  rw [Qy.nest,Qy.nodes] at hnest
  have hRS:(Qy.nodes (.mk k nm ax ay b0 b1 b2 b3 kids):Int)=(1+(Qy.nodesL kids:Int)):=by rw [Qy.nodes];omega
  rw [hRS]
  obtain ⟨m,hm⟩:∃ m,kids.length=m:=⟨_,rfl⟩
  have HM:=Lib.hid hm
  have hml:=Qy.len_nodesL kids
  rw [hm] at hml
  rw [hm]
  clear hm ih hn hRS
  go_enter Tryd.func25,Tryd.ntmps25
  go_upto_region 1 with fail
  refine wp_new1 fun W0 hA hB=>?_
  have HK:=Lib.hid (And.intro hA (hK.on hB))
  have HB:=Lib.hid hB
  clear hK hB hA
  go_wp2_with fail
  go_loopw [3,4] (fun s3 s4 wr=>∃ i:Nat,i≤m∧s3=.int .i64 (1+(Qy.nodesL (kids.take i):Int))∧s4=.int .i64 (i:Int)∧Own wr w.heap.size 42 [.int .i64 k,.string (bs nm),.int .i64 ax,.int .i64 ay,.int .i64 b0,.int .i64 b1,.int .i64 b2,.int .i64 b3,.slice A m c]∧KidsAt wr (fun _=>True) A 0 kids∧Below w.heap.size w wr) (fun _ s4 _=>m - (intOf s4).toNat)
  case atStart=>exact ⟨0,by omega,by simp [Qy.nodesL],rfl,HK.out.1,HK.out.2,HB.out⟩
  case round=>
   obtain ⟨i,hi,rfl,rfl,hO,hK,hB⟩:=hrel
   rcases Nat.lt_or_eq_of_le hi with hlt | heq
   ·have i0:(0:Int)≤(i:Int):=by omega
    have i1:(i:Int)<(m:Int):=by omega
    obtain ⟨Ri,hRi⟩:∃ R,kids[i]? = some R:=⟨_,List.getElem?_eq_getElem (by have:=HM.out;omega)⟩
    obtain ⟨g,off,n0,s1,n2,n3,n4,n5,n6,n7,A8,l8,c8,rfl,_,hgl,⟨e0,e1,e2,e3,e4,e5,e6,e7,e8⟩,hR⟩:=hK.lit hRi
    have hbd:=Qy.nodesL_take_le kids (i+1)
    have hT:kids.take (i+1)=kids.take i++[Ri]:=by rw [List.take_add_one,hRi];rfl
    have hT1:Qy.nodesL (kids.take (i+1))=Qy.nodesL (kids.take i)+Qy.nodes Ri:=by rw [hT,Qy.nodesL_append,Qy.nodesL_one]
    have hT2:Qy.nestL (kids.take (i+1))=max (Qy.nestL (kids.take i)) (Qy.nest Ri):=by rw [hT,Qy.nestL_append];simp [Qy.nestL]
    have HT:=Lib.hid (And.intro hT1 hT2)
    have hns:=Qy.nest_nodes _ Ri (Nat.le_refl _)
    rw [hT1] at hbd
    obtain ⟨sa,hsa⟩:∃ sa,Qy.nodesL (kids.take i)=sa:=⟨_,rfl⟩
    obtain ⟨sb,hsb⟩:∃ sb,Qy.nestL (kids.take i)=sb:=⟨_,rfl⟩
    have HC:=Lib.hid (HIH.out Ri (List.mem_of_getElem? hRi))
    obtain ⟨na,hna⟩:∃ na,Qy.nodes Ri=na:=⟨_,rfl⟩
    obtain ⟨nb,hnb⟩:∃ nb,Qy.nest Ri=nb:=⟨_,rfl⟩
    rw [hsa,hsb,hna,hnb] at HT
    rw [hna] at HC
    rw [hna,hnb] at hns
    rw [hsa,hna] at hbd
    rw [hsa]
    have c8_:wr.cell? ⟨w.heap.size,8,none⟩=some (.slice (some ⟨g,off,none⟩) m c):=hO.cell 8
    have HS:=Lib.hid (And.intro hO (And.intro hK (And.intro hB hR.isReg)))
    clear hT hT1 hT2 hRi hsa hsb hna hnb hO hK hB hR
    go_wp2_with fail
    refine (HC.out _ _ HS.out.2.2.2).mono ?_
    rintro e w6 ⟨rfl,k6⟩
    have HS6:=Lib.hid (And.intro (HS.out.1.on k6) (And.intro (HS.out.2.1.on k6) (Below.call HS.out.2.2.1 k6)))
    clear e0 e1 e2 e3 e4 e5 e6 e7 e8 k6 c8_
    go_wp2_with fail
    go_roundw
    case rel=>exact ⟨i+1,by omega,by rw [HT.out.1];go_num,by go_num,HS6.out.1,HS6.out.2.1,HS6.out.2.2⟩
    case measure=>simp [intOf];omega
   ·have h1:kids.take i=kids:=List.take_of_length_le (by have:=HM.out;omega)
    rw [h1]
    have c8_:wr.cell? ⟨w.heap.size,8,none⟩=some (.slice A m c):=hO.cell 8
    have HB2:=Lib.hid hB
    clear h1 hK hB hO
    subst heq
    have hq1:Qy.nestL kids≤1000000:=by omega
    have hq2:(Qy.nestL kids:Int)≤1000000:=by omega
    go_wp2
    go_returns
    exact ⟨rfl,HB2.out⟩
set_option maxRecDepth 100000 in
set_option maxHeartbeats 1600000 in
theorem rNesting:∀ (n:Nat) (R:Qy.Reg),Qy.nodes R≤n→n≤1000000→∀ (v:Value) (w:World),IsReg w R v→
 Calls Tryd.prog 26 #[v] w fun e w'=>e=.returned (.int .i64 (Qy.nest R:Int))∧Below w.heap.size w w':=by
 intro n
 induction n with
 | zero=>intro R h;have:=Qy.nodes_pos R;omega
 | succ n ih=>
  intro R hn hN v w hv
  obtain ⟨cs,rfl,hR⟩:=hv
  obtain ⟨k,nm,ax,ay,b0,b1,b2,b3,kids⟩:=R
  rw [RegAt] at hR
  obtain ⟨A,c,rfl,hK⟩:=hR
  have HIH:Hid (∀ R∈kids,∀ (v:Value) (w:World),IsReg w R v→Calls Tryd.prog 26 #[v] w fun e w'=>e=.returned (.int .i64 (Qy.nest R:Int))∧Below w.heap.size w w'):=Lib.hid fun R hR=>ih R (by have:=Qy.nodes_kid (k:=k) (nm:=nm) (ax:=ax) (ay:=ay) (b0:=b0) (b1:=b1) (b2:=b2) (b3:=b3) hR;omega) (by omega)
  have hnn:Qy.nodesL kids≤n:=by rw [Qy.nodes] at hn;omega
  have hnest:=Qy.nest_nodes _ _ hn
  rw [Qy.nest,Qy.nodes] at hnest
  have hRS:(Qy.nest (.mk k nm ax ay b0 b1 b2 b3 kids):Int)=((Qy.nestL kids:Int)+1):=by rw [Qy.nest];omega
  rw [hRS]
  obtain ⟨m,hm⟩:∃ m,kids.length=m:=⟨_,rfl⟩
  have HM:=Lib.hid hm
  have hml:=Qy.len_nodesL kids
  rw [hm] at hml
  rw [hm]
  clear hm ih hn hRS
  go_enter Tryd.func26,Tryd.ntmps26
  go_upto_region 1 with fail
  refine wp_new1 fun W0 hA hB=>?_
  have HK:=Lib.hid (And.intro hA (hK.on hB))
  have HB:=Lib.hid hB
  clear hK hB hA
  go_wp2_with fail
  go_loopw [3,4] (fun s3 s4 wr=>∃ i:Nat,i≤m∧s3=.int .i64 ((Qy.nestL (kids.take i):Int))∧s4=.int .i64 (i:Int)∧Own wr w.heap.size 42 [.int .i64 k,.string (bs nm),.int .i64 ax,.int .i64 ay,.int .i64 b0,.int .i64 b1,.int .i64 b2,.int .i64 b3,.slice A m c]∧KidsAt wr (fun _=>True) A 0 kids∧Below w.heap.size w wr) (fun _ s4 _=>m - (intOf s4).toNat)
  case atStart=>exact ⟨0,by omega,by simp [Qy.nestL],rfl,HK.out.1,HK.out.2,HB.out⟩
  case round=>
   obtain ⟨i,hi,rfl,rfl,hO,hK,hB⟩:=hrel
   rcases Nat.lt_or_eq_of_le hi with hlt | heq
   ·have i0:(0:Int)≤(i:Int):=by omega
    have i1:(i:Int)<(m:Int):=by omega
    obtain ⟨Ri,hRi⟩:∃ R,kids[i]? = some R:=⟨_,List.getElem?_eq_getElem (by have:=HM.out;omega)⟩
    obtain ⟨g,off,n0,s1,n2,n3,n4,n5,n6,n7,A8,l8,c8,rfl,_,hgl,⟨e0,e1,e2,e3,e4,e5,e6,e7,e8⟩,hR⟩:=hK.lit hRi
    have hbd:=Qy.nodesL_take_le kids (i+1)
    have hT:kids.take (i+1)=kids.take i++[Ri]:=by rw [List.take_add_one,hRi];rfl
    have hT1:Qy.nodesL (kids.take (i+1))=Qy.nodesL (kids.take i)+Qy.nodes Ri:=by rw [hT,Qy.nodesL_append,Qy.nodesL_one]
    have hT2:Qy.nestL (kids.take (i+1))=max (Qy.nestL (kids.take i)) (Qy.nest Ri):=by rw [hT,Qy.nestL_append];simp [Qy.nestL]
    have HT:=Lib.hid (And.intro hT1 hT2)
    have hns:=Qy.nest_nodes _ Ri (Nat.le_refl _)
    rw [hT1] at hbd
    obtain ⟨sa,hsa⟩:∃ sa,Qy.nodesL (kids.take i)=sa:=⟨_,rfl⟩
    obtain ⟨sb,hsb⟩:∃ sb,Qy.nestL (kids.take i)=sb:=⟨_,rfl⟩
    have HC:=Lib.hid (HIH.out Ri (List.mem_of_getElem? hRi))
    obtain ⟨na,hna⟩:∃ na,Qy.nodes Ri=na:=⟨_,rfl⟩
    obtain ⟨nb,hnb⟩:∃ nb,Qy.nest Ri=nb:=⟨_,rfl⟩
    rw [hsa,hsb,hna,hnb] at HT
    rw [hnb] at HC
    rw [hna,hnb] at hns
    rw [hsa,hna] at hbd
    rw [hsb]
    have c8_:wr.cell? ⟨w.heap.size,8,none⟩=some (.slice (some ⟨g,off,none⟩) m c):=hO.cell 8
    have HS:=Lib.hid (And.intro hO (And.intro hK (And.intro hB hR.isReg)))
    clear hT hT1 hT2 hRi hsa hsb hna hnb hO hK hB hR
    go_wp2_with fail
    refine (HC.out _ _ HS.out.2.2.2).mono ?_
    rintro e w6 ⟨rfl,k6⟩
    have HS6:=Lib.hid (And.intro (HS.out.1.on k6) (And.intro (HS.out.2.1.on k6) (Below.call HS.out.2.2.1 k6)))
    clear e0 e1 e2 e3 e4 e5 e6 e7 e8 k6 c8_
    go_wp2_with fail
    go_roundw
    case rel=>exact ⟨i+1,by omega,by rw [HT.out.2];go_num,by go_num,HS6.out.1,HS6.out.2.1,HS6.out.2.2⟩
    case measure=>simp [intOf];omega
   ·have h1:kids.take i=kids:=List.take_of_length_le (by have:=HM.out;omega)
    rw [h1]
    have c8_:wr.cell? ⟨w.heap.size,8,none⟩=some (.slice A m c):=hO.cell 8
    have HB2:=Lib.hid hB
    clear h1 hK hB hO
    subst heq
    have hq1:Qy.nestL kids≤1000000:=by omega
    have hq2:(Qy.nestL kids:Int)≤1000000:=by omega
    go_wp2
    go_returns
    exact ⟨rfl,HB2.out⟩
end Go.Proofs.YtmlpibdincfgbaaDoor
