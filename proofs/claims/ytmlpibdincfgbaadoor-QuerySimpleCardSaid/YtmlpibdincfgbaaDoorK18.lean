/-
  Package point: Valid, ValidBox.
-/
import Derived.Test.YtmlpibdincfgbaaDoorT1
import Derived.Test.YtmlpibdincfgbaaDoorReg
import Derived.Test.YtmlpibdincfgbaaDoorK17
import Derived.Test.YtmlpibdincfgbaaDoorL32
namespace Go.Proofs.YtmlpibdincfgbaaDoor
open Go.RowKit Mag
theorem cmpI_le {x y:Int}:(cmpI x y≤0)↔x≤y:=by
 rcases Int.lt_trichotomy x y with h | h | h
 ·rw [cmpI_lt h];omega
 ·rw [cmpI_eq h];omega
 ·rw [cmpI_gt h];omega
def RetB (w:World) (b:Bool) (e:Ending) (w':World):Prop:=e=.returned (.bool b)∧Below w.heap.size w w'
set_option maxRecDepth 100000 in
theorem within_int (lo x hi:Int) (w:World):Calls Tryd.prog 97 #[.int .i64 lo,.int .i64 x,.int .i64 hi,.func (.func 98) #[] #[]] w (RetB w (decide (lo≤x)&&decide (x≤hi))):=by
 by_cases h:lo≤x
 ·have h1:decide (cmpI lo x≤0)=true:=by simp [cmpI_le,h]
  have h2:decide (cmpI x hi≤0)=(decide (lo≤x)&&decide (x≤hi)):=by simp [cmpI_le,h]
  clear h
  go_enter Tryd.func97,Tryd.ntmps97
  go_wp2_with fail
  refine (cmp_int lo x _).mono ?_
  rintro e w1 ⟨rfl,rfl⟩
  go_wp2_with fail
  refine (cmp_int x hi _).mono ?_
  rintro e w1 ⟨rfl,rfl⟩
  go_wp2
  go_returns
  exact ⟨by simp,by go_grown⟩
 ·have h1:decide (cmpI lo x≤0)=false:=by simp [cmpI_le];omega
  have h2:(decide (lo≤x)&&decide (x≤hi))=false:=by simp;omega
  go_enter Tryd.func97,Tryd.ntmps97
  go_wp2_with fail
  refine (cmp_int lo x _).mono ?_
  rintro e w1 ⟨rfl,rfl⟩
  go_wp2
  go_returns
  exact ⟨by simp;omega,by go_grown⟩
def goodC (n:Int):Bool:=decide (-1073741824≤n)&&decide (n≤1073741824)
def goodV (x y:Int):Int:=if goodC x&&goodC y then 0 else 5
set_option maxRecDepth 100000 in
theorem index2_0 (x y:Value) (w:World):(Instr.index 58 (.agg #[x,y]) (.int .i64 0)).run Tryd.prog w=.ok x w:=by kernel_rfl
theorem index2_1 (x y:Value) (w:World):(Instr.index 58 (.agg #[x,y]) (.int .i64 1)).run Tryd.prog w=.ok y w:=by kernel_rfl
theorem within_good (x:Int) (w:World):Calls Tryd.prog 97 #[.int .i64 (-1073741824),.int .i64 x,.int .i64 1073741824,.func (.func 98) #[] #[]] w (RetB w (goodC x)):=within_int _ _ _ _
set_option maxRecDepth 100000 in
theorem PValid_any (x y:Int) (w:World):Calls Tryd.prog 83 #[.agg #[.int .i64 x,.int .i64 y]] w (RetInt w (goodV x y)):=by
 go_enter Tryd.func83,Tryd.ntmps83
 go_wp2_with fail
 have hb0:=below_new w (.cells #[.int .i64 x,.int .i64 y] 27)
 generalize w.alloc (.cells #[.int .i64 x,.int .i64 y] 27)=W at hb0 ⊢
 go_loopw [10] (fun i wr=>∃ k:Nat,k≤2∧i=.int .i64 k∧Hid ((0<k→goodC x=true)∧(1<k→goodC y=true))∧Below w.heap.size w wr) (fun i _=>2 - (intOf i).toNat)
 case atStart=>exact ⟨0,by omega,rfl,Lib.hid ⟨by omega,by omega⟩,hb0⟩
 case round=>
  obtain ⟨k,hk,rfl,hg,hb⟩:=hrel
  rcases (by omega:k=0∨k=1∨k=2) with rfl | rfl | rfl
  ·have hix:=index2_0 (.int .i64 x) (.int .i64 y)
   go_wp2_with fail
   refine (within_good x _).mono ?_
   rintro e w1 ⟨rfl,hb1⟩
   have hb2:=Below.call hb hb1
   by_cases hc:goodC x=true
   ·rw [hc]
    have HC:=Lib.hid hc
    clear hc
    go_wp2_with fail
    go_roundw
    case rel=>exact ⟨1,by omega,rfl,Lib.hid ⟨by intro _;exact HC.out,by omega⟩,hb2⟩
    case measure=>simp [intOf]
   ·have hc2:goodC x=false:=by simpa using hc
    rw [hc2]
    have hv:goodV x y=5:=by simp [goodV,hc2]
    have HV:=Lib.hid hv
    clear hc hc2 hv
    go_wp2
    go_returns
    exact ⟨by rw [HV.out];simp,hb2⟩
  ·have hix:=index2_1 (.int .i64 x) (.int .i64 y)
   go_wp2_with fail
   refine (within_good y _).mono ?_
   rintro e w1 ⟨rfl,hb1⟩
   have hb2:=Below.call hb hb1
   by_cases hc:goodC y=true
   ·rw [hc]
    have HC:=Lib.hid hc
    clear hc
    go_wp2_with fail
    go_roundw
    case rel=>exact ⟨2,by omega,rfl,Lib.hid ⟨by intro _;exact hg.out.1 (by omega),by intro _;exact HC.out⟩,hb2⟩
    case measure=>simp [intOf]
   ·have hc2:goodC y=false:=by simpa using hc
    rw [hc2]
    have hv:goodV x y=5:=by simp [goodV,hc2]
    have HV:=Lib.hid hv
    clear hc hc2 hv
    go_wp2
    go_returns
    exact ⟨by rw [HV.out];simp,hb2⟩
  ·have hv:goodV x y=0:=by simp [goodV,hg.out.1 (by omega),hg.out.2 (by omega)]
   have HV:=Lib.hid hv
   clear hv
   go_wp2
   go_returns
   exact ⟨by rw [HV.out];simp,hb⟩
end Go.Proofs.YtmlpibdincfgbaaDoor
/-
 (second part)
-/
namespace Go.Proofs.YtmlpibdincfgbaaDoor
open Go.RowKit Mag
theorem goodV_cases (x y:Int):goodV x y=0∨goodV x y=5:=by
 unfold goodV
 split
 ·exact .inl rfl
 ·exact .inr rfl
def goodB (a b c d:Int):Int:=if goodV a b=0∧goodV c d=0∧a≤c∧b≤d then 0 else 5
theorem Own.newB (w:World) (t:TypeId) (a b c d:Int):Own (w.alloc (.cells #[.int .i64 a,.int .i64 b,.int .i64 c,.int .i64 d] t)) w.heap.size t [.int .i64 a,.int .i64 b,.int .i64 c,.int .i64 d]:=Own.new w t [.int .i64 a,.int .i64 b,.int .i64 c,.int .i64 d]
set_option maxRecDepth 100000 in
set_option maxHeartbeats 800000 in
theorem PValidBox_any (a b c d:Int) (w:World):Calls Tryd.prog 84 #[.agg #[.int .i64 a,.int .i64 b,.int .i64 c,.int .i64 d]] w (RetInt w (goodB a b c d)):=by
 go_enter Tryd.func84,Tryd.ntmps84
 go_upto_region 1 with fail
 have hO:=Own.newB w 29 a b c d
 have hB:=below_new w (.cells #[.int .i64 a,.int .i64 b,.int .i64 c,.int .i64 d] 29)
 generalize w.alloc (.cells #[.int .i64 a,.int .i64 b,.int .i64 c,.int .i64 d] 29)=W at hO hB ⊢
 have c0:=hO.c0
 have c1:=hO.c1
 go_wp2_with fail
 refine (PValid_any a b _).mono ?_
 rintro e w1 ⟨rfl,hb1⟩
 have hB1:=Below.call hB hb1
 have hO1:=hO.on hb1
 have d0:=hO1.c0
 have d1:=hO1.c1
 have d2:=hO1.c2
 have d3:=hO1.c3
 clear c0 c1
 rcases goodV_cases a b with h1 | h1
 ·rw [h1]
  go_wp2_with fail
  refine (PValid_any c d _).mono ?_
  rintro e w2 ⟨rfl,hb2⟩
  have hB2:=Below.call hB1 hb2
  have hO2:=hO1.on hb2
  have e0:=hO2.c0
  have e1:=hO2.c1
  have e2:=hO2.c2
  have e3:=hO2.c3
  clear d0 d1 d2 d3
  rcases goodV_cases c d with h2 | h2
  ·rw [h2]
   by_cases h3:c<a
   ·have k3:decide (c<a)=true:=by simp [h3]
    have hv:goodB a b c d=5:=if_neg (by omega)
    have HV:=Lib.hid hv
    clear h1 h2 h3 hv
    go_wp2
    go_returns
    exact ⟨by rw [HV.out];simp,hB2⟩
   ·have k3:decide (c<a)=false:=by simp;omega
    by_cases h4:d<b
    ·have k4:decide (d<b)=true:=by simp [h4]
     have hv:goodB a b c d=5:=if_neg (by omega)
     have HV:=Lib.hid hv
     clear h1 h2 h3 h4 hv
     go_wp2
     go_returns
     exact ⟨by rw [HV.out];simp,hB2⟩
    ·have k4:decide (d<b)=false:=by simp;omega
     have hv:goodB a b c d=0:=if_pos ⟨h1,h2,by omega,by omega⟩
     have HV:=Lib.hid hv
     clear h1 h2 h3 h4 hv
     go_wp2
     go_returns
     exact ⟨by rw [HV.out];simp,hB2⟩
  ·have hv:goodB a b c d=5:=if_neg (by omega)
   rw [h2]
   have HV:=Lib.hid hv
   clear h1 h2 hv
   go_wp2
   go_returns
   exact ⟨by rw [HV.out];simp,hB2⟩
 ·have hv:goodB a b c d=5:=if_neg (by omega)
  rw [h1]
  have HV:=Lib.hid hv
  clear h1 hv
  go_wp2
  go_returns
  exact ⟨by rw [HV.out];simp,hB1⟩
end Go.Proofs.YtmlpibdincfgbaaDoor
/-
 (second part)
-/
namespace Go.Proofs.YtmlpibdincfgbaaDoor
open Go.RowKit
set_option linter.unusedSimpArgs false
set_option linter.unusedVariables false
theorem KidsAt.get {w:World} {S:Nat→Prop} {A:Option Addr}:∀ {l:List Qy.Reg} {i0 i:Nat} {R:Qy.Reg},KidsAt w S A i0 l→l[i]? = some R→∃ g off cs,A=some ⟨g,off,none⟩∧S g∧g<w.heap.size∧(∀ j v,cs[j]? = some v→w.cell? ⟨g,off+(i0+i) * 9+j,none⟩=some v)∧RegAt w S cs R
 | r :: l,i0,0,R,h,hR=>by
  rw [KidsAt] at h
  obtain ⟨⟨g,off,cs,h1,h2,h3,h4,h5⟩,_⟩:=h
  simp only [List.getElem?_cons_zero,Option.some.injEq] at hR
  subst hR
  exact ⟨g,off,cs,h1,h2,h3,h4,h5⟩
 | r :: l,i0,i+1,R,h,hR=>by
  rw [KidsAt] at h
  have:=KidsAt.get (i:=i) h.2 (by simpa using hR)
  rwa [show i0+1+i=i0+(i+1) by omega] at this
theorem KidsAt.lit {w:World} {S:Nat→Prop} {A:Option Addr} {l:List Qy.Reg} {i:Nat} {R:Qy.Reg} (h:KidsAt w S A 0 l) (hR:l[i]? = some R):∃ g off n0 s1 n2 n3 n4 n5 n6 n7 A8 l8 c8,A=some ⟨g,off,none⟩∧S g∧g<w.heap.size∧
 (w.cell? ⟨g,off+i * 9,none⟩=some (.int .i64 n0)∧w.cell? ⟨g,off+i * 9+1,none⟩=some (.string s1)∧w.cell? ⟨g,off+i * 9+2,none⟩=some (.int .i64 n2)∧w.cell? ⟨g,off+i * 9+3,none⟩=some (.int .i64 n3)∧w.cell? ⟨g,off+i * 9+4,none⟩=some (.int .i64 n4)∧w.cell? ⟨g,off+i * 9+5,none⟩=some (.int .i64 n5)∧w.cell? ⟨g,off+i * 9+6,none⟩=some (.int .i64 n6)∧w.cell? ⟨g,off+i * 9+7,none⟩=some (.int .i64 n7)∧w.cell? ⟨g,off+i * 9+8,none⟩=some (.slice A8 l8 c8))∧
 RegAt w S [.int .i64 n0,.string s1,.int .i64 n2,.int .i64 n3,.int .i64 n4,.int .i64 n5,.int .i64 n6,.int .i64 n7,.slice A8 l8 c8] R:=by
 obtain ⟨g,off,cs,h1,h2,h3,h4,h5⟩:=h.get hR
 obtain ⟨A8,c8,rfl,_⟩:=h5.cells
 obtain ⟨n0,s1,n2,n3,n4,n5,n6,n7,l8,e⟩:=regCells_parts R A8 c8
 rw [e] at h4 h5
 simp only [Nat.zero_add] at h4
 exact ⟨g,off,n0,s1,n2,n3,n4,n5,n6,n7,A8,l8,c8,h1,h2,h3,⟨h4 0 _ rfl,h4 1 _ rfl,h4 2 _ rfl,h4 3 _ rfl,h4 4 _ rfl,h4 5 _ rfl,h4 6 _ rfl,h4 7 _ rfl,h4 8 _ rfl⟩,h5⟩
theorem RegAt.on {w w':World} {S:Nat→Prop} {cs:List Value} {R:Qy.Reg} (h:RegAt w S cs R) (k:Below w.heap.size w w'):RegAt w' S cs R:=RegAt.keep k.size (fun g hg hl=>⟨hg,k.block g hl⟩) _ _ h
theorem KidsAt.on {w w':World} {S:Nat→Prop} {A:Option Addr} {i:Nat} {l:List Qy.Reg} (h:KidsAt w S A i l) (k:Below w.heap.size w w'):KidsAt w' S A i l:=KidsAt.keep k.size (fun g hg hl=>⟨hg,k.block g hl⟩) _ _ _ h
def IsReg (w:World) (R:Qy.Reg) (v:Value):Prop:=∃ cs,v=.agg cs.toArray∧RegAt w (fun _=>True) cs R
theorem RegAt.isReg {w:World} {S:Nat→Prop} {cs:List Value} {R:Qy.Reg} (h:RegAt w S cs R):IsReg w R (.agg cs.toArray):=⟨cs,rfl,RegAt.keep (Nat.le_refl _) (fun _ _ _=>⟨trivial,rfl⟩) _ _ h⟩
set_option maxRecDepth 100000 in
set_option maxHeartbeats 1600000 in
theorem size_any:∀ (n:Nat) (R:Qy.Reg),Qy.nodes R≤n→n≤1000000→∀ (v:Value) (w:World),IsReg w R v→
 Calls Tryd.prog 56 #[v] w fun e w'=>e=.returned (.tuple #[.int .i64 (Qy.nodes R:Int),.int .i64 (Qy.nest R:Int)])∧Below w.heap.size w w':=by
 intro n
 induction n with
 | zero=>intro R h;have:=Qy.nodes_pos R;omega
 | succ n ih=>
  intro R hn hN v w hv
  obtain ⟨cs,rfl,hR⟩:=hv
  obtain ⟨k,nm,ax,ay,b0,b1,b2,b3,kids⟩:=R
  rw [RegAt] at hR
  obtain ⟨A,c,rfl,hK⟩:=hR
  have HIH:Hid (∀ R∈kids,∀ (v:Value) (w:World),IsReg w R v→Calls Tryd.prog 56 #[v] w fun e w'=>e=.returned (.tuple #[.int .i64 (Qy.nodes R:Int),.int .i64 (Qy.nest R:Int)])∧Below w.heap.size w w'):=Lib.hid fun R hR=>ih R (by have:=Qy.nodes_kid (k:=k) (nm:=nm) (ax:=ax) (ay:=ay) (b0:=b0) (b1:=b1) (b2:=b2) (b3:=b3) hR;omega) (by omega)
  have hnn:Qy.nodesL kids≤n:=by rw [Qy.nodes] at hn;omega
  have hnest:=Qy.nest_nodes _ _ hn
  rw [Qy.nodes,Qy.nest] at *
  obtain ⟨m,hm⟩:∃ m,kids.length=m:=⟨_,rfl⟩
  have HM:=Lib.hid hm
  have hml:=Qy.len_nodesL kids
  rw [hm] at hml
  rw [hm]
  clear hm ih hn
  go_enter Tryd.func56,Tryd.ntmps56
  go_upto_region 2 with fail
  refine wp_new1 fun W0 hA hB=>?_
  have HK:=Lib.hid (hK.on hB)
  have HB:=Lib.hid hB
  clear hK hB hA
  go_wp2_with fail
  go_loopw [2,3,11] (fun s2 s3 s11 wr=>∃ i:Nat,i≤m∧s2=.int .i64 (Qy.nodesL (kids.take i):Int)∧s3=.int .i64 (Qy.nestL (kids.take i):Int)∧s11=.int .i64 (i:Int)∧KidsAt wr (fun _=>True) A 0 kids∧Below w.heap.size w wr) (fun _ _ s11 _=>m - (intOf s11).toNat)
  case atStart=>exact ⟨0,by omega,by simp [Qy.nodesL],by simp [Qy.nestL],rfl,HK.out,HB.out⟩
  case round=>
   obtain ⟨i,hi,rfl,rfl,rfl,hK,hB⟩:=hrel
   rcases Nat.lt_or_eq_of_le hi with hlt | heq
   ·have i0:(0:Int)≤(i:Int):=by omega
    have i1:(i:Int)<(m:Int):=by omega
    obtain ⟨Ri,hRi⟩:∃ R,kids[i]? = some R:=⟨_,List.getElem?_eq_getElem (by have:=HM.out;omega)⟩
    obtain ⟨g,off,n0,s1,n2,n3,n4,n5,n6,n7,A8,l8,c8,rfl,_,hgl,⟨e0,e1,e2,e3,e4,e5,e6,e7,e8⟩,hR⟩:=hK.lit hRi
    have hbd:=Qy.nodesL_take_le kids (i+1)
    have hT:kids.take (i+1)=kids.take i++[Ri]:=by rw [List.take_add_one,hRi];rfl
    have hT1:Qy.nodesL (kids.take (i+1))=Qy.nodesL (kids.take i)+Qy.nodes Ri:=by rw [hT,Qy.nodesL_append,Qy.nodesL_one]
    have hT2:Qy.nestL (kids.take (i+1))=max (Qy.nestL (kids.take i)) (Qy.nest Ri):=by rw [hT,Qy.nestL_append];simp [Qy.nestL]
    have HT:=Lib.hid (And.intro hT1 hT2)
    have hnest:=Qy.nest_nodes _ Ri (Nat.le_refl _)
    rw [hT1] at hbd
    obtain ⟨sa,hsa⟩:∃ sa,Qy.nodesL (kids.take i)=sa:=⟨_,rfl⟩
    obtain ⟨sb,hsb⟩:∃ sb,Qy.nestL (kids.take i)=sb:=⟨_,rfl⟩
    have HC:=Lib.hid (HIH.out Ri (List.mem_of_getElem? hRi))
    obtain ⟨na,hna⟩:∃ na,Qy.nodes Ri=na:=⟨_,rfl⟩
    obtain ⟨nb,hnb⟩:∃ nb,Qy.nest Ri=nb:=⟨_,rfl⟩
    rw [hsa,hsb,hna,hnb] at HT
    rw [hna,hnb] at HC hnest
    rw [hsa,hna] at hbd
    rw [hsa,hsb]
    clear hT hT1 hT2 hRi hsa hsb hna hnb
    go_upto_region 4 with fail
    refine wp_new1 fun W5 hQ kn=>?_
    have hB5:=Below.call hB kn
    have hK5:=hK.on kn
    have hR5:=(hR.on kn).isReg
    obtain ⟨⟨y0,y1,y2,y3,y4,y5,y6,y7,y8⟩,_⟩:=hQ.all9
    clear e0 e1 e2 e3 e4 e5 e6 e7 e8 hK hR hB kn hQ
    go_wp2_with fail
    refine (HC.out _ _ hR5).mono ?_
    rintro e w6 ⟨rfl,k6⟩
    have hB6:=Below.call hB5 k6
    have hK6:=hK5.on k6
    clear y0 y1 y2 y3 y4 y5 y6 y7 y8 hB5 hK5 hR5 k6
    go_wp2_with fail
    go_roundw
    case rel=>exact ⟨i+1,by omega,by rw [HT.out.1];go_num,by rw [HT.out.2];go_num,by go_num,hK6,hB6⟩
    case measure=>simp [intOf];omega
   ·have h1:kids.take i=kids:=List.take_of_length_le (by have:=HM.out;omega)
    rw [h1]
    have HB2:=Lib.hid hB
    clear h1 hK hB
    go_wp2_with fail
    go_ret2
    exact ⟨by simp,HB2.out⟩
theorem goodB_box (a b c d:Int):goodB a b c d=if Qy.boxOK a b c d=true then 0 else 5:=by
 have e:∀ x y,(goodV x y=0)=(Qy.ptOK x y=true):=fun x y=>by
  have:goodV x y=if Qy.ptOK x y=true then 0 else 5:=by unfold goodV goodC Qy.ptOK;simp [Bool.and_assoc]
  rw [this]
  by_cases h:Qy.ptOK x y=true
  ·simp [h]
  ·simp [h]
 unfold goodB Qy.boxOK
 simp only [e,Bool.and_eq_true,decide_eq_true_eq,and_assoc]
set_option maxRecDepth 100000 in
set_option maxHeartbeats 6400000 in
theorem node_any:∀ (n:Nat) (R:Qy.Reg),Qy.nodes R≤n→n≤1000000→∀ (v:Value) (w:World),IsReg w R v→Calls Tryd.prog 57 #[v] w (RetInt w (Qy.nodeE R)):=by
 intro n
 induction n with
 | zero=>intro R h;have:=Qy.nodes_pos R;omega
 | succ n ih=>
  intro R hn hN v w hv
  obtain ⟨cs,rfl,hR⟩:=hv
  obtain ⟨k,nm,ax,ay,b0,b1,b2,b3,kids⟩:=R
  rw [RegAt] at hR
  obtain ⟨A,c,rfl,hK⟩:=hR
  have HIH:Hid (∀ R∈kids,∀ (v:Value) (w:World),IsReg w R v→Calls Tryd.prog 57 #[v] w (RetInt w (Qy.nodeE R))):=Lib.hid fun R hR=>ih R (by have:=Qy.nodes_kid (k:=k) (nm:=nm) (ax:=ax) (ay:=ay) (b0:=b0) (b1:=b1) (b2:=b2) (b3:=b3) hR;omega) (by omega)
  have hml:=Qy.len_nodesL kids
  have hml2:kids.length≤n:=by rw [Qy.nodes] at hn;omega
  obtain ⟨E,hE⟩:∃ E,Qy.nodeE (.mk k nm ax ay b0 b1 b2 b3 kids)=E:=⟨_,rfl⟩
  rw [hE]
  rw [Qy.nodeE_eq] at hE
  obtain ⟨m,hm⟩:∃ m,kids.length=m:=⟨_,rfl⟩
  have HM:=Lib.hid hm
  rw [hm] at hE
  have HE:=Lib.hid hE
  rw [hm] at hml hml2 ⊢
  clear hm ih hn hml hE
  have hp0:Qy.ptOK 0 0=true:=by decide
  have hx0:Qy.boxOK 0 0 0 0=true:=by decide
  have HP0:=Lib.hid (And.intro hp0 hx0)
  clear hp0 hx0
  rcases (by omega:k=0∨k=1∨k=2∨k=3∨k=4∨k=5∨k=6∨(k<0∨6<k)) with rfl | rfl | rfl | rfl | rfl | rfl | rfl | hko
  ·
   go_enter Tryd.func57,Tryd.ntmps57
   go_upto_region 1 with fail
   refine wp_new1 fun W0 hA hB=>?_
   have HK:=Lib.hid (hK.on hB)
   have HB:=Lib.hid hB
   clear hK hB
   obtain ⟨⟨y0,y1,y2,y3,y4,y5,y6,y7,y8⟩,_⟩:=hA.all9
   have HA:=Lib.hid hA
   clear hA
   go_wp2_with fail
   refine (in_any _ _ _ _).mono ?_
   rintro e w1 ⟨rfl,e_⟩
   subst e_
   by_cases hm:m=0
   rotate_left
   ·
    have hm0:0<m:=by omega
    have HF:Hid (E=1):=Lib.hid (by rw [← HE.out];simp [Qy.nodeF,hm])
    go_wp2
    go_returns
    exact ⟨by rw [HF.out];simp,HB.out⟩
   subst hm
   by_cases hnm:nm=[]
   rotate_left
   ·
    have hs1:((bs nm).toList==[])=false:=by rw [bs_toList];simpa using hnm
    have hs2:((bs nm).toList != [])=true:=by rw [bne,hs1];rfl
    have HF:Hid (E=1):=Lib.hid (by rw [← HE.out];simp [Qy.nodeF,hnm])
    go_wp2
    go_returns
    exact ⟨by rw [HF.out];simp,HB.out⟩
   subst hnm
   have hs1:((bs []).toList==[])=true:=by rw [bs_toList];rfl
   have hs2:((bs []).toList != [])=false:=by rw [bs_toList];rfl
   by_cases hv:ax=0
   rotate_left
   ·
    have HF:Hid (E=1):=Lib.hid (by rw [← HE.out];simp [Qy.nodeF,hv])
    go_wp2
    go_returns
    exact ⟨by rw [HF.out];simp,HB.out⟩
   subst hv
   by_cases hv:ay=0
   rotate_left
   ·
    have HF:Hid (E=1):=Lib.hid (by rw [← HE.out];simp [Qy.nodeF,hv])
    go_wp2
    go_returns
    exact ⟨by rw [HF.out];simp,HB.out⟩
   subst hv
   by_cases hv:b0=0
   rotate_left
   ·
    have HF:Hid (E=1):=Lib.hid (by rw [← HE.out];simp [Qy.nodeF,hv])
    go_wp2
    go_returns
    exact ⟨by rw [HF.out];simp,HB.out⟩
   subst hv
   by_cases hv:b1=0
   rotate_left
   ·
    have HF:Hid (E=1):=Lib.hid (by rw [← HE.out];simp [Qy.nodeF,hv])
    go_wp2
    go_returns
    exact ⟨by rw [HF.out];simp,HB.out⟩
   subst hv
   by_cases hv:b2=0
   rotate_left
   ·
    have HF:Hid (E=1):=Lib.hid (by rw [← HE.out];simp [Qy.nodeF,hv])
    go_wp2
    go_returns
    exact ⟨by rw [HF.out];simp,HB.out⟩
   subst hv
   by_cases hv:b3=0
   rotate_left
   ·
    have HF:Hid (E=1):=Lib.hid (by rw [← HE.out];simp [Qy.nodeF,hv])
    go_wp2
    go_returns
    exact ⟨by rw [HF.out];simp,HB.out⟩
   subst hv
   go_wp2_with fail
   have hg:goodV 0 0=0:=by decide
   have HG:=Lib.hid (PValid_any 0 0 w1)
   rw [hg] at HG
   clear hg
   refine HG.out.mono ?_
   rintro e w2 ⟨rfl,k2⟩
   have hA2:=HA.out.on k2
   have hB2:=Below.call HB.out k2
   have hK2:=HK.out.on k2
   clear HG k2 y0 y1 y2 y3 y4 y5 y6 y7 y8
   obtain ⟨⟨y0,y1,y2,y3,y4,y5,y6,y7,y8⟩,_⟩:=hA2.all9
   have hg:goodB 0 0 0 0=0:=by decide
   have HG:=Lib.hid (PValidBox_any 0 0 0 0 w2)
   rw [hg] at HG
   clear hg
   have HX:=Lib.hid (And.intro hA2 (And.intro hB2 hK2))
   clear hA2 hB2 hK2
   go_wp2_with fail
   refine HG.out.mono ?_
   rintro e w3 ⟨rfl,k2⟩
   have hA3:=HX.out.1.on k2
   have hB3:=Below.call HX.out.2.1 k2
   have hK3:=HX.out.2.2.on k2
   clear HG HX k2 y0 y1 y2 y3 y4 y5 y6 y7 y8
   obtain ⟨⟨y0,y1,y2,y3,y4,y5,y6,y7,y8⟩,_⟩:=hA3.all9
   have HF:Hid (E=Qy.nodesE kids):=Lib.hid (by rw [← HE.out];simp [Qy.nodeF,HP0.out.1,HP0.out.2])
   have HB3:=Lib.hid hB3
   have HN0:Hid (Qy.nodesE kids=0):=Lib.hid (by rw [List.eq_nil_of_length_eq_zero HM.out,Qy.nodesE])
   clear hA3 hB3 hK3
   go_wp2_with fail
   clear y0 y1 y2 y3 y4 y5 y6 y7 y8
   go_loopw [86] (fun s wr=>s=.int .i64 0∧Below w.heap.size w wr) (fun _ _=>0)
   case atStart=>exact ⟨rfl,HB3.out⟩
   case round=>
    obtain ⟨rfl,hB⟩:=hrel
    have HB6:=Lib.hid hB
    clear hB
    go_wp2
    go_returns
    exact ⟨by rw [HF.out,HN0.out];simp,HB6.out⟩
  ·
   go_enter Tryd.func57,Tryd.ntmps57
   go_upto_region 1 with fail
   refine wp_new1 fun W0 hA hB=>?_
   have HK:=Lib.hid (hK.on hB)
   have HB:=Lib.hid hB
   clear hK hB
   obtain ⟨⟨y0,y1,y2,y3,y4,y5,y6,y7,y8⟩,_⟩:=hA.all9
   have HA:=Lib.hid hA
   clear hA
   go_wp2_with fail
   refine (in_any _ _ _ _).mono ?_
   rintro e w1 ⟨rfl,e_⟩
   subst e_
   by_cases hm:m=0
   rotate_left
   ·
    have hm0:0<m:=by omega
    have HF:Hid (E=1):=Lib.hid (by rw [← HE.out];simp [Qy.nodeF,hm])
    go_wp2
    go_returns
    exact ⟨by rw [HF.out];simp,HB.out⟩
   subst hm
   by_cases hv:ax=0
   rotate_left
   ·
    have HF:Hid (E=1):=Lib.hid (by rw [← HE.out];simp [Qy.nodeF,hv])
    go_wp2
    go_returns
    exact ⟨by rw [HF.out];simp,HB.out⟩
   subst hv
   by_cases hv:ay=0
   rotate_left
   ·
    have HF:Hid (E=1):=Lib.hid (by rw [← HE.out];simp [Qy.nodeF,hv])
    go_wp2
    go_returns
    exact ⟨by rw [HF.out];simp,HB.out⟩
   subst hv
   by_cases hv:b0=0
   rotate_left
   ·
    have HF:Hid (E=1):=Lib.hid (by rw [← HE.out];simp [Qy.nodeF,hv])
    go_wp2
    go_returns
    exact ⟨by rw [HF.out];simp,HB.out⟩
   subst hv
   by_cases hv:b1=0
   rotate_left
   ·
    have HF:Hid (E=1):=Lib.hid (by rw [← HE.out];simp [Qy.nodeF,hv])
    go_wp2
    go_returns
    exact ⟨by rw [HF.out];simp,HB.out⟩
   subst hv
   by_cases hv:b2=0
   rotate_left
   ·
    have HF:Hid (E=1):=Lib.hid (by rw [← HE.out];simp [Qy.nodeF,hv])
    go_wp2
    go_returns
    exact ⟨by rw [HF.out];simp,HB.out⟩
   subst hv
   by_cases hv:b3=0
   rotate_left
   ·
    have HF:Hid (E=1):=Lib.hid (by rw [← HE.out];simp [Qy.nodeF,hv])
    go_wp2
    go_returns
    exact ⟨by rw [HF.out];simp,HB.out⟩
   subst hv
   obtain ⟨nok,hnok⟩:∃ b,Qy.nameOK nm=b:=⟨_,rfl⟩
   have HNm:=Lib.hid fun u=>name_any nm u
   rw [hnok] at HNm
   cases nok
   ·
    go_wp2_with fail
    refine (HNm.out _).mono ?_
    rintro e w2 ⟨rfl,e_⟩
    subst e_
    have HF:Hid (E=6):=Lib.hid (by rw [← HE.out];simp [Qy.nodeF,hnok])
    go_wp2
    go_returns
    exact ⟨by rw [HF.out];simp,HB.out⟩
   go_wp2_with fail
   refine (HNm.out _).mono ?_
   rintro e w2 ⟨rfl,e_⟩
   subst e_
   go_wp2_with fail
   have hg:goodV 0 0=0:=by decide
   have HG:=Lib.hid (PValid_any 0 0 w2)
   rw [hg] at HG
   clear hg
   refine HG.out.mono ?_
   rintro e w2 ⟨rfl,k2⟩
   have hA2:=HA.out.on k2
   have hB2:=Below.call HB.out k2
   have hK2:=HK.out.on k2
   clear HG k2 y0 y1 y2 y3 y4 y5 y6 y7 y8
   obtain ⟨⟨y0,y1,y2,y3,y4,y5,y6,y7,y8⟩,_⟩:=hA2.all9
   have hg:goodB 0 0 0 0=0:=by decide
   have HG:=Lib.hid (PValidBox_any 0 0 0 0 w2)
   rw [hg] at HG
   clear hg
   have HX:=Lib.hid (And.intro hA2 (And.intro hB2 hK2))
   clear hA2 hB2 hK2
   go_wp2_with fail
   refine HG.out.mono ?_
   rintro e w3 ⟨rfl,k2⟩
   have hA3:=HX.out.1.on k2
   have hB3:=Below.call HX.out.2.1 k2
   have hK3:=HX.out.2.2.on k2
   clear HG HX k2 y0 y1 y2 y3 y4 y5 y6 y7 y8
   obtain ⟨⟨y0,y1,y2,y3,y4,y5,y6,y7,y8⟩,_⟩:=hA3.all9
   have HF:Hid (E=Qy.nodesE kids):=Lib.hid (by rw [← HE.out];simp [Qy.nodeF,HP0.out.1,HP0.out.2,hnok])
   have HB3:=Lib.hid hB3
   have HN0:Hid (Qy.nodesE kids=0):=Lib.hid (by rw [List.eq_nil_of_length_eq_zero HM.out,Qy.nodesE])
   clear hA3 hB3 hK3
   go_wp2_with fail
   clear y0 y1 y2 y3 y4 y5 y6 y7 y8
   go_loopw [86] (fun s wr=>s=.int .i64 0∧Below w.heap.size w wr) (fun _ _=>0)
   case atStart=>exact ⟨rfl,HB3.out⟩
   case round=>
    obtain ⟨rfl,hB⟩:=hrel
    have HB6:=Lib.hid hB
    clear hB
    go_wp2
    go_returns
    exact ⟨by rw [HF.out,HN0.out];simp,HB6.out⟩
  ·
   go_enter Tryd.func57,Tryd.ntmps57
   go_upto_region 1 with fail
   refine wp_new1 fun W0 hA hB=>?_
   have HK:=Lib.hid (hK.on hB)
   have HB:=Lib.hid hB
   clear hK hB
   obtain ⟨⟨y0,y1,y2,y3,y4,y5,y6,y7,y8⟩,_⟩:=hA.all9
   have HA:=Lib.hid hA
   clear hA
   go_wp2_with fail
   refine (in_any _ _ _ _).mono ?_
   rintro e w1 ⟨rfl,e_⟩
   subst e_
   by_cases hm:m=0
   rotate_left
   ·
    have hm0:0<m:=by omega
    have HF:Hid (E=1):=Lib.hid (by rw [← HE.out];simp [Qy.nodeF,hm])
    go_wp2
    go_returns
    exact ⟨by rw [HF.out];simp,HB.out⟩
   subst hm
   by_cases hnm:nm=[]
   rotate_left
   ·
    have hs1:((bs nm).toList==[])=false:=by rw [bs_toList];simpa using hnm
    have hs2:((bs nm).toList != [])=true:=by rw [bne,hs1];rfl
    have HF:Hid (E=1):=Lib.hid (by rw [← HE.out];simp [Qy.nodeF,hnm])
    go_wp2
    go_returns
    exact ⟨by rw [HF.out];simp,HB.out⟩
   subst hnm
   have hs1:((bs []).toList==[])=true:=by rw [bs_toList];rfl
   have hs2:((bs []).toList != [])=false:=by rw [bs_toList];rfl
   by_cases hv:b0=0
   rotate_left
   ·
    have HF:Hid (E=1):=Lib.hid (by rw [← HE.out];simp [Qy.nodeF,hv])
    go_wp2
    go_returns
    exact ⟨by rw [HF.out];simp,HB.out⟩
   subst hv
   by_cases hv:b1=0
   rotate_left
   ·
    have HF:Hid (E=1):=Lib.hid (by rw [← HE.out];simp [Qy.nodeF,hv])
    go_wp2
    go_returns
    exact ⟨by rw [HF.out];simp,HB.out⟩
   subst hv
   by_cases hv:b2=0
   rotate_left
   ·
    have HF:Hid (E=1):=Lib.hid (by rw [← HE.out];simp [Qy.nodeF,hv])
    go_wp2
    go_returns
    exact ⟨by rw [HF.out];simp,HB.out⟩
   subst hv
   by_cases hv:b3=0
   rotate_left
   ·
    have HF:Hid (E=1):=Lib.hid (by rw [← HE.out];simp [Qy.nodeF,hv])
    go_wp2
    go_returns
    exact ⟨by rw [HF.out];simp,HB.out⟩
   subst hv
   go_wp2_with fail
   have HG:=Lib.hid (PValid_any ax ay w1)
   have hgp:goodV ax ay=if Qy.ptOK ax ay=true then 0 else 5:=by unfold goodV goodC Qy.ptOK;simp [Bool.and_assoc]
   cases hpt:Qy.ptOK ax ay
   ·
    rw [hpt] at hgp
    rw [hgp,if_neg (by simp)] at HG
    refine HG.out.mono ?_
    rintro e w2 ⟨rfl,k2⟩
    have HB2:=Lib.hid (Below.call HB.out k2)
    clear k2 hgp
    have HF:Hid (E=5):=Lib.hid (by rw [← HE.out];simp [Qy.nodeF,hpt])
    go_wp2
    go_returns
    exact ⟨by rw [HF.out];simp,HB2.out⟩
   rw [hpt] at hgp
   rw [hgp,if_pos rfl] at HG
   clear hgp
   refine HG.out.mono ?_
   rintro e w2 ⟨rfl,k2⟩
   have hA2:=HA.out.on k2
   have hB2:=Below.call HB.out k2
   have hK2:=HK.out.on k2
   clear HG k2 y0 y1 y2 y3 y4 y5 y6 y7 y8
   obtain ⟨⟨y0,y1,y2,y3,y4,y5,y6,y7,y8⟩,_⟩:=hA2.all9
   have hg:goodB 0 0 0 0=0:=by decide
   have HG:=Lib.hid (PValidBox_any 0 0 0 0 w2)
   rw [hg] at HG
   clear hg
   have HX:=Lib.hid (And.intro hA2 (And.intro hB2 hK2))
   clear hA2 hB2 hK2
   go_wp2_with fail
   refine HG.out.mono ?_
   rintro e w3 ⟨rfl,k2⟩
   have hA3:=HX.out.1.on k2
   have hB3:=Below.call HX.out.2.1 k2
   have hK3:=HX.out.2.2.on k2
   clear HG HX k2 y0 y1 y2 y3 y4 y5 y6 y7 y8
   obtain ⟨⟨y0,y1,y2,y3,y4,y5,y6,y7,y8⟩,_⟩:=hA3.all9
   have HF:Hid (E=Qy.nodesE kids):=Lib.hid (by rw [← HE.out];simp [Qy.nodeF,HP0.out.1,HP0.out.2,hpt])
   have HB3:=Lib.hid hB3
   have HN0:Hid (Qy.nodesE kids=0):=Lib.hid (by rw [List.eq_nil_of_length_eq_zero HM.out,Qy.nodesE])
   clear hA3 hB3 hK3
   go_wp2_with fail
   clear y0 y1 y2 y3 y4 y5 y6 y7 y8
   go_loopw [86] (fun s wr=>s=.int .i64 0∧Below w.heap.size w wr) (fun _ _=>0)
   case atStart=>exact ⟨rfl,HB3.out⟩
   case round=>
    obtain ⟨rfl,hB⟩:=hrel
    have HB6:=Lib.hid hB
    clear hB
    go_wp2
    go_returns
    exact ⟨by rw [HF.out,HN0.out];simp,HB6.out⟩
  ·
   go_enter Tryd.func57,Tryd.ntmps57
   go_upto_region 1 with fail
   refine wp_new1 fun W0 hA hB=>?_
   have HK:=Lib.hid (hK.on hB)
   have HB:=Lib.hid hB
   clear hK hB
   obtain ⟨⟨y0,y1,y2,y3,y4,y5,y6,y7,y8⟩,_⟩:=hA.all9
   have HA:=Lib.hid hA
   clear hA
   go_wp2_with fail
   refine (in_any _ _ _ _).mono ?_
   rintro e w1 ⟨rfl,e_⟩
   subst e_
   by_cases hm:m=0
   rotate_left
   ·
    have hm0:0<m:=by omega
    have HF:Hid (E=1):=Lib.hid (by rw [← HE.out];simp [Qy.nodeF,hm])
    go_wp2
    go_returns
    exact ⟨by rw [HF.out];simp,HB.out⟩
   subst hm
   by_cases hnm:nm=[]
   rotate_left
   ·
    have hs1:((bs nm).toList==[])=false:=by rw [bs_toList];simpa using hnm
    have hs2:((bs nm).toList != [])=true:=by rw [bne,hs1];rfl
    have HF:Hid (E=1):=Lib.hid (by rw [← HE.out];simp [Qy.nodeF,hnm])
    go_wp2
    go_returns
    exact ⟨by rw [HF.out];simp,HB.out⟩
   subst hnm
   have hs1:((bs []).toList==[])=true:=by rw [bs_toList];rfl
   have hs2:((bs []).toList != [])=false:=by rw [bs_toList];rfl
   by_cases hv:ax=0
   rotate_left
   ·
    have HF:Hid (E=1):=Lib.hid (by rw [← HE.out];simp [Qy.nodeF,hv])
    go_wp2
    go_returns
    exact ⟨by rw [HF.out];simp,HB.out⟩
   subst hv
   by_cases hv:ay=0
   rotate_left
   ·
    have HF:Hid (E=1):=Lib.hid (by rw [← HE.out];simp [Qy.nodeF,hv])
    go_wp2
    go_returns
    exact ⟨by rw [HF.out];simp,HB.out⟩
   subst hv
   go_wp2_with fail
   have hg:goodV 0 0=0:=by decide
   have HG:=Lib.hid (PValid_any 0 0 w1)
   rw [hg] at HG
   clear hg
   refine HG.out.mono ?_
   rintro e w2 ⟨rfl,k2⟩
   have hA2:=HA.out.on k2
   have hB2:=Below.call HB.out k2
   have hK2:=HK.out.on k2
   clear HG k2 y0 y1 y2 y3 y4 y5 y6 y7 y8
   obtain ⟨⟨y0,y1,y2,y3,y4,y5,y6,y7,y8⟩,_⟩:=hA2.all9
   have HG:=Lib.hid (PValidBox_any b0 b1 b2 b3 w2)
   have hgp:goodB b0 b1 b2 b3=if Qy.boxOK b0 b1 b2 b3=true then 0 else 5:=goodB_box _ _ _ _
   cases hpt:Qy.boxOK b0 b1 b2 b3
   ·
    rw [hpt] at hgp
    rw [hgp,if_neg (by simp)] at HG
    have HX:=Lib.hid (And.intro hA2 (And.intro hB2 hK2))
    clear hA2 hB2 hK2 hgp
    go_wp2_with fail
    refine HG.out.mono ?_
    rintro e w3 ⟨rfl,k2⟩
    have HB2:=Lib.hid (Below.call HX.out.2.1 k2)
    clear k2
    have HF:Hid (E=5):=Lib.hid (by rw [← HE.out];simp [Qy.nodeF,hpt,HP0.out.1])
    go_wp2
    go_returns
    exact ⟨by rw [HF.out];simp,HB2.out⟩
   rw [hpt] at hgp
   rw [hgp,if_pos rfl] at HG
   clear hgp
   have HX:=Lib.hid (And.intro hA2 (And.intro hB2 hK2))
   clear hA2 hB2 hK2
   go_wp2_with fail
   refine HG.out.mono ?_
   rintro e w3 ⟨rfl,k2⟩
   have hA3:=HX.out.1.on k2
   have hB3:=Below.call HX.out.2.1 k2
   have hK3:=HX.out.2.2.on k2
   clear HG HX k2 y0 y1 y2 y3 y4 y5 y6 y7 y8
   obtain ⟨⟨y0,y1,y2,y3,y4,y5,y6,y7,y8⟩,_⟩:=hA3.all9
   have HF:Hid (E=Qy.nodesE kids):=Lib.hid (by rw [← HE.out];simp [Qy.nodeF,HP0.out.1,HP0.out.2,hpt])
   have HB3:=Lib.hid hB3
   have HN0:Hid (Qy.nodesE kids=0):=Lib.hid (by rw [List.eq_nil_of_length_eq_zero HM.out,Qy.nodesE])
   clear hA3 hB3 hK3
   go_wp2_with fail
   clear y0 y1 y2 y3 y4 y5 y6 y7 y8
   go_loopw [86] (fun s wr=>s=.int .i64 0∧Below w.heap.size w wr) (fun _ _=>0)
   case atStart=>exact ⟨rfl,HB3.out⟩
   case round=>
    obtain ⟨rfl,hB⟩:=hrel
    have HB6:=Lib.hid hB
    clear hB
    go_wp2
    go_returns
    exact ⟨by rw [HF.out,HN0.out];simp,HB6.out⟩
  ·
   go_enter Tryd.func57,Tryd.ntmps57
   go_upto_region 1 with fail
   refine wp_new1 fun W0 hA hB=>?_
   have HK:=Lib.hid (hK.on hB)
   have HB:=Lib.hid hB
   clear hK hB
   obtain ⟨⟨y0,y1,y2,y3,y4,y5,y6,y7,y8⟩,_⟩:=hA.all9
   have HA:=Lib.hid hA
   clear hA
   go_wp2_with fail
   refine (in_any _ _ _ _).mono ?_
   rintro e w1 ⟨rfl,e_⟩
   subst e_
   by_cases hnm:nm=[]
   rotate_left
   ·
    have hs1:((bs nm).toList==[])=false:=by rw [bs_toList];simpa using hnm
    have hs2:((bs nm).toList != [])=true:=by rw [bne,hs1];rfl
    have HF:Hid (E=1):=Lib.hid (by rw [← HE.out];simp [Qy.nodeF,hnm])
    go_wp2
    go_returns
    exact ⟨by rw [HF.out];simp,HB.out⟩
   subst hnm
   have hs1:((bs []).toList==[])=true:=by rw [bs_toList];rfl
   have hs2:((bs []).toList != [])=false:=by rw [bs_toList];rfl
   by_cases hv:ax=0
   rotate_left
   ·
    have HF:Hid (E=1):=Lib.hid (by rw [← HE.out];simp [Qy.nodeF,hv])
    go_wp2
    go_returns
    exact ⟨by rw [HF.out];simp,HB.out⟩
   subst hv
   by_cases hv:ay=0
   rotate_left
   ·
    have HF:Hid (E=1):=Lib.hid (by rw [← HE.out];simp [Qy.nodeF,hv])
    go_wp2
    go_returns
    exact ⟨by rw [HF.out];simp,HB.out⟩
   subst hv
   by_cases hv:b0=0
   rotate_left
   ·
    have HF:Hid (E=1):=Lib.hid (by rw [← HE.out];simp [Qy.nodeF,hv])
    go_wp2
    go_returns
    exact ⟨by rw [HF.out];simp,HB.out⟩
   subst hv
   by_cases hv:b1=0
   rotate_left
   ·
    have HF:Hid (E=1):=Lib.hid (by rw [← HE.out];simp [Qy.nodeF,hv])
    go_wp2
    go_returns
    exact ⟨by rw [HF.out];simp,HB.out⟩
   subst hv
   by_cases hv:b2=0
   rotate_left
   ·
    have HF:Hid (E=1):=Lib.hid (by rw [← HE.out];simp [Qy.nodeF,hv])
    go_wp2
    go_returns
    exact ⟨by rw [HF.out];simp,HB.out⟩
   subst hv
   by_cases hv:b3=0
   rotate_left
   ·
    have HF:Hid (E=1):=Lib.hid (by rw [← HE.out];simp [Qy.nodeF,hv])
    go_wp2
    go_returns
    exact ⟨by rw [HF.out];simp,HB.out⟩
   subst hv
   go_wp2_with fail
   have hg:goodV 0 0=0:=by decide
   have HG:=Lib.hid (PValid_any 0 0 w1)
   rw [hg] at HG
   clear hg
   refine HG.out.mono ?_
   rintro e w2 ⟨rfl,k2⟩
   have hA2:=HA.out.on k2
   have hB2:=Below.call HB.out k2
   have hK2:=HK.out.on k2
   clear HG k2 y0 y1 y2 y3 y4 y5 y6 y7 y8
   obtain ⟨⟨y0,y1,y2,y3,y4,y5,y6,y7,y8⟩,_⟩:=hA2.all9
   have hg:goodB 0 0 0 0=0:=by decide
   have HG:=Lib.hid (PValidBox_any 0 0 0 0 w2)
   rw [hg] at HG
   clear hg
   have HX:=Lib.hid (And.intro hA2 (And.intro hB2 hK2))
   clear hA2 hB2 hK2
   go_wp2_with fail
   refine HG.out.mono ?_
   rintro e w3 ⟨rfl,k2⟩
   have hA3:=HX.out.1.on k2
   have hB3:=Below.call HX.out.2.1 k2
   have hK3:=HX.out.2.2.on k2
   clear HG HX k2 y0 y1 y2 y3 y4 y5 y6 y7 y8
   obtain ⟨⟨y0,y1,y2,y3,y4,y5,y6,y7,y8⟩,_⟩:=hA3.all9
   have HF:Hid (E=Qy.nodesE kids):=Lib.hid (by rw [← HE.out];simp [Qy.nodeF,HP0.out.1,HP0.out.2])
   have HK3:=Lib.hid hK3
   have HB3:=Lib.hid hB3
   clear hA3 hB3 hK3
   go_wp2_with fail
   clear y0 y1 y2 y3 y4 y5 y6 y7 y8
   go_loopw [86] (fun s wr=>∃ i:Nat,i≤m∧s=.int .i64 (i:Int)∧(∀ R∈kids.take i,Qy.nodeE R=0)∧KidsAt wr (fun _=>True) A 0 kids∧Below w.heap.size w wr) (fun s _=>m - (intOf s).toNat)
   case atStart=>exact ⟨0,by omega,rfl,by simp,HK3.out,HB3.out⟩
   case round=>
    obtain ⟨i,hi,rfl,hall,hK,hB⟩:=hrel
    rcases Nat.lt_or_eq_of_le hi with hlt | heq
    ·
     have i0:(0:Int)≤(i:Int):=by omega
     have i1:(i:Int)<(m:Int):=by omega
     obtain ⟨Ri,hRi⟩:∃ R,kids[i]? = some R:=⟨_,List.getElem?_eq_getElem (by have:=HM.out;omega)⟩
     obtain ⟨g,off,n0,s1,n2,n3,n4,n5,n6,n7,A8,l8,c8,rfl,_,hgl,⟨e0,e1,e2,e3,e4,e5,e6,e7,e8⟩,hR⟩:=hK.lit hRi
     have HC:=Lib.hid (HIH.out Ri (List.mem_of_getElem? hRi))
     have hT:kids.take (i+1)=kids.take i++[Ri]:=by rw [List.take_add_one,hRi];rfl
     have HT:=Lib.hid (And.intro hT (And.intro hall (List.mem_of_getElem? hRi)))
     obtain ⟨ne,hne⟩:∃ ne,Qy.nodeE Ri=ne:=⟨_,rfl⟩
     rw [hne] at HC
     have HNE:=Lib.hid hne
     clear hT hall hRi hne
     go_upto_region 18 with fail
     refine wp_new1 fun W5 hQ kn=>?_
     have hB5:=Below.call hB kn
     have hK5:=hK.on kn
     have hR5:=(hR.on kn).isReg
     obtain ⟨⟨y0,y1,y2,y3,y4,y5,y6,y7,y8⟩,_⟩:=hQ.all9
     clear e0 e1 e2 e3 e4 e5 e6 e7 e8 hK hR hB kn hQ
     go_wp2_with fail
     refine (HC.out _ _ hR5).mono ?_
     rintro e w6 ⟨rfl,k6⟩
     have hB6:=Below.call hB5 k6
     have hK6:=hK5.on k6
     clear y0 y1 y2 y3 y4 y5 y6 y7 y8 hB5 hK5 hR5 k6
     by_cases h0:ne=0
     ·
      subst h0
      have HS:Hid (∀ R∈kids.take (i+1),Qy.nodeE R=0):=Lib.hid (by rw [HT.out.1];exact Qy.all_snoc HT.out.2.1 HNE.out)
      have HKB:=Lib.hid (And.intro hK6 hB6)
      clear hK6 hB6
      go_wp2_with fail
      go_roundw
      case rel=>exact ⟨i+1,by omega,by go_num,HS.out,HKB.out.1,HKB.out.2⟩
      case measure=>simp [intOf];omega
     ·
      have HS:Hid (Qy.nodesE kids=ne):=Lib.hid (Qy.nodesE_first HT.out.1 HT.out.2.1 HNE.out h0)
      have HB6:=Lib.hid hB6
      clear hK6 hB6
      go_wp2
      go_returns
      exact ⟨by rw [HF.out,HS.out];simp,HB6.out⟩
    ·
     have HS:Hid (Qy.nodesE kids=0):=Lib.hid (Qy.nodesE_all (by rwa [List.take_of_length_le (by have:=HM.out;omega)] at hall))
     have HB6:=Lib.hid hB
     clear hK hB hall
     go_wp2
     go_returns
     exact ⟨by rw [HF.out,HS.out];simp,HB6.out⟩
  ·
   go_enter Tryd.func57,Tryd.ntmps57
   go_upto_region 1 with fail
   refine wp_new1 fun W0 hA hB=>?_
   have HK:=Lib.hid (hK.on hB)
   have HB:=Lib.hid hB
   clear hK hB
   obtain ⟨⟨y0,y1,y2,y3,y4,y5,y6,y7,y8⟩,_⟩:=hA.all9
   have HA:=Lib.hid hA
   clear hA
   go_wp2_with fail
   refine (in_any _ _ _ _).mono ?_
   rintro e w1 ⟨rfl,e_⟩
   subst e_
   by_cases hnm:nm=[]
   rotate_left
   ·
    have hs1:((bs nm).toList==[])=false:=by rw [bs_toList];simpa using hnm
    have hs2:((bs nm).toList != [])=true:=by rw [bne,hs1];rfl
    have HF:Hid (E=1):=Lib.hid (by rw [← HE.out];simp [Qy.nodeF,hnm])
    go_wp2
    go_returns
    exact ⟨by rw [HF.out];simp,HB.out⟩
   subst hnm
   have hs1:((bs []).toList==[])=true:=by rw [bs_toList];rfl
   have hs2:((bs []).toList != [])=false:=by rw [bs_toList];rfl
   by_cases hv:ax=0
   rotate_left
   ·
    have HF:Hid (E=1):=Lib.hid (by rw [← HE.out];simp [Qy.nodeF,hv])
    go_wp2
    go_returns
    exact ⟨by rw [HF.out];simp,HB.out⟩
   subst hv
   by_cases hv:ay=0
   rotate_left
   ·
    have HF:Hid (E=1):=Lib.hid (by rw [← HE.out];simp [Qy.nodeF,hv])
    go_wp2
    go_returns
    exact ⟨by rw [HF.out];simp,HB.out⟩
   subst hv
   by_cases hv:b0=0
   rotate_left
   ·
    have HF:Hid (E=1):=Lib.hid (by rw [← HE.out];simp [Qy.nodeF,hv])
    go_wp2
    go_returns
    exact ⟨by rw [HF.out];simp,HB.out⟩
   subst hv
   by_cases hv:b1=0
   rotate_left
   ·
    have HF:Hid (E=1):=Lib.hid (by rw [← HE.out];simp [Qy.nodeF,hv])
    go_wp2
    go_returns
    exact ⟨by rw [HF.out];simp,HB.out⟩
   subst hv
   by_cases hv:b2=0
   rotate_left
   ·
    have HF:Hid (E=1):=Lib.hid (by rw [← HE.out];simp [Qy.nodeF,hv])
    go_wp2
    go_returns
    exact ⟨by rw [HF.out];simp,HB.out⟩
   subst hv
   by_cases hv:b3=0
   rotate_left
   ·
    have HF:Hid (E=1):=Lib.hid (by rw [← HE.out];simp [Qy.nodeF,hv])
    go_wp2
    go_returns
    exact ⟨by rw [HF.out];simp,HB.out⟩
   subst hv
   go_wp2_with fail
   have hg:goodV 0 0=0:=by decide
   have HG:=Lib.hid (PValid_any 0 0 w1)
   rw [hg] at HG
   clear hg
   refine HG.out.mono ?_
   rintro e w2 ⟨rfl,k2⟩
   have hA2:=HA.out.on k2
   have hB2:=Below.call HB.out k2
   have hK2:=HK.out.on k2
   clear HG k2 y0 y1 y2 y3 y4 y5 y6 y7 y8
   obtain ⟨⟨y0,y1,y2,y3,y4,y5,y6,y7,y8⟩,_⟩:=hA2.all9
   have hg:goodB 0 0 0 0=0:=by decide
   have HG:=Lib.hid (PValidBox_any 0 0 0 0 w2)
   rw [hg] at HG
   clear hg
   have HX:=Lib.hid (And.intro hA2 (And.intro hB2 hK2))
   clear hA2 hB2 hK2
   go_wp2_with fail
   refine HG.out.mono ?_
   rintro e w3 ⟨rfl,k2⟩
   have hA3:=HX.out.1.on k2
   have hB3:=Below.call HX.out.2.1 k2
   have hK3:=HX.out.2.2.on k2
   clear HG HX k2 y0 y1 y2 y3 y4 y5 y6 y7 y8
   obtain ⟨⟨y0,y1,y2,y3,y4,y5,y6,y7,y8⟩,_⟩:=hA3.all9
   have HF:Hid (E=Qy.nodesE kids):=Lib.hid (by rw [← HE.out];simp [Qy.nodeF,HP0.out.1,HP0.out.2])
   have HK3:=Lib.hid hK3
   have HB3:=Lib.hid hB3
   clear hA3 hB3 hK3
   go_wp2_with fail
   clear y0 y1 y2 y3 y4 y5 y6 y7 y8
   go_loopw [86] (fun s wr=>∃ i:Nat,i≤m∧s=.int .i64 (i:Int)∧(∀ R∈kids.take i,Qy.nodeE R=0)∧KidsAt wr (fun _=>True) A 0 kids∧Below w.heap.size w wr) (fun s _=>m - (intOf s).toNat)
   case atStart=>exact ⟨0,by omega,rfl,by simp,HK3.out,HB3.out⟩
   case round=>
    obtain ⟨i,hi,rfl,hall,hK,hB⟩:=hrel
    rcases Nat.lt_or_eq_of_le hi with hlt | heq
    ·
     have i0:(0:Int)≤(i:Int):=by omega
     have i1:(i:Int)<(m:Int):=by omega
     obtain ⟨Ri,hRi⟩:∃ R,kids[i]? = some R:=⟨_,List.getElem?_eq_getElem (by have:=HM.out;omega)⟩
     obtain ⟨g,off,n0,s1,n2,n3,n4,n5,n6,n7,A8,l8,c8,rfl,_,hgl,⟨e0,e1,e2,e3,e4,e5,e6,e7,e8⟩,hR⟩:=hK.lit hRi
     have HC:=Lib.hid (HIH.out Ri (List.mem_of_getElem? hRi))
     have hT:kids.take (i+1)=kids.take i++[Ri]:=by rw [List.take_add_one,hRi];rfl
     have HT:=Lib.hid (And.intro hT (And.intro hall (List.mem_of_getElem? hRi)))
     obtain ⟨ne,hne⟩:∃ ne,Qy.nodeE Ri=ne:=⟨_,rfl⟩
     rw [hne] at HC
     have HNE:=Lib.hid hne
     clear hT hall hRi hne
     go_upto_region 18 with fail
     refine wp_new1 fun W5 hQ kn=>?_
     have hB5:=Below.call hB kn
     have hK5:=hK.on kn
     have hR5:=(hR.on kn).isReg
     obtain ⟨⟨y0,y1,y2,y3,y4,y5,y6,y7,y8⟩,_⟩:=hQ.all9
     clear e0 e1 e2 e3 e4 e5 e6 e7 e8 hK hR hB kn hQ
     go_wp2_with fail
     refine (HC.out _ _ hR5).mono ?_
     rintro e w6 ⟨rfl,k6⟩
     have hB6:=Below.call hB5 k6
     have hK6:=hK5.on k6
     clear y0 y1 y2 y3 y4 y5 y6 y7 y8 hB5 hK5 hR5 k6
     by_cases h0:ne=0
     ·
      subst h0
      have HS:Hid (∀ R∈kids.take (i+1),Qy.nodeE R=0):=Lib.hid (by rw [HT.out.1];exact Qy.all_snoc HT.out.2.1 HNE.out)
      have HKB:=Lib.hid (And.intro hK6 hB6)
      clear hK6 hB6
      go_wp2_with fail
      go_roundw
      case rel=>exact ⟨i+1,by omega,by go_num,HS.out,HKB.out.1,HKB.out.2⟩
      case measure=>simp [intOf];omega
     ·
      have HS:Hid (Qy.nodesE kids=ne):=Lib.hid (Qy.nodesE_first HT.out.1 HT.out.2.1 HNE.out h0)
      have HB6:=Lib.hid hB6
      clear hK6 hB6
      go_wp2
      go_returns
      exact ⟨by rw [HF.out,HS.out];simp,HB6.out⟩
    ·
     have HS:Hid (Qy.nodesE kids=0):=Lib.hid (Qy.nodesE_all (by rwa [List.take_of_length_le (by have:=HM.out;omega)] at hall))
     have HB6:=Lib.hid hB
     clear hK hB hall
     go_wp2
     go_returns
     exact ⟨by rw [HF.out,HS.out];simp,HB6.out⟩
  ·
   go_enter Tryd.func57,Tryd.ntmps57
   go_upto_region 1 with fail
   refine wp_new1 fun W0 hA hB=>?_
   have HK:=Lib.hid (hK.on hB)
   have HB:=Lib.hid hB
   clear hK hB
   obtain ⟨⟨y0,y1,y2,y3,y4,y5,y6,y7,y8⟩,_⟩:=hA.all9
   have HA:=Lib.hid hA
   clear hA
   go_wp2_with fail
   refine (in_any _ _ _ _).mono ?_
   rintro e w1 ⟨rfl,e_⟩
   subst e_
   by_cases hm:m=1
   rotate_left
   ·
    have hm0:¬ (m:Int)=1:=by omega
    have HF:Hid (E=1):=Lib.hid (by rw [← HE.out];simp [Qy.nodeF,hm])
    go_wp2
    go_returns
    exact ⟨by rw [HF.out];simp,HB.out⟩
   subst hm
   by_cases hnm:nm=[]
   rotate_left
   ·
    have hs1:((bs nm).toList==[])=false:=by rw [bs_toList];simpa using hnm
    have hs2:((bs nm).toList != [])=true:=by rw [bne,hs1];rfl
    have HF:Hid (E=1):=Lib.hid (by rw [← HE.out];simp [Qy.nodeF,hnm])
    go_wp2
    go_returns
    exact ⟨by rw [HF.out];simp,HB.out⟩
   subst hnm
   have hs1:((bs []).toList==[])=true:=by rw [bs_toList];rfl
   have hs2:((bs []).toList != [])=false:=by rw [bs_toList];rfl
   by_cases hv:ax=0
   rotate_left
   ·
    have HF:Hid (E=1):=Lib.hid (by rw [← HE.out];simp [Qy.nodeF,hv])
    go_wp2
    go_returns
    exact ⟨by rw [HF.out];simp,HB.out⟩
   subst hv
   by_cases hv:ay=0
   rotate_left
   ·
    have HF:Hid (E=1):=Lib.hid (by rw [← HE.out];simp [Qy.nodeF,hv])
    go_wp2
    go_returns
    exact ⟨by rw [HF.out];simp,HB.out⟩
   subst hv
   by_cases hv:b0=0
   rotate_left
   ·
    have HF:Hid (E=1):=Lib.hid (by rw [← HE.out];simp [Qy.nodeF,hv])
    go_wp2
    go_returns
    exact ⟨by rw [HF.out];simp,HB.out⟩
   subst hv
   by_cases hv:b1=0
   rotate_left
   ·
    have HF:Hid (E=1):=Lib.hid (by rw [← HE.out];simp [Qy.nodeF,hv])
    go_wp2
    go_returns
    exact ⟨by rw [HF.out];simp,HB.out⟩
   subst hv
   by_cases hv:b2=0
   rotate_left
   ·
    have HF:Hid (E=1):=Lib.hid (by rw [← HE.out];simp [Qy.nodeF,hv])
    go_wp2
    go_returns
    exact ⟨by rw [HF.out];simp,HB.out⟩
   subst hv
   by_cases hv:b3=0
   rotate_left
   ·
    have HF:Hid (E=1):=Lib.hid (by rw [← HE.out];simp [Qy.nodeF,hv])
    go_wp2
    go_returns
    exact ⟨by rw [HF.out];simp,HB.out⟩
   subst hv
   go_wp2_with fail
   have hg:goodV 0 0=0:=by decide
   have HG:=Lib.hid (PValid_any 0 0 w1)
   rw [hg] at HG
   clear hg
   refine HG.out.mono ?_
   rintro e w2 ⟨rfl,k2⟩
   have hA2:=HA.out.on k2
   have hB2:=Below.call HB.out k2
   have hK2:=HK.out.on k2
   clear HG k2 y0 y1 y2 y3 y4 y5 y6 y7 y8
   obtain ⟨⟨y0,y1,y2,y3,y4,y5,y6,y7,y8⟩,_⟩:=hA2.all9
   have hg:goodB 0 0 0 0=0:=by decide
   have HG:=Lib.hid (PValidBox_any 0 0 0 0 w2)
   rw [hg] at HG
   clear hg
   have HX:=Lib.hid (And.intro hA2 (And.intro hB2 hK2))
   clear hA2 hB2 hK2
   go_wp2_with fail
   refine HG.out.mono ?_
   rintro e w3 ⟨rfl,k2⟩
   have hA3:=HX.out.1.on k2
   have hB3:=Below.call HX.out.2.1 k2
   have hK3:=HX.out.2.2.on k2
   clear HG HX k2 y0 y1 y2 y3 y4 y5 y6 y7 y8
   obtain ⟨⟨y0,y1,y2,y3,y4,y5,y6,y7,y8⟩,_⟩:=hA3.all9
   have HF:Hid (E=Qy.nodesE kids):=Lib.hid (by rw [← HE.out];simp [Qy.nodeF,HP0.out.1,HP0.out.2])
   have HK3:=Lib.hid hK3
   have HB3:=Lib.hid hB3
   clear hA3 hB3 hK3
   go_wp2_with fail
   clear y0 y1 y2 y3 y4 y5 y6 y7 y8
   go_loopw [86] (fun s wr=>∃ i:Nat,i≤1∧s=.int .i64 (i:Int)∧(∀ R∈kids.take i,Qy.nodeE R=0)∧KidsAt wr (fun _=>True) A 0 kids∧Below w.heap.size w wr) (fun s _=>1 - (intOf s).toNat)
   case atStart=>exact ⟨0,by omega,rfl,by simp,HK3.out,HB3.out⟩
   case round=>
    obtain ⟨i,hi,rfl,hall,hK,hB⟩:=hrel
    rcases Nat.lt_or_eq_of_le hi with hlt | heq
    ·
     have i0:(0:Int)≤(i:Int):=by omega
     have i1:(i:Int)<(1:Int):=by omega
     obtain ⟨Ri,hRi⟩:∃ R,kids[i]? = some R:=⟨_,List.getElem?_eq_getElem (by have:=HM.out;omega)⟩
     obtain ⟨g,off,n0,s1,n2,n3,n4,n5,n6,n7,A8,l8,c8,rfl,_,hgl,⟨e0,e1,e2,e3,e4,e5,e6,e7,e8⟩,hR⟩:=hK.lit hRi
     have HC:=Lib.hid (HIH.out Ri (List.mem_of_getElem? hRi))
     have hT:kids.take (i+1)=kids.take i++[Ri]:=by rw [List.take_add_one,hRi];rfl
     have HT:=Lib.hid (And.intro hT (And.intro hall (List.mem_of_getElem? hRi)))
     obtain ⟨ne,hne⟩:∃ ne,Qy.nodeE Ri=ne:=⟨_,rfl⟩
     rw [hne] at HC
     have HNE:=Lib.hid hne
     clear hT hall hRi hne
     go_upto_region 18 with fail
     refine wp_new1 fun W5 hQ kn=>?_
     have hB5:=Below.call hB kn
     have hK5:=hK.on kn
     have hR5:=(hR.on kn).isReg
     obtain ⟨⟨y0,y1,y2,y3,y4,y5,y6,y7,y8⟩,_⟩:=hQ.all9
     clear e0 e1 e2 e3 e4 e5 e6 e7 e8 hK hR hB kn hQ
     go_wp2_with fail
     refine (HC.out _ _ hR5).mono ?_
     rintro e w6 ⟨rfl,k6⟩
     have hB6:=Below.call hB5 k6
     have hK6:=hK5.on k6
     clear y0 y1 y2 y3 y4 y5 y6 y7 y8 hB5 hK5 hR5 k6
     by_cases h0:ne=0
     ·
      subst h0
      have HS:Hid (∀ R∈kids.take (i+1),Qy.nodeE R=0):=Lib.hid (by rw [HT.out.1];exact Qy.all_snoc HT.out.2.1 HNE.out)
      have HKB:=Lib.hid (And.intro hK6 hB6)
      clear hK6 hB6
      go_wp2_with fail
      go_roundw
      case rel=>exact ⟨i+1,by omega,by go_num,HS.out,HKB.out.1,HKB.out.2⟩
      case measure=>simp [intOf];omega
     ·
      have HS:Hid (Qy.nodesE kids=ne):=Lib.hid (Qy.nodesE_first HT.out.1 HT.out.2.1 HNE.out h0)
      have HB6:=Lib.hid hB6
      clear hK6 hB6
      go_wp2
      go_returns
      exact ⟨by rw [HF.out,HS.out];simp,HB6.out⟩
    ·
     have HS:Hid (Qy.nodesE kids=0):=Lib.hid (Qy.nodesE_all (by rwa [List.take_of_length_le (by have:=HM.out;omega)] at hall))
     have HB6:=Lib.hid hB
     clear hK hB hall
     go_wp2
     go_returns
     exact ⟨by rw [HF.out,HS.out];simp,HB6.out⟩
  ·
   rcases hko with hk | hk
   ·
    have h1:¬ (4:Int)≤k:=by omega
    have h2:(decide (0≤k)&&decide (k≤6))=false:=by simp;omega
    have HIn:=Lib.hid fun u=>in_any k 0 6 u
    rw [h2] at HIn
    have HF:Hid (E=1):=Lib.hid (by rw [← HE.out];unfold Qy.nodeF;rw [if_pos (by omega)])
    clear h2
    go_enter Tryd.func57,Tryd.ntmps57
    go_upto_region 1 with fail
    refine wp_new1 fun W0 hA hB=>?_
    have HB:=Lib.hid hB
    clear hK hB
    obtain ⟨⟨y0,y1,y2,y3,y4,y5,y6,y7,y8⟩,_⟩:=hA.all9
    clear hA
    go_wp2_with fail
    refine (HIn.out _).mono ?_
    rintro e w1 ⟨rfl,e_⟩
    subst e_
    go_wp2
    go_returns
    exact ⟨by rw [HF.out];simp,HB.out⟩
   ·
    have h1:(4:Int)≤k:=by omega
    have h3:¬ k≤6:=by omega
    have h2:(decide (0≤k)&&decide (k≤6))=false:=by simp;omega
    have HIn:=Lib.hid fun u=>in_any k 0 6 u
    rw [h2] at HIn
    have HF:Hid (E=1):=Lib.hid (by rw [← HE.out];unfold Qy.nodeF;rw [if_pos (by omega)])
    clear h2
    go_enter Tryd.func57,Tryd.ntmps57
    go_upto_region 1 with fail
    refine wp_new1 fun W0 hA hB=>?_
    have HB:=Lib.hid hB
    clear hK hB
    obtain ⟨⟨y0,y1,y2,y3,y4,y5,y6,y7,y8⟩,_⟩:=hA.all9
    clear hA
    go_wp2_with fail
    refine (HIn.out _).mono ?_
    rintro e w1 ⟨rfl,e_⟩
    subst e_
    go_wp2
    go_returns
    exact ⟨by rw [HF.out];simp,HB.out⟩
end Go.Proofs.YtmlpibdincfgbaaDoor
