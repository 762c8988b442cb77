/-
  Chapter 38's reference: Means.
-/
import Derived.Test.YtmlpibdincfgbaaDoorM48
namespace Go.Proofs.YtmlpibdincfgbaaDoor
open Go.RowKit
set_option linter.unusedSimpArgs false
set_option linter.unusedVariables false
def pickB (leaves:List Qy.Reg) (c:Int) (x:Qy.Reg):Bool:=match leaves.findIdx? (fun y=>Qy.sameR y x) with
 | none=>false
 | some i=>(c / 2 ^ (i % 20)).tmod 2==1
theorem find_hit {l:List Qy.Reg} {i:Nat} {x R:Qy.Reg} (hx:l[i]? = some x) (hno:(l.take i).any (fun y=>Qy.sameR y R)=false) (h:Qy.sameR x R=true):l.findIdx? (fun y=>Qy.sameR y R)=some i:=by
 rw [List.findIdx?_eq_some_iff_getElem]
 obtain ⟨hi,e⟩:=List.getElem?_eq_some_iff.1 hx
 refine ⟨hi,by rw [e];exact h,fun j hj=>?_⟩
 rw [List.any_eq_false] at hno
 have:=hno l[j] (List.mem_take_iff_getElem.2 ⟨j,by omega,rfl⟩)
 simpa using this
theorem find_none {l:List Qy.Reg} {R:Qy.Reg} (hno:l.any (fun y=>Qy.sameR y R)=false):l.findIdx? (fun y=>Qy.sameR y R)=none:=by
 rw [List.findIdx?_eq_none_iff]
 intro x hx
 rw [List.any_eq_false] at hno
 simpa using hno x hx
theorem mean_leaf {f:Qy.Reg→Bool} {R:Qy.Reg} (h:1≤R.kind∧R.kind<4):Qy.mean f R=f R:=by
 obtain ⟨k,nm,ax,ay,b0,b1,b2,b3,kids⟩:=R
 simp only [Qy.Reg.kind] at h
 rw [Qy.mean,if_neg (by omega),if_neg (by omega),if_neg (by omega),if_neg (by omega)]
theorem mean_zero {f:Qy.Reg→Bool} {R:Qy.Reg} (h:R.kind=0):Qy.mean f R=true:=by
 obtain ⟨k,nm,ax,ay,b0,b1,b2,b3,kids⟩:=R
 simp only [Qy.Reg.kind] at h
 rw [Qy.mean,if_pos h]
theorem mean_not (f:Qy.Reg→Bool) (x:Qy.Reg):Qy.mean f (Qy.kidsR 6 [x])=!(Qy.mean f x):=by
 rw [Qy.kidsR,Qy.mean,if_neg (by omega),if_pos rfl,Qy.means_map]
 rfl
set_option maxRecDepth 100000 in
set_option maxHeartbeats 6400000 in
theorem means_leaf {R:Qy.Reg} (hk:0≤R.kind∧R.kind<4) (hn:Qy.nodes R≤1000000) (L:List Qy.Reg) (hL:L.length≤1000000∧∀ x∈L,Qy.nodes x≤1000000) (ch:Int) (hch:0≤ch∧ch<1048576) {SL:Nat→Prop} {LA:Option Addr} {lc:Nat} (cs:List Value) (w:World) (hR:RegAt w (fun _=>True) cs R) (hLK:KidsAt w SL LA 0 L) :
 Calls Tryd.prog 28 #[.agg cs.toArray,.slice LA L.length lc,.int .i64 ch] w (RetB w (Qy.mean (pickB L ch) R)):=by
 have HRk:=Lib.hid hk
 have HSm:Hid (∀ x∈L,∀ (v v':Value) (u:World),IsReg u x v→IsReg u R v'→Calls Tryd.prog 23 #[v,v'] u (RetB u (Qy.sameR x R))):=Lib.hid fun x hx v v' u h h'=>Same_any 1000000 x R (hL.2 x hx) (by omega) hn v v' u h h'
 have HR0:=Lib.hid hR
 have HLK:=Lib.hid hLK
 obtain ⟨bs1,bn2,bn3,bn4,bn5,bn6,bn7,bA8,bc8,rfl,_⟩:=hR.litk
 obtain ⟨bn0,hbn0⟩:∃ k,R.kind=k:=⟨_,rfl⟩
 obtain ⟨bl8,hbl8⟩:∃ k,R.kids.length=k:=⟨_,rfl⟩
 rw [hbn0,hbl8] at HR0 ⊢
 rw [hbn0] at hk
 have HK0:=Lib.hid hbn0
 obtain ⟨ln,hln⟩:∃ n,L.length=n:=⟨_,rfl⟩
 have HLn:=Lib.hid hln
 have hlnb:ln≤1000000:=by omega
 rw [hln]
 have HCh:=Lib.hid hch
 clear hR hLK hbn0 hbl8 hln hL hn hch
 obtain ⟨E,hE⟩:∃ E,Qy.mean (pickB L ch) R=E:=⟨_,rfl⟩
 have HE:=Lib.hid hE
 rw [hE]
 clear hE
 go_enter Tryd.func28,Tryd.ntmps28
 go_upto_region 1 with fail
 refine wp_new1 fun W0 hO kn=>?_
 obtain ⟨gb,hgb⟩:∃ g,w.heap.size=g:=⟨_,rfl⟩
 rw [hgb] at hO ⊢
 have HO:=Lib.hid (And.intro hO kn)
 obtain ⟨⟨y0,y1,y2,y3,y4,y5,y6,y7,y8⟩,_⟩:=hO.all9
 clear hO kn hgb
 by_cases h0:bn0=0
 ·subst h0
  have HEt:Hid (E=true):=Lib.hid (by rw [← HE.out];exact mean_zero HK0.out)
  go_wp2
  go_returns
  exact ⟨by rw [HEt.out];simp,HO.out.2⟩
 have HEp:Hid (E=pickB L ch R):=Lib.hid (by rw [← HE.out];exact mean_leaf (by have:=HK0.out;omega))
 have h4:¬ bn0=4:=by omega
 have h5:¬ bn0=5:=by omega
 have h6:¬ bn0=6:=by omega
 go_wp2_with fail
 go_loopw [8] (fun s wr=>∃ i:Nat,i≤ln∧s=.int .i64 (i:Int)∧((L.take i).any (fun x=>Qy.sameR x R)=false)∧Below W0.heap.size W0 wr) (fun s _=>ln - (intOf s).toNat)
 case atStart=>exact ⟨0,by omega,rfl,by simp,Below.refl _ _⟩
 case round=>
  obtain ⟨i,hi,rfl,hno,hB⟩:=hrel
  clear y0 y1 y2 y3 y4 y5 y6 y7 y8
  have HB:=Lib.hid (And.intro hno hB)
  have hBw:Below w.heap.size w wr:=Below.call HO.out.2 hB
  have HBw:=Lib.hid hBw
  rcases Nat.lt_or_eq_of_le hi with hlt | heq
  ·have i1:(i:Int)<(ln:Int):=by omega
   have HI:=Lib.hid (And.intro (Int.natCast_nonneg i) i1)
   obtain ⟨x,hx⟩:∃ x,L[i]? = some x:=⟨_,List.getElem?_eq_getElem (by have:=HLn.out;omega)⟩
   have hK2:KidsAt wr SL LA 0 L:=HLK.out.on hBw
   obtain ⟨ag,af,an0,as1,an2,an3,an4,an5,an6,an7,aA8,al8,ac8,rfl,_,agl,aE,aR⟩:=hK2.lit hx
   obtain ⟨sb,hsb⟩:∃ sb,Qy.sameR x R=sb:=⟨_,rfl⟩
   have HC:=Lib.hid (HSm.out x (List.mem_of_getElem? hx))
   rw [hsb] at HC
   have HOb:=Lib.hid (HO.out.1.on hB)
   have HEa:Hid (∀ wz,Below wr.heap.size wr wz→(wz.cell? ⟨ag,af+i * 9,none⟩=some (.int .i64 an0)∧wz.cell? ⟨ag,af+i * 9+1,none⟩=some (.string as1)∧wz.cell? ⟨ag,af+i * 9+2,none⟩=some (.int .i64 an2)∧wz.cell? ⟨ag,af+i * 9+3,none⟩=some (.int .i64 an3)∧wz.cell? ⟨ag,af+i * 9+4,none⟩=some (.int .i64 an4)∧wz.cell? ⟨ag,af+i * 9+5,none⟩=some (.int .i64 an5)∧wz.cell? ⟨ag,af+i * 9+6,none⟩=some (.int .i64 an6)∧wz.cell? ⟨ag,af+i * 9+7,none⟩=some (.int .i64 an7)∧wz.cell? ⟨ag,af+i * 9+8,none⟩=some (.slice aA8 al8 ac8))):=Lib.hid fun wz kz=>by
    have e:∀ o,wz.cell? ⟨ag,o,none⟩=wr.cell? ⟨ag,o,none⟩:=fun o=>World.cell?_of_block (a:=⟨ag,o,none⟩) (kz.block ag agl)
    rw [e,e,e,e,e,e,e,e,e]
    exact aE
   have HRa:Hid (∀ wz,Below wr.heap.size wr wz→IsReg wz x (.agg #[.int .i64 an0,.string as1,.int .i64 an2,.int .i64 an3,.int .i64 an4,.int .i64 an5,.int .i64 an6,.int .i64 an7,.slice aA8 al8 ac8])):=Lib.hid fun wz kz=>(aR.on kz).isReg
   have HRb:Hid (∀ wz,Below wr.heap.size wr wz→IsReg wz R (.agg #[.int .i64 bn0,.string bs1,.int .i64 bn2,.int .i64 bn3,.int .i64 bn4,.int .i64 bn5,.int .i64 bn6,.int .i64 bn7,.slice bA8 bl8 bc8])):=Lib.hid fun wz kz=>((HR0.out.on hBw).on kz).isReg
   have HT:Hid ((L.take (i+1)).any (fun x=>Qy.sameR x R)=sb):=Lib.hid (by rw [any_snoc hx,hno,hsb];simp)
   have HX:=Lib.hid (And.intro hx (And.intro hno hsb))
   clear hx hsb aE aR agl hK2 hno hB hBw
   go_upto_region 17 with fail
   refine wp_region_specs wr [Spec.eq (.slice (some ⟨ag,af,none⟩) ln lc),Spec.eq (.int .i64 (i:Int)),Spec.eq (.pointer (some ⟨ag,(af+i * 9),none⟩)),Spec.eq (.agg #[.int .i64 an0,.string as1,.int .i64 an2,.int .i64 an3,.int .i64 an4,.int .i64 an5,.int .i64 an6,.int .i64 an7,.slice aA8 al8 ac8]),Spec.eq (.agg #[.int .i64 bn0,.string bs1,.int .i64 bn2,.int .i64 bn3,.int .i64 bn4,.int .i64 bn5,.int .i64 bn6,.int .i64 bn7,.slice bA8 bl8 bc8]),Spec.eq (.bool sb),Spec.eq (.bool sb)]
    (by kernel_rfl) (by kernel_rfl) rfl (by kernel_rfl) (Below.drew (Below.refl _ _)) ?_ ?_
   ·
    refine RegSteps.cons ?_ ?_
    ·intro _ az wz hC hF hD _ K hK
     have q1:az.tmps[1]? = some (.slice (some ⟨ag,af,none⟩) ln lc):=hF 1 rfl
     clear hF hD
     refine want_none rfl ?_
     go_simp
     exact hK _ _ hC (Below.refl _ _) rfl
    refine RegSteps.cons ?_ ?_
    ·intro _ az wz hC hF hD _ K hK
     have q8:az.tmps[8]? = some (.int .i64 (i:Int)):=hF 8 rfl
     clear hF hD
     refine want_none rfl ?_
     go_simp
     exact hK _ _ hC (Below.refl _ _) rfl
    refine RegSteps.cons ?_ ?_
    ·intro _ az wz hC hF hD _ K hK
     obtain ⟨_,q58,rfl⟩:=dep hD 0 rfl rfl rfl rfl
     obtain ⟨_,q59,rfl⟩:=dep hD 1 rfl rfl rfl rfl
     have i0_:=HI.out.1
     have i1_:=HI.out.2
     clear hF hD
     refine want_none rfl ?_
     go_simp
     exact hK _ _ hC (Below.refl _ _) rfl
    refine RegSteps.cons ?_ ?_
    ·intro _ az wz hC hF hD _ K hK
     obtain ⟨_,q60,rfl⟩:=dep hD 2 rfl rfl rfl rfl
     obtain ⟨z0,z1,z2,z3,z4,z5,z6,z7,z8⟩:=HEa.out _ hC
     clear hF hD
     refine want_none rfl ?_
     go_simp
     exact hK _ _ hC (Below.refl _ _) rfl
    refine RegSteps.cons ?_ ?_
    ·intro _ az wz hC hF hD _ K hK
     have q3:az.tmps[3]? = some (.pointer (some ⟨gb,0,none⟩)):=hF 3 rfl
     obtain ⟨⟨y0,y1,y2,y3,y4,y5,y6,y7,y8⟩,_⟩:=(HOb.out.on hC).all9
     clear hF hD
     refine want_none rfl ?_
     go_simp
     exact hK _ _ hC (Below.refl _ _) rfl
    refine RegSteps.cons ?_ ?_
    ·intro _ az wz hC hF hD _ K hK
     obtain ⟨_,q61,rfl⟩:=dep hD 3 rfl rfl rfl rfl
     obtain ⟨_,q62,rfl⟩:=dep hD 4 rfl rfl rfl rfl
     clear hF hD
     refine want_none rfl ?_
     go_simp
     refine (HC.out _ _ _ (HRa.out _ hC) (HRb.out _ hC)).mono ?_
     rintro e wy ⟨rfl,k⟩
     exact hK _ _ (Below.call hC k) k rfl
    refine RegSteps.cons ?_ ?_
    ·intro _ az wz hC hF hD _ K hK
     obtain ⟨_,q63,rfl⟩:=dep hD 5 rfl rfl rfl rfl
     clear hF hD
     refine want_none rfl ?_
     go_simp
     exact hK _ _ hC (Below.refl _ _) rfl
    exact RegSteps.nil
   intro w6 hC6
   rintro _ rfl _ rfl _ rfl _ rfl _ rfl _ rfl _ rfl
   simp only [FinOK,Act.put,List.setIfInBounds_toArray,List.set_cons_zero,List.set_cons_succ]
   cases sb with
   | true=>
    have HBz:=Lib.hid (Below.call HBw.out hC6)
    have HEf:Hid (E=((ch / 2 ^ (i % 20)).tmod 2==1)):=Lib.hid (by rw [HEp.out];unfold pickB;rw [find_hit HX.out.1 HX.out.2.1 HX.out.2.2])
    clear hC6
    have hch:=HCh.out
    go_wp2
    go_returns
    exact ⟨by rw [HEf.out];simp,HBz.out⟩
   | false=>
    have HBz:=Lib.hid (Below.call HB.out.2 hC6)
    clear hC6
    go_wp2_with fail
    go_roundw
    case rel=>exact ⟨i+1,by omega,by go_num,HT.out,HBz.out⟩
    case measure=>simp [intOf];omega
  ·have i1:¬ (i:Int)<(ln:Int):=by omega
   have hLT:L.take i=L:=List.take_of_length_le (by have:=HLn.out;omega)
   rw [hLT] at hno
   have HEf:Hid (E=false):=Lib.hid (by rw [HEp.out];unfold pickB;rw [find_none hno])
   clear hLT hno hB hBw
   go_wp2
   go_returns
   exact ⟨by rw [HEf.out];simp,HBw.out⟩
def MeIH (L:List Qy.Reg) (ch:Int) (n:Nat):Prop:=∀ (R:Qy.Reg),Qy.nodes R≤n→Qy.nodeE R=0→∀ (SL:Nat→Prop) (LA:Option Addr) (lc:Nat) (cs:List Value) (w:World),RegAt w (fun _=>True) cs R→KidsAt w SL LA 0 L→
 Calls Tryd.prog 28 #[.agg cs.toArray,.slice LA L.length lc,.int .i64 ch] w (RetB w (Qy.mean (pickB L ch) R))
set_option maxRecDepth 100000 in
set_option maxHeartbeats 6400000 in
theorem means_not {n:Nat} {L:List Qy.Reg} {ch:Int} (ih:MeIH L ch n) {x:Qy.Reg} (hn:Qy.nodes x≤n) (hv:Qy.nodeE x=0) (SL:Nat→Prop) (LA:Option Addr) (lc:Nat) (cs:List Value) (w:World) (h:RegAt w (fun _=>True) cs (Qy.kidsR 6 [x])) (hLK:KidsAt w SL LA 0 L) :
 Calls Tryd.prog 28 #[.agg cs.toArray,.slice LA L.length lc,.int .i64 ch] w (RetB w (Qy.mean (pickB L ch) (Qy.kidsR 6 [x]))):=by
 have HLK:=Lib.hid hLK
 have HIH:=Lib.hid ih
 obtain ⟨bs1,bn2,bn3,bn4,bn5,bn6,bn7,A,c,rfl,hK⟩:=h.litk
 have hK:KidsAt w (fun _=>True) A 0 [x]:=hK
 rw [show (Qy.kidsR 6 [x]).kind=6 from rfl,show (Qy.kidsR 6 [x]).kids.length=([x]).length from rfl]
 rw [mean_not]
 obtain ⟨ag,af,an0,as1,an2,an3,an4,an5,an6,an7,aA8,al8,ac8,rfl,_,agl,⟨a0,a1,a2,a3,a4,a5,a6,a7,a8⟩,aR⟩:=hK.lit (i:=0) (R:=x) rfl
 simp only [Nat.zero_mul,Nat.add_zero,List.length_cons,List.length_nil,Nat.zero_add] at a0 a1 a2 a3 a4 a5 a6 a7 a8 ⊢
 obtain ⟨ln,hln⟩:∃ n,L.length=n:=⟨_,rfl⟩
 obtain ⟨E,hE⟩:∃ E,Qy.mean (pickB L ch) x=E:=⟨_,rfl⟩
 have HC:Hid (∀ u,Below w.heap.size w u→Calls Tryd.prog 28 #[.agg #[.int .i64 an0,.string as1,.int .i64 an2,.int .i64 an3,.int .i64 an4,.int .i64 an5,.int .i64 an6,.int .i64 an7,.slice aA8 al8 ac8],.slice LA ln lc,.int .i64 ch] u (RetB u E)):=Lib.hid fun u hu=>by
  have h2:=HIH.out x hn hv SL LA lc [.int .i64 an0,.string as1,.int .i64 an2,.int .i64 an3,.int .i64 an4,.int .i64 an5,.int .i64 an6,.int .i64 an7,.slice aA8 al8 ac8] u (aR.on hu) (HLK.out.on hu)
  rw [hln,hE] at h2
  exact h2
 rw [hln,hE]
 clear hE hln aR hK h hLK ih hn hv
 go_enter Tryd.func28,Tryd.ntmps28
 go_upto_region 1 with fail
 refine wp_new1 fun W0 hO kn=>?_
 obtain ⟨gb,hgb⟩:∃ g,w.heap.size=g:=⟨_,rfl⟩
 rw [hgb] at hO ⊢
 have HO:=Lib.hid kn
 obtain ⟨⟨y0,y1,y2,y3,y4,y5,y6,y7,y8⟩,_⟩:=hO.all9
 have ce:∀ o,W0.cell? ⟨ag,o,none⟩=w.cell? ⟨ag,o,none⟩:=fun o=>World.cell?_of_block (a:=⟨ag,o,none⟩) (kn.block ag agl)
 rw [← ce] at a0 a1 a2 a3 a4 a5 a6 a7 a8
 clear ce hO kn hgb agl
 go_wp2_with fail
 refine (HC.out _ HO.out).mono ?_
 rintro e w1 ⟨rfl,k1⟩
 have HB1:=Lib.hid (Below.call HO.out k1)
 clear k1 a0 a1 a2 a3 a4 a5 a6 a7 a8 y0 y1 y2 y3 y4 y5 y6 y7 y8
 go_wp2
 go_returns
 exact ⟨by simp,HB1.out⟩
set_option maxRecDepth 100000 in
set_option maxHeartbeats 6400000 in
theorem means_kids4 {n:Nat} {L:List Qy.Reg} {ch:Int} (ih:MeIH L ch n) {kids:List Qy.Reg} (hn:Qy.nodesL kids≤n) (hn2:n≤1000000) (hv:∀ x∈kids,Qy.nodeE x=0) (SL:Nat→Prop) (LA:Option Addr) (lc:Nat) (cs:List Value) (w:World) (h:RegAt w (fun _=>True) cs (Qy.kidsR 4 kids)) (hLK:KidsAt w SL LA 0 L) :
 Calls Tryd.prog 28 #[.agg cs.toArray,.slice LA L.length lc,.int .i64 ch] w (RetB w (Qy.mean (pickB L ch) (Qy.kidsR 4 kids))):=by
 have HLK:=Lib.hid hLK
 have HIH:=Lib.hid ih
 obtain ⟨bs1,bn2,bn3,bn4,bn5,bn6,bn7,A,c,rfl,hK⟩:=h.litk
 have hK:KidsAt w (fun _=>True) A 0 kids:=hK
 rw [show (Qy.kidsR 4 kids).kind=4 from rfl,show (Qy.kidsR 4 kids).kids.length=(kids).length from rfl]
 obtain ⟨ln,hln⟩:∃ n,L.length=n:=⟨_,rfl⟩
 obtain ⟨m,hm⟩:∃ n,kids.length=n:=⟨_,rfl⟩
 have HM:=Lib.hid hm
 have hmb:m≤1000000:=by have h1:=Qy.len_nodesL kids;omega
 have HK:=Lib.hid hK
 have HV:=Lib.hid (And.intro hv hn)
 obtain ⟨E,hE⟩:∃ E,Qy.mean (pickB L ch) (Qy.kidsR 4 kids)=E:=⟨_,rfl⟩
 have HE:Hid (kids.all (Qy.mean (pickB L ch))=E):=Lib.hid (by rw [← hE,Qy.mean_kids _ _ _ (.inl rfl)];rfl)
 have HLn:=Lib.hid hln
 rw [hln,hm,hE]
 clear hE hln hK h hLK ih hn hv hm
 go_enter Tryd.func28,Tryd.ntmps28
 go_upto_region 1 with fail
 refine wp_new1 fun W0 hO kn=>?_
 obtain ⟨gb,hgb⟩:∃ g,w.heap.size=g:=⟨_,rfl⟩
 rw [hgb] at hO ⊢
 have HO:=Lib.hid (And.intro hO kn)
 obtain ⟨⟨y0,y1,y2,y3,y4,y5,y6,y7,y8⟩,_⟩:=hO.all9
 clear hO kn hgb
 go_wp2_with fail
 go_loopw [7] (fun s wr=>∃ i:Nat,i≤m∧s=.int .i64 (i:Int)∧(kids.take i).all (Qy.mean (pickB L ch))=true∧Below W0.heap.size W0 wr) (fun s _=>m - (intOf s).toNat)
 case atStart=>exact ⟨0,by omega,rfl,by simp,Below.refl _ _⟩
 case round=>
  obtain ⟨i,hi,rfl,hno,hB⟩:=hrel
  clear y0 y1 y2 y3 y4 y5 y6 y7 y8
  have hBw:Below w.heap.size w wr:=Below.call HO.out.2 hB
  have HBw:=Lib.hid hBw
  have HOb:=Lib.hid (HO.out.1.on hB)
  obtain ⟨⟨y0,y1,y2,y3,y4,y5,y6,y7,y8⟩,_⟩:=HOb.out.all9
  rcases Nat.lt_or_eq_of_le hi with hlt | heq
  ·
   have i1:(i:Int)<(m:Int):=by omega
   have HI:=Lib.hid (And.intro (Int.natCast_nonneg i) i1)
   obtain ⟨x,hx⟩:∃ x,kids[i]? = some x:=⟨_,List.getElem?_eq_getElem (by have:=HM.out;omega)⟩
   obtain ⟨ag,af,an0,as1,an2,an3,an4,an5,an6,an7,aA8,al8,ac8,rfl,_,agl,aE,aR⟩:=(HK.out.on hBw).lit hx
   have hmem:=List.mem_of_getElem? hx
   obtain ⟨sb,hsb⟩:∃ sb,Qy.mean (pickB L ch) x=sb:=⟨_,rfl⟩
   have HC:Hid (∀ u,Below wr.heap.size wr u→Calls Tryd.prog 28 #[.agg #[.int .i64 an0,.string as1,.int .i64 an2,.int .i64 an3,.int .i64 an4,.int .i64 an5,.int .i64 an6,.int .i64 an7,.slice aA8 al8 ac8],.slice LA ln lc,.int .i64 ch] u (RetB u sb)):=Lib.hid fun u hu=>by
    have h2:=HIH.out x (by have h1:=Qy.nodes_in1 hmem;have h2:=HV.out.2;omega) (HV.out.1 x hmem) SL LA lc [.int .i64 an0,.string as1,.int .i64 an2,.int .i64 an3,.int .i64 an4,.int .i64 an5,.int .i64 an6,.int .i64 an7,.slice aA8 al8 ac8] u (aR.on hu) (HLK.out.on (Below.call HBw.out hu))
    rw [HLn.out,hsb] at h2
    exact h2
   have HEa:Hid (∀ wz,Below wr.heap.size wr wz→(wz.cell? ⟨ag,af+i * 9,none⟩=some (.int .i64 an0)∧wz.cell? ⟨ag,af+i * 9+1,none⟩=some (.string as1)∧wz.cell? ⟨ag,af+i * 9+2,none⟩=some (.int .i64 an2)∧wz.cell? ⟨ag,af+i * 9+3,none⟩=some (.int .i64 an3)∧wz.cell? ⟨ag,af+i * 9+4,none⟩=some (.int .i64 an4)∧wz.cell? ⟨ag,af+i * 9+5,none⟩=some (.int .i64 an5)∧wz.cell? ⟨ag,af+i * 9+6,none⟩=some (.int .i64 an6)∧wz.cell? ⟨ag,af+i * 9+7,none⟩=some (.int .i64 an7)∧wz.cell? ⟨ag,af+i * 9+8,none⟩=some (.slice aA8 al8 ac8))):=Lib.hid fun wz kz=>by
    have e:∀ o,wz.cell? ⟨ag,o,none⟩=wr.cell? ⟨ag,o,none⟩:=fun o=>World.cell?_of_block (a:=⟨ag,o,none⟩) (kz.block ag agl)
    rw [e,e,e,e,e,e,e,e,e]
    exact aE
   have HT:Hid ((kids.take (i+1)).all (Qy.mean (pickB L ch))=sb):=Lib.hid (by rw [List.take_add_one,hx];simp [hno,hsb])
   have HX:=Lib.hid (And.intro hmem hsb)
   have HBr:=Lib.hid hB
   clear hx hsb aE aR agl hno hB hBw hmem
   cases sb
   ·
    go_upto_region 11 with fail
    refine wp_region_specs wr [Spec.eq (.pointer (some ⟨gb,8,none⟩)),Spec.eq (.slice (some ⟨ag,af,none⟩) m c),Spec.eq (.int .i64 (i:Int)),Spec.eq (.pointer (some ⟨ag,(af+i * 9),none⟩)),Spec.eq (.agg #[.int .i64 an0,.string as1,.int .i64 an2,.int .i64 an3,.int .i64 an4,.int .i64 an5,.int .i64 an6,.int .i64 an7,.slice aA8 al8 ac8]),Spec.eq (.slice LA ln lc),Spec.eq (.int .i64 ch),Spec.eq (.bool false),Spec.eq (.pointer (some ⟨gb,0,none⟩)),Spec.eq (.int .i64 4),Spec.eq (.bool false),Spec.eq (.bool true)]
     (by kernel_rfl) (by kernel_rfl) rfl (by kernel_rfl) (Below.drew (Below.refl _ _)) ?_ ?_
    ·
     refine RegSteps.cons ?_ ?_
     ·intro _ az wz hC hF hD _ K hK
      have q3:az.tmps[3]? = some (.pointer (some ⟨gb,0,none⟩)):=hF 3 rfl
      clear hF hD
      refine want_none rfl ?_
      go_simp
      exact hK _ _ hC (Below.refl _ _) rfl
     refine RegSteps.cons ?_ ?_
     ·intro _ az wz hC hF hD _ K hK
      obtain ⟨_,q34,rfl⟩:=dep hD 0 rfl rfl rfl rfl
      obtain ⟨⟨y0,y1,y2,y3,y4,y5,y6,y7,y8⟩,_⟩:=(HOb.out.on hC).all9
      clear hF hD
      refine want_none rfl ?_
      go_simp
      exact hK _ _ hC (Below.refl _ _) rfl
     refine RegSteps.cons ?_ ?_
     ·intro _ az wz hC hF hD _ K hK
      have q7:az.tmps[7]? = some (.int .i64 (i:Int)):=hF 7 rfl
      clear hF hD
      refine want_none rfl ?_
      go_simp
      exact hK _ _ hC (Below.refl _ _) rfl
     refine RegSteps.cons ?_ ?_
     ·intro _ az wz hC hF hD _ K hK
      obtain ⟨_,q35,rfl⟩:=dep hD 1 rfl rfl rfl rfl
      obtain ⟨_,q36,rfl⟩:=dep hD 2 rfl rfl rfl rfl
      have i0_:=HI.out.1
      have i1_:=HI.out.2
      clear hF hD
      refine want_none rfl ?_
      go_simp
      exact hK _ _ hC (Below.refl _ _) rfl
     refine RegSteps.cons ?_ ?_
     ·intro _ az wz hC hF hD _ K hK
      obtain ⟨_,q37,rfl⟩:=dep hD 3 rfl rfl rfl rfl
      obtain ⟨z0,z1,z2,z3,z4,z5,z6,z7,z8⟩:=HEa.out _ hC
      clear hF hD
      refine want_none rfl ?_
      go_simp
      exact hK _ _ hC (Below.refl _ _) rfl
     refine RegSteps.cons ?_ ?_
     ·intro _ az wz hC hF hD _ K hK
      have q1:az.tmps[1]? = some (.slice LA ln lc):=hF 1 rfl
      clear hF hD
      refine want_none rfl ?_
      go_simp
      exact hK _ _ hC (Below.refl _ _) rfl
     refine RegSteps.cons ?_ ?_
     ·intro _ az wz hC hF hD _ K hK
      have q2:az.tmps[2]? = some (.int .i64 ch):=hF 2 rfl
      clear hF hD
      refine want_none rfl ?_
      go_simp
      exact hK _ _ hC (Below.refl _ _) rfl
     refine RegSteps.cons ?_ ?_
     ·intro _ az wz hC hF hD _ K hK
      obtain ⟨_,q38,rfl⟩:=dep hD 4 rfl rfl rfl rfl
      obtain ⟨_,q39,rfl⟩:=dep hD 5 rfl rfl rfl rfl
      obtain ⟨_,q40,rfl⟩:=dep hD 6 rfl rfl rfl rfl
      clear hF hD
      refine want_none rfl ?_
      go_simp
      refine (HC.out _ hC).mono ?_
      rintro e wy ⟨rfl,k⟩
      exact hK _ _ (Below.call hC k) k rfl
     refine RegSteps.cons ?_ ?_
     ·intro _ az wz hC hF hD _ K hK
      have q3:az.tmps[3]? = some (.pointer (some ⟨gb,0,none⟩)):=hF 3 rfl
      clear hF hD
      refine want_none rfl ?_
      go_simp
      exact hK _ _ hC (Below.refl _ _) rfl
     refine RegSteps.cons ?_ ?_
     ·intro _ az wz hC hF hD _ K hK
      obtain ⟨_,q42,rfl⟩:=dep hD 8 rfl rfl rfl rfl
      obtain ⟨⟨y0,y1,y2,y3,y4,y5,y6,y7,y8⟩,_⟩:=(HOb.out.on hC).all9
      clear hF hD
      refine want_none rfl ?_
      go_simp
      exact hK _ _ hC (Below.refl _ _) rfl
     refine RegSteps.cons ?_ ?_
     ·intro _ az wz hC hF hD _ K hK
      obtain ⟨_,q43,rfl⟩:=dep hD 9 rfl rfl rfl rfl
      clear hF hD
      refine want_none rfl ?_
      go_simp
      exact hK _ _ hC (Below.refl _ _) rfl
     refine RegSteps.cons ?_ ?_
     ·intro _ az wz hC hF hD _ K hK
      obtain ⟨_,q41,rfl⟩:=dep hD 7 rfl rfl rfl rfl
      obtain ⟨_,q44,rfl⟩:=dep hD 10 rfl rfl rfl rfl
      clear hF hD
      refine want_none rfl ?_
      go_simp
      exact hK _ _ hC (Below.refl _ _) rfl
     exact RegSteps.nil
    intro w6 hC6
    rintro _ rfl _ rfl _ rfl _ rfl _ rfl _ rfl _ rfl _ rfl _ rfl _ rfl _ rfl _ rfl
    simp only [FinOK,Act.put,List.setIfInBounds_toArray,List.set_cons_zero,List.set_cons_succ]
    have HEf:Hid (E=false):=Lib.hid (by rw [← HE.out];exact List.all_eq_false.2 ⟨x,HX.out.1,by rw [HX.out.2];simp⟩)
    have HBz:=Lib.hid (Below.call HBw.out hC6)
    have z0:=(HOb.out.on hC6).cell 0
    clear hC6 y0 y1 y2 y3 y4 y5 y6 y7 y8
    go_wp2
    go_returns
    exact ⟨by rw [HEf.out];simp,HBz.out⟩
   ·
    go_upto_region 11 with fail
    refine wp_region_specs wr [Spec.eq (.pointer (some ⟨gb,8,none⟩)),Spec.eq (.slice (some ⟨ag,af,none⟩) m c),Spec.eq (.int .i64 (i:Int)),Spec.eq (.pointer (some ⟨ag,(af+i * 9),none⟩)),Spec.eq (.agg #[.int .i64 an0,.string as1,.int .i64 an2,.int .i64 an3,.int .i64 an4,.int .i64 an5,.int .i64 an6,.int .i64 an7,.slice aA8 al8 ac8]),Spec.eq (.slice LA ln lc),Spec.eq (.int .i64 ch),Spec.eq (.bool true),Spec.eq (.pointer (some ⟨gb,0,none⟩)),Spec.eq (.int .i64 4),Spec.eq (.bool false),Spec.eq (.bool false)]
     (by kernel_rfl) (by kernel_rfl) rfl (by kernel_rfl) (Below.drew (Below.refl _ _)) ?_ ?_
    ·
     refine RegSteps.cons ?_ ?_
     ·intro _ az wz hC hF hD _ K hK
      have q3:az.tmps[3]? = some (.pointer (some ⟨gb,0,none⟩)):=hF 3 rfl
      clear hF hD
      refine want_none rfl ?_
      go_simp
      exact hK _ _ hC (Below.refl _ _) rfl
     refine RegSteps.cons ?_ ?_
     ·intro _ az wz hC hF hD _ K hK
      obtain ⟨_,q34,rfl⟩:=dep hD 0 rfl rfl rfl rfl
      obtain ⟨⟨y0,y1,y2,y3,y4,y5,y6,y7,y8⟩,_⟩:=(HOb.out.on hC).all9
      clear hF hD
      refine want_none rfl ?_
      go_simp
      exact hK _ _ hC (Below.refl _ _) rfl
     refine RegSteps.cons ?_ ?_
     ·intro _ az wz hC hF hD _ K hK
      have q7:az.tmps[7]? = some (.int .i64 (i:Int)):=hF 7 rfl
      clear hF hD
      refine want_none rfl ?_
      go_simp
      exact hK _ _ hC (Below.refl _ _) rfl
     refine RegSteps.cons ?_ ?_
     ·intro _ az wz hC hF hD _ K hK
      obtain ⟨_,q35,rfl⟩:=dep hD 1 rfl rfl rfl rfl
      obtain ⟨_,q36,rfl⟩:=dep hD 2 rfl rfl rfl rfl
      have i0_:=HI.out.1
      have i1_:=HI.out.2
      clear hF hD
      refine want_none rfl ?_
      go_simp
      exact hK _ _ hC (Below.refl _ _) rfl
     refine RegSteps.cons ?_ ?_
     ·intro _ az wz hC hF hD _ K hK
      obtain ⟨_,q37,rfl⟩:=dep hD 3 rfl rfl rfl rfl
      obtain ⟨z0,z1,z2,z3,z4,z5,z6,z7,z8⟩:=HEa.out _ hC
      clear hF hD
      refine want_none rfl ?_
      go_simp
      exact hK _ _ hC (Below.refl _ _) rfl
     refine RegSteps.cons ?_ ?_
     ·intro _ az wz hC hF hD _ K hK
      have q1:az.tmps[1]? = some (.slice LA ln lc):=hF 1 rfl
      clear hF hD
      refine want_none rfl ?_
      go_simp
      exact hK _ _ hC (Below.refl _ _) rfl
     refine RegSteps.cons ?_ ?_
     ·intro _ az wz hC hF hD _ K hK
      have q2:az.tmps[2]? = some (.int .i64 ch):=hF 2 rfl
      clear hF hD
      refine want_none rfl ?_
      go_simp
      exact hK _ _ hC (Below.refl _ _) rfl
     refine RegSteps.cons ?_ ?_
     ·intro _ az wz hC hF hD _ K hK
      obtain ⟨_,q38,rfl⟩:=dep hD 4 rfl rfl rfl rfl
      obtain ⟨_,q39,rfl⟩:=dep hD 5 rfl rfl rfl rfl
      obtain ⟨_,q40,rfl⟩:=dep hD 6 rfl rfl rfl rfl
      clear hF hD
      refine want_none rfl ?_
      go_simp
      refine (HC.out _ hC).mono ?_
      rintro e wy ⟨rfl,k⟩
      exact hK _ _ (Below.call hC k) k rfl
     refine RegSteps.cons ?_ ?_
     ·intro _ az wz hC hF hD _ K hK
      have q3:az.tmps[3]? = some (.pointer (some ⟨gb,0,none⟩)):=hF 3 rfl
      clear hF hD
      refine want_none rfl ?_
      go_simp
      exact hK _ _ hC (Below.refl _ _) rfl
     refine RegSteps.cons ?_ ?_
     ·intro _ az wz hC hF hD _ K hK
      obtain ⟨_,q42,rfl⟩:=dep hD 8 rfl rfl rfl rfl
      obtain ⟨⟨y0,y1,y2,y3,y4,y5,y6,y7,y8⟩,_⟩:=(HOb.out.on hC).all9
      clear hF hD
      refine want_none rfl ?_
      go_simp
      exact hK _ _ hC (Below.refl _ _) rfl
     refine RegSteps.cons ?_ ?_
     ·intro _ az wz hC hF hD _ K hK
      obtain ⟨_,q43,rfl⟩:=dep hD 9 rfl rfl rfl rfl
      clear hF hD
      refine want_none rfl ?_
      go_simp
      exact hK _ _ hC (Below.refl _ _) rfl
     refine RegSteps.cons ?_ ?_
     ·intro _ az wz hC hF hD _ K hK
      obtain ⟨_,q41,rfl⟩:=dep hD 7 rfl rfl rfl rfl
      obtain ⟨_,q44,rfl⟩:=dep hD 10 rfl rfl rfl rfl
      clear hF hD
      refine want_none rfl ?_
      go_simp
      exact hK _ _ hC (Below.refl _ _) rfl
     exact RegSteps.nil
    intro w6 hC6
    rintro _ rfl _ rfl _ rfl _ rfl _ rfl _ rfl _ rfl _ rfl _ rfl _ rfl _ rfl _ rfl
    simp only [FinOK,Act.put,List.setIfInBounds_toArray,List.set_cons_zero,List.set_cons_succ]
    have HBz:=Lib.hid (Below.call HBr.out hC6)
    clear hC6 y0 y1 y2 y3 y4 y5 y6 y7 y8
    go_wp2_with fail
    go_roundw
    case rel=>exact ⟨i+1,by omega,by go_num,HT.out,HBz.out⟩
    case measure=>simp [intOf];omega
  ·
   have i1:¬ (i:Int)<(m:Int):=by omega
   have hLT:kids.take i=kids:=List.take_of_length_le (by have:=HM.out;omega)
   rw [hLT,HE.out] at hno
   subst hno
   clear hLT hB hBw
   go_wp2
   go_returns
   exact ⟨by simp,HBw.out⟩
set_option maxRecDepth 100000 in
set_option maxHeartbeats 6400000 in
theorem means_kids5 {n:Nat} {L:List Qy.Reg} {ch:Int} (ih:MeIH L ch n) {kids:List Qy.Reg} (hn:Qy.nodesL kids≤n) (hn2:n≤1000000) (hv:∀ x∈kids,Qy.nodeE x=0) (SL:Nat→Prop) (LA:Option Addr) (lc:Nat) (cs:List Value) (w:World) (h:RegAt w (fun _=>True) cs (Qy.kidsR 5 kids)) (hLK:KidsAt w SL LA 0 L) :
 Calls Tryd.prog 28 #[.agg cs.toArray,.slice LA L.length lc,.int .i64 ch] w (RetB w (Qy.mean (pickB L ch) (Qy.kidsR 5 kids))):=by
 have HLK:=Lib.hid hLK
 have HIH:=Lib.hid ih
 obtain ⟨bs1,bn2,bn3,bn4,bn5,bn6,bn7,A,c,rfl,hK⟩:=h.litk
 have hK:KidsAt w (fun _=>True) A 0 kids:=hK
 rw [show (Qy.kidsR 5 kids).kind=5 from rfl,show (Qy.kidsR 5 kids).kids.length=(kids).length from rfl]
 obtain ⟨ln,hln⟩:∃ n,L.length=n:=⟨_,rfl⟩
 obtain ⟨m,hm⟩:∃ n,kids.length=n:=⟨_,rfl⟩
 have HM:=Lib.hid hm
 have hmb:m≤1000000:=by have h1:=Qy.len_nodesL kids;omega
 have HK:=Lib.hid hK
 have HV:=Lib.hid (And.intro hv hn)
 obtain ⟨E,hE⟩:∃ E,Qy.mean (pickB L ch) (Qy.kidsR 5 kids)=E:=⟨_,rfl⟩
 have HE:Hid (kids.any (Qy.mean (pickB L ch))=E):=Lib.hid (by rw [← hE,Qy.mean_kids _ _ _ (.inr rfl)];rfl)
 have HLn:=Lib.hid hln
 rw [hln,hm,hE]
 clear hE hln hK h hLK ih hn hv hm
 go_enter Tryd.func28,Tryd.ntmps28
 go_upto_region 1 with fail
 refine wp_new1 fun W0 hO kn=>?_
 obtain ⟨gb,hgb⟩:∃ g,w.heap.size=g:=⟨_,rfl⟩
 rw [hgb] at hO ⊢
 have HO:=Lib.hid (And.intro hO kn)
 obtain ⟨⟨y0,y1,y2,y3,y4,y5,y6,y7,y8⟩,_⟩:=hO.all9
 clear hO kn hgb
 go_wp2_with fail
 go_loopw [7] (fun s wr=>∃ i:Nat,i≤m∧s=.int .i64 (i:Int)∧(kids.take i).any (Qy.mean (pickB L ch))=false∧Below W0.heap.size W0 wr) (fun s _=>m - (intOf s).toNat)
 case atStart=>exact ⟨0,by omega,rfl,by simp,Below.refl _ _⟩
 case round=>
  obtain ⟨i,hi,rfl,hno,hB⟩:=hrel
  clear y0 y1 y2 y3 y4 y5 y6 y7 y8
  have hBw:Below w.heap.size w wr:=Below.call HO.out.2 hB
  have HBw:=Lib.hid hBw
  have HOb:=Lib.hid (HO.out.1.on hB)
  obtain ⟨⟨y0,y1,y2,y3,y4,y5,y6,y7,y8⟩,_⟩:=HOb.out.all9
  rcases Nat.lt_or_eq_of_le hi with hlt | heq
  ·
   have i1:(i:Int)<(m:Int):=by omega
   have HI:=Lib.hid (And.intro (Int.natCast_nonneg i) i1)
   obtain ⟨x,hx⟩:∃ x,kids[i]? = some x:=⟨_,List.getElem?_eq_getElem (by have:=HM.out;omega)⟩
   obtain ⟨ag,af,an0,as1,an2,an3,an4,an5,an6,an7,aA8,al8,ac8,rfl,_,agl,aE,aR⟩:=(HK.out.on hBw).lit hx
   have hmem:=List.mem_of_getElem? hx
   obtain ⟨sb,hsb⟩:∃ sb,Qy.mean (pickB L ch) x=sb:=⟨_,rfl⟩
   have HC:Hid (∀ u,Below wr.heap.size wr u→Calls Tryd.prog 28 #[.agg #[.int .i64 an0,.string as1,.int .i64 an2,.int .i64 an3,.int .i64 an4,.int .i64 an5,.int .i64 an6,.int .i64 an7,.slice aA8 al8 ac8],.slice LA ln lc,.int .i64 ch] u (RetB u sb)):=Lib.hid fun u hu=>by
    have h2:=HIH.out x (by have h1:=Qy.nodes_in1 hmem;have h2:=HV.out.2;omega) (HV.out.1 x hmem) SL LA lc [.int .i64 an0,.string as1,.int .i64 an2,.int .i64 an3,.int .i64 an4,.int .i64 an5,.int .i64 an6,.int .i64 an7,.slice aA8 al8 ac8] u (aR.on hu) (HLK.out.on (Below.call HBw.out hu))
    rw [HLn.out,hsb] at h2
    exact h2
   have HEa:Hid (∀ wz,Below wr.heap.size wr wz→(wz.cell? ⟨ag,af+i * 9,none⟩=some (.int .i64 an0)∧wz.cell? ⟨ag,af+i * 9+1,none⟩=some (.string as1)∧wz.cell? ⟨ag,af+i * 9+2,none⟩=some (.int .i64 an2)∧wz.cell? ⟨ag,af+i * 9+3,none⟩=some (.int .i64 an3)∧wz.cell? ⟨ag,af+i * 9+4,none⟩=some (.int .i64 an4)∧wz.cell? ⟨ag,af+i * 9+5,none⟩=some (.int .i64 an5)∧wz.cell? ⟨ag,af+i * 9+6,none⟩=some (.int .i64 an6)∧wz.cell? ⟨ag,af+i * 9+7,none⟩=some (.int .i64 an7)∧wz.cell? ⟨ag,af+i * 9+8,none⟩=some (.slice aA8 al8 ac8))):=Lib.hid fun wz kz=>by
    have e:∀ o,wz.cell? ⟨ag,o,none⟩=wr.cell? ⟨ag,o,none⟩:=fun o=>World.cell?_of_block (a:=⟨ag,o,none⟩) (kz.block ag agl)
    rw [e,e,e,e,e,e,e,e,e]
    exact aE
   have HT:Hid ((kids.take (i+1)).any (Qy.mean (pickB L ch))=sb):=Lib.hid (by rw [List.take_add_one,hx];simp [hno,hsb])
   have HX:=Lib.hid (And.intro hmem hsb)
   have HBr:=Lib.hid hB
   clear hx hsb aE aR agl hno hB hBw hmem
   cases sb
   ·
    go_upto_region 11 with fail
    refine wp_region_specs wr [Spec.eq (.pointer (some ⟨gb,8,none⟩)),Spec.eq (.slice (some ⟨ag,af,none⟩) m c),Spec.eq (.int .i64 (i:Int)),Spec.eq (.pointer (some ⟨ag,(af+i * 9),none⟩)),Spec.eq (.agg #[.int .i64 an0,.string as1,.int .i64 an2,.int .i64 an3,.int .i64 an4,.int .i64 an5,.int .i64 an6,.int .i64 an7,.slice aA8 al8 ac8]),Spec.eq (.slice LA ln lc),Spec.eq (.int .i64 ch),Spec.eq (.bool false),Spec.eq (.pointer (some ⟨gb,0,none⟩)),Spec.eq (.int .i64 5),Spec.eq (.bool true),Spec.eq (.bool false)]
     (by kernel_rfl) (by kernel_rfl) rfl (by kernel_rfl) (Below.drew (Below.refl _ _)) ?_ ?_
    ·
     refine RegSteps.cons ?_ ?_
     ·intro _ az wz hC hF hD _ K hK
      have q3:az.tmps[3]? = some (.pointer (some ⟨gb,0,none⟩)):=hF 3 rfl
      clear hF hD
      refine want_none rfl ?_
      go_simp
      exact hK _ _ hC (Below.refl _ _) rfl
     refine RegSteps.cons ?_ ?_
     ·intro _ az wz hC hF hD _ K hK
      obtain ⟨_,q34,rfl⟩:=dep hD 0 rfl rfl rfl rfl
      obtain ⟨⟨y0,y1,y2,y3,y4,y5,y6,y7,y8⟩,_⟩:=(HOb.out.on hC).all9
      clear hF hD
      refine want_none rfl ?_
      go_simp
      exact hK _ _ hC (Below.refl _ _) rfl
     refine RegSteps.cons ?_ ?_
     ·intro _ az wz hC hF hD _ K hK
      have q7:az.tmps[7]? = some (.int .i64 (i:Int)):=hF 7 rfl
      clear hF hD
      refine want_none rfl ?_
      go_simp
      exact hK _ _ hC (Below.refl _ _) rfl
     refine RegSteps.cons ?_ ?_
     ·intro _ az wz hC hF hD _ K hK
      obtain ⟨_,q35,rfl⟩:=dep hD 1 rfl rfl rfl rfl
      obtain ⟨_,q36,rfl⟩:=dep hD 2 rfl rfl rfl rfl
      have i0_:=HI.out.1
      have i1_:=HI.out.2
      clear hF hD
      refine want_none rfl ?_
      go_simp
      exact hK _ _ hC (Below.refl _ _) rfl
     refine RegSteps.cons ?_ ?_
     ·intro _ az wz hC hF hD _ K hK
      obtain ⟨_,q37,rfl⟩:=dep hD 3 rfl rfl rfl rfl
      obtain ⟨z0,z1,z2,z3,z4,z5,z6,z7,z8⟩:=HEa.out _ hC
      clear hF hD
      refine want_none rfl ?_
      go_simp
      exact hK _ _ hC (Below.refl _ _) rfl
     refine RegSteps.cons ?_ ?_
     ·intro _ az wz hC hF hD _ K hK
      have q1:az.tmps[1]? = some (.slice LA ln lc):=hF 1 rfl
      clear hF hD
      refine want_none rfl ?_
      go_simp
      exact hK _ _ hC (Below.refl _ _) rfl
     refine RegSteps.cons ?_ ?_
     ·intro _ az wz hC hF hD _ K hK
      have q2:az.tmps[2]? = some (.int .i64 ch):=hF 2 rfl
      clear hF hD
      refine want_none rfl ?_
      go_simp
      exact hK _ _ hC (Below.refl _ _) rfl
     refine RegSteps.cons ?_ ?_
     ·intro _ az wz hC hF hD _ K hK
      obtain ⟨_,q38,rfl⟩:=dep hD 4 rfl rfl rfl rfl
      obtain ⟨_,q39,rfl⟩:=dep hD 5 rfl rfl rfl rfl
      obtain ⟨_,q40,rfl⟩:=dep hD 6 rfl rfl rfl rfl
      clear hF hD
      refine want_none rfl ?_
      go_simp
      refine (HC.out _ hC).mono ?_
      rintro e wy ⟨rfl,k⟩
      exact hK _ _ (Below.call hC k) k rfl
     refine RegSteps.cons ?_ ?_
     ·intro _ az wz hC hF hD _ K hK
      have q3:az.tmps[3]? = some (.pointer (some ⟨gb,0,none⟩)):=hF 3 rfl
      clear hF hD
      refine want_none rfl ?_
      go_simp
      exact hK _ _ hC (Below.refl _ _) rfl
     refine RegSteps.cons ?_ ?_
     ·intro _ az wz hC hF hD _ K hK
      obtain ⟨_,q42,rfl⟩:=dep hD 8 rfl rfl rfl rfl
      obtain ⟨⟨y0,y1,y2,y3,y4,y5,y6,y7,y8⟩,_⟩:=(HOb.out.on hC).all9
      clear hF hD
      refine want_none rfl ?_
      go_simp
      exact hK _ _ hC (Below.refl _ _) rfl
     refine RegSteps.cons ?_ ?_
     ·intro _ az wz hC hF hD _ K hK
      obtain ⟨_,q43,rfl⟩:=dep hD 9 rfl rfl rfl rfl
      clear hF hD
      refine want_none rfl ?_
      go_simp
      exact hK _ _ hC (Below.refl _ _) rfl
     refine RegSteps.cons ?_ ?_
     ·intro _ az wz hC hF hD _ K hK
      obtain ⟨_,q41,rfl⟩:=dep hD 7 rfl rfl rfl rfl
      obtain ⟨_,q44,rfl⟩:=dep hD 10 rfl rfl rfl rfl
      clear hF hD
      refine want_none rfl ?_
      go_simp
      exact hK _ _ hC (Below.refl _ _) rfl
     exact RegSteps.nil
    intro w6 hC6
    rintro _ rfl _ rfl _ rfl _ rfl _ rfl _ rfl _ rfl _ rfl _ rfl _ rfl _ rfl _ rfl
    simp only [FinOK,Act.put,List.setIfInBounds_toArray,List.set_cons_zero,List.set_cons_succ]
    have HBz:=Lib.hid (Below.call HBr.out hC6)
    clear hC6 y0 y1 y2 y3 y4 y5 y6 y7 y8
    go_wp2_with fail
    go_roundw
    case rel=>exact ⟨i+1,by omega,by go_num,HT.out,HBz.out⟩
    case measure=>simp [intOf];omega
   ·
    go_upto_region 11 with fail
    refine wp_region_specs wr [Spec.eq (.pointer (some ⟨gb,8,none⟩)),Spec.eq (.slice (some ⟨ag,af,none⟩) m c),Spec.eq (.int .i64 (i:Int)),Spec.eq (.pointer (some ⟨ag,(af+i * 9),none⟩)),Spec.eq (.agg #[.int .i64 an0,.string as1,.int .i64 an2,.int .i64 an3,.int .i64 an4,.int .i64 an5,.int .i64 an6,.int .i64 an7,.slice aA8 al8 ac8]),Spec.eq (.slice LA ln lc),Spec.eq (.int .i64 ch),Spec.eq (.bool true),Spec.eq (.pointer (some ⟨gb,0,none⟩)),Spec.eq (.int .i64 5),Spec.eq (.bool true),Spec.eq (.bool true)]
     (by kernel_rfl) (by kernel_rfl) rfl (by kernel_rfl) (Below.drew (Below.refl _ _)) ?_ ?_
    ·
     refine RegSteps.cons ?_ ?_
     ·intro _ az wz hC hF hD _ K hK
      have q3:az.tmps[3]? = some (.pointer (some ⟨gb,0,none⟩)):=hF 3 rfl
      clear hF hD
      refine want_none rfl ?_
      go_simp
      exact hK _ _ hC (Below.refl _ _) rfl
     refine RegSteps.cons ?_ ?_
     ·intro _ az wz hC hF hD _ K hK
      obtain ⟨_,q34,rfl⟩:=dep hD 0 rfl rfl rfl rfl
      obtain ⟨⟨y0,y1,y2,y3,y4,y5,y6,y7,y8⟩,_⟩:=(HOb.out.on hC).all9
      clear hF hD
      refine want_none rfl ?_
      go_simp
      exact hK _ _ hC (Below.refl _ _) rfl
     refine RegSteps.cons ?_ ?_
     ·intro _ az wz hC hF hD _ K hK
      have q7:az.tmps[7]? = some (.int .i64 (i:Int)):=hF 7 rfl
      clear hF hD
      refine want_none rfl ?_
      go_simp
      exact hK _ _ hC (Below.refl _ _) rfl
     refine RegSteps.cons ?_ ?_
     ·intro _ az wz hC hF hD _ K hK
      obtain ⟨_,q35,rfl⟩:=dep hD 1 rfl rfl rfl rfl
      obtain ⟨_,q36,rfl⟩:=dep hD 2 rfl rfl rfl rfl
      have i0_:=HI.out.1
      have i1_:=HI.out.2
      clear hF hD
      refine want_none rfl ?_
      go_simp
      exact hK _ _ hC (Below.refl _ _) rfl
     refine RegSteps.cons ?_ ?_
     ·intro _ az wz hC hF hD _ K hK
      obtain ⟨_,q37,rfl⟩:=dep hD 3 rfl rfl rfl rfl
      obtain ⟨z0,z1,z2,z3,z4,z5,z6,z7,z8⟩:=HEa.out _ hC
      clear hF hD
      refine want_none rfl ?_
      go_simp
      exact hK _ _ hC (Below.refl _ _) rfl
     refine RegSteps.cons ?_ ?_
     ·intro _ az wz hC hF hD _ K hK
      have q1:az.tmps[1]? = some (.slice LA ln lc):=hF 1 rfl
      clear hF hD
      refine want_none rfl ?_
      go_simp
      exact hK _ _ hC (Below.refl _ _) rfl
     refine RegSteps.cons ?_ ?_
     ·intro _ az wz hC hF hD _ K hK
      have q2:az.tmps[2]? = some (.int .i64 ch):=hF 2 rfl
      clear hF hD
      refine want_none rfl ?_
      go_simp
      exact hK _ _ hC (Below.refl _ _) rfl
     refine RegSteps.cons ?_ ?_
     ·intro _ az wz hC hF hD _ K hK
      obtain ⟨_,q38,rfl⟩:=dep hD 4 rfl rfl rfl rfl
      obtain ⟨_,q39,rfl⟩:=dep hD 5 rfl rfl rfl rfl
      obtain ⟨_,q40,rfl⟩:=dep hD 6 rfl rfl rfl rfl
      clear hF hD
      refine want_none rfl ?_
      go_simp
      refine (HC.out _ hC).mono ?_
      rintro e wy ⟨rfl,k⟩
      exact hK _ _ (Below.call hC k) k rfl
     refine RegSteps.cons ?_ ?_
     ·intro _ az wz hC hF hD _ K hK
      have q3:az.tmps[3]? = some (.pointer (some ⟨gb,0,none⟩)):=hF 3 rfl
      clear hF hD
      refine want_none rfl ?_
      go_simp
      exact hK _ _ hC (Below.refl _ _) rfl
     refine RegSteps.cons ?_ ?_
     ·intro _ az wz hC hF hD _ K hK
      obtain ⟨_,q42,rfl⟩:=dep hD 8 rfl rfl rfl rfl
      obtain ⟨⟨y0,y1,y2,y3,y4,y5,y6,y7,y8⟩,_⟩:=(HOb.out.on hC).all9
      clear hF hD
      refine want_none rfl ?_
      go_simp
      exact hK _ _ hC (Below.refl _ _) rfl
     refine RegSteps.cons ?_ ?_
     ·intro _ az wz hC hF hD _ K hK
      obtain ⟨_,q43,rfl⟩:=dep hD 9 rfl rfl rfl rfl
      clear hF hD
      refine want_none rfl ?_
      go_simp
      exact hK _ _ hC (Below.refl _ _) rfl
     refine RegSteps.cons ?_ ?_
     ·intro _ az wz hC hF hD _ K hK
      obtain ⟨_,q41,rfl⟩:=dep hD 7 rfl rfl rfl rfl
      obtain ⟨_,q44,rfl⟩:=dep hD 10 rfl rfl rfl rfl
      clear hF hD
      refine want_none rfl ?_
      go_simp
      exact hK _ _ hC (Below.refl _ _) rfl
     exact RegSteps.nil
    intro w6 hC6
    rintro _ rfl _ rfl _ rfl _ rfl _ rfl _ rfl _ rfl _ rfl _ rfl _ rfl _ rfl _ rfl
    simp only [FinOK,Act.put,List.setIfInBounds_toArray,List.set_cons_zero,List.set_cons_succ]
    have HEf:Hid (E=true):=Lib.hid (by rw [← HE.out];exact List.any_eq_true.2 ⟨x,HX.out.1,HX.out.2⟩)
    have HBz:=Lib.hid (Below.call HBw.out hC6)
    have z0:=(HOb.out.on hC6).cell 0
    clear hC6 y0 y1 y2 y3 y4 y5 y6 y7 y8
    go_wp2
    go_returns
    exact ⟨by rw [HEf.out];simp,HBz.out⟩
  ·
   have i1:¬ (i:Int)<(m:Int):=by omega
   have hLT:kids.take i=kids:=List.take_of_length_le (by have:=HM.out;omega)
   rw [hLT,HE.out] at hno
   subst hno
   clear hLT hB hBw
   go_wp2
   go_returns
   exact ⟨by simp,HBw.out⟩
theorem means_any {L:List Qy.Reg} (hL:L.length≤1000000∧∀ x∈L,Qy.nodes x≤1000000) {ch:Int} (hch:0≤ch∧ch<1048576):∀ n,n≤1000000→MeIH L ch n:=by
 intro n
 induction n with
 | zero=>intro _ R h;have:=Qy.nodes_pos R;omega
 | succ n ih=>
  intro hn2 R hn hv SL LA lc cs w h hLK
  rcases Qy.node_cases hv with ⟨h0,h1,_⟩ | ⟨x,rfl,hx⟩ | ⟨hk,e,hx⟩
  ·exact means_leaf ⟨h0,h1⟩ (by omega) L hL ch hch cs w h hLK
  ·rw [Qy.nodes_kids] at hn
   have h1:Qy.nodesL [x]=Qy.nodes x:=Qy.nodesL_one x
   exact means_not (ih (by omega)) (by omega) hx SL LA lc cs w h hLK
  ·rw [Qy.nodes_of_kids] at hn
   rcases hk with hk | hk
   ·rw [hk] at e
    rw [e] at h ⊢
    exact means_kids4 (ih (by omega)) (by omega) (by omega) hx SL LA lc cs w h hLK
   ·rw [hk] at e
    rw [e] at h ⊢
    exact means_kids5 (ih (by omega)) (by omega) (by omega) hx SL LA lc cs w h hLK
end Go.Proofs.YtmlpibdincfgbaaDoor
