/-
  Chapter 38's reference: put.
-/
import Derived.Test.YtmlpibdincfgbaaDoorQS1
import Derived.Test.YtmlpibdincfgbaaDoorQS9
import Derived.Test.YtmlpibdincfgbaaDoorRA
namespace Go.Proofs.YtmlpibdincfgbaaDoor
open Go.RowKit
set_option linter.unusedSimpArgs false
set_option linter.unusedVariables false
def putL (l:List Qy.Reg) (R:Qy.Reg):List Qy.Reg:=if l.any (fun x=>Qy.sameR x R) then l else l++[R]
def PutP (N:Nat→Prop) (w:World) (v:Value) (l:List Qy.Reg) (R:Qy.Reg) (e:Ending) (w':World):Prop:=
 ∃ v',e=.returned v'∧KRow 42 N w' v' (putL l R)∧w.grownBy w' v.ownBlock∧(∀ g,v'.ownBlock=some g→v.ownBlock=some g∨w.heap.size≤g)
theorem bel_gr {w a b:World} {o:Option Nat} (h:Below w.heap.size w a) (k:a.grownBy b o):w.grownBy b o:=
 ⟨k.os.trans h.os,k.tape.trans h.tape,k.output.trans h.output,Nat.le_trans h.size k.size,fun j hj hne=>(k.block j (Nat.lt_of_lt_of_le hj h.size) hne).trans (h.block j hj)⟩
theorem gr_bel {w a:World} {o:Option Nat} (h:Below w.heap.size w a):w.grownBy a o:=⟨h.os,h.tape,h.output,h.size,fun j hj _=>h.block j hj⟩
theorem reg_infoP:(Tryd.prog.info? 42).map (fun i=>(i.zero,i.size,i.bytes))=some (some (.agg #[.int .i64 0,.string ⟨#[]⟩,.int .i64 0,.int .i64 0,.int .i64 0,.int .i64 0,.int .i64 0,.int .i64 0,.slice none 0 0]),9,96):=by kernel_rfl
theorem RegAt.lit11 {w:World} {S:Nat→Prop} {cs:List Value} {R:Qy.Reg} (h:RegAt w S cs R):∃ n0 s1 n2 n3 n4 n5 n6 n7 A8 l8 c8,cs=[.int .i64 n0,.string s1,.int .i64 n2,.int .i64 n3,.int .i64 n4,.int .i64 n5,.int .i64 n6,.int .i64 n7,.slice A8 l8 c8]:=by
 obtain ⟨A8,c8,rfl,_⟩:=h.cells
 obtain ⟨n0,s1,n2,n3,n4,n5,n6,n7,l8,e⟩:=regCells_parts R A8 c8
 exact ⟨_,_,_,_,_,_,_,_,_,_,_,e⟩
set_option maxRecDepth 100000 in
set_option maxHeartbeats 6400000 in
theorem put_any {N:Nat→Prop} (v:Value) (l:List Qy.Reg) (R:Qy.Reg) (cs:List Value) (w:World) (hrow:KRow 42 N w v l) (hR:RegAt w (fun g=>N g∧v.ownBlock≠some g) cs R) (hN:∀ g,w.heap.size≤g→N g)
 (hl:l.length≤1000000) (hn:∀ x∈l,Qy.nodes x≤1000000) (hnR:Qy.nodes R≤1000000):Calls Tryd.prog 46 #[v,.agg cs.toArray] w (PutP N w v l R):=by
 obtain ⟨bn0,bs1,bn2,bn3,bn4,bn5,bn6,bn7,bA8,bl8,bc8,rfl⟩:=hR.lit11
 obtain ⟨A,c,rfl,hK⟩:=hrow.kids
 have HSm:Hid (∀ x∈l,∀ (v v':Value) (u:World),IsReg u x v→IsReg u R v'→Calls Tryd.prog 23 #[v,v'] u (RetB u (Qy.sameR x R))):=Lib.hid fun x hx v v' u h h'=>Same_any 1000000 x R (hn x hx) (by omega) hnR v v' u h h'
 obtain ⟨m,hm⟩:∃ m,l.length=m:=⟨_,rfl⟩
 have HM:=Lib.hid hm
 rw [hm] at hl hrow hR ⊢
 clear hm hn hnR
 have HW:=Lib.hid (And.intro hrow (And.intro hR (And.intro hK hN)))
 clear hrow hR hK hN
 go_enter Tryd.func46,Tryd.ntmps46
 go_upto_region 1 with fail
 refine wp_new1 fun W0 hO kn=>?_
 obtain ⟨gb,hgb⟩:∃ g,w.heap.size=g:=⟨_,rfl⟩
 rw [hgb] at hO ⊢
 have HO:=Lib.hid (And.intro hO kn)
 clear hO kn hgb
 go_wp2_with fail
 go_loopw [5] (fun s wr=>∃ i:Nat,i≤m∧s=.int .i64 (i:Int)∧((l.take i).any (fun x=>Qy.sameR x R)=false)∧Below W0.heap.size W0 wr) (fun s _=>m - (intOf s).toNat)
 case atStart=>exact ⟨0,by omega,rfl,by simp,Below.refl _ _⟩
 case round=>
  obtain ⟨i,hi,rfl,hno,hB⟩:=hrel
  have HB:=Lib.hid (And.intro hno hB)
  have hBw:Below w.heap.size w wr:=Below.call HO.out.2 hB
  have HBw:=Lib.hid hBw
  rcases Nat.lt_or_eq_of_le hi with hlt | heq
  ·have i1:(i:Int)<(m:Int):=by omega
   have HI:=Lib.hid (And.intro (Int.natCast_nonneg i) i1)
   obtain ⟨x,hx⟩:∃ x,l[i]? = some x:=⟨_,List.getElem?_eq_getElem (by have:=HM.out;omega)⟩
   have hK2:KidsAt wr (fun g=>N g) A 0 l:=HW.out.2.2.1.on hBw
   obtain ⟨ag,af,an0,as1,an2,an3,an4,an5,an6,an7,aA8,al8,ac8,rfl,_,agl,aE,aR⟩:=hK2.lit hx
   obtain ⟨sb,hsb⟩:∃ sb,Qy.sameR x R=sb:=⟨_,rfl⟩
   have HC:=Lib.hid (HSm.out x (List.mem_of_getElem? hx))
   rw [hsb] at HC
   have HOb:=Lib.hid (HO.out.1.on hB)
   have HEa:Hid (∀ wz,Below wr.heap.size wr wz→(wz.cell? ⟨ag,af+i * 9,none⟩=some (.int .i64 an0)∧wz.cell? ⟨ag,af+i * 9+1,none⟩=some (.string as1)∧wz.cell? ⟨ag,af+i * 9+2,none⟩=some (.int .i64 an2)∧wz.cell? ⟨ag,af+i * 9+3,none⟩=some (.int .i64 an3)∧wz.cell? ⟨ag,af+i * 9+4,none⟩=some (.int .i64 an4)∧wz.cell? ⟨ag,af+i * 9+5,none⟩=some (.int .i64 an5)∧wz.cell? ⟨ag,af+i * 9+6,none⟩=some (.int .i64 an6)∧wz.cell? ⟨ag,af+i * 9+7,none⟩=some (.int .i64 an7)∧wz.cell? ⟨ag,af+i * 9+8,none⟩=some (.slice aA8 al8 ac8))):=Lib.hid fun wz kz=>by
    have e:∀ o,wz.cell? ⟨ag,o,none⟩=wr.cell? ⟨ag,o,none⟩:=fun o=>World.cell?_of_block (a:=⟨ag,o,none⟩) (kz.block ag agl)
    rw [e,e,e,e,e,e,e,e,e]
    exact aE
   have HRa:Hid (∀ wz,Below wr.heap.size wr wz→IsReg wz x (.agg #[.int .i64 an0,.string as1,.int .i64 an2,.int .i64 an3,.int .i64 an4,.int .i64 an5,.int .i64 an6,.int .i64 an7,.slice aA8 al8 ac8])):=Lib.hid fun wz kz=>(aR.on kz).isReg
   have HRb:Hid (∀ wz,Below wr.heap.size wr wz→IsReg wz R (.agg #[.int .i64 bn0,.string bs1,.int .i64 bn2,.int .i64 bn3,.int .i64 bn4,.int .i64 bn5,.int .i64 bn6,.int .i64 bn7,.slice bA8 bl8 bc8])):=Lib.hid fun wz kz=>((HW.out.2.1.on hBw).on kz).isReg
   have HT:Hid ((l.take (i+1)).any (fun x=>Qy.sameR x R)=sb):=Lib.hid (by rw [any_snoc hx,hno,hsb];simp)
   have HX:=Lib.hid hx
   clear hx hsb aE aR agl hK2 hno hB hBw
   go_upto_region 4 with fail
   refine wp_region_specs wr [Spec.eq (.slice (some ⟨ag,af,none⟩) m c),Spec.eq (.int .i64 (i:Int)),Spec.eq (.pointer (some ⟨ag,(af+i * 9),none⟩)),Spec.eq (.agg #[.int .i64 an0,.string as1,.int .i64 an2,.int .i64 an3,.int .i64 an4,.int .i64 an5,.int .i64 an6,.int .i64 an7,.slice aA8 al8 ac8]),Spec.eq (.agg #[.int .i64 bn0,.string bs1,.int .i64 bn2,.int .i64 bn3,.int .i64 bn4,.int .i64 bn5,.int .i64 bn6,.int .i64 bn7,.slice bA8 bl8 bc8]),Spec.eq (.bool sb),Spec.eq (.bool sb)]
    (by kernel_rfl) (by kernel_rfl) rfl (by kernel_rfl) (Below.drew (Below.refl _ _)) ?_ ?_
   ·
    refine RegSteps.cons ?_ ?_
    ·intro _ az wz hC hF hD _ K hK
     have q0:az.tmps[0]? = some (.slice (some ⟨ag,af,none⟩) m c):=hF 0 rfl
     clear hF hD
     refine want_none rfl ?_
     go_simp
     exact hK _ _ hC (Below.refl _ _) rfl
    refine RegSteps.cons ?_ ?_
    ·intro _ az wz hC hF hD _ K hK
     have q5:az.tmps[5]? = some (.int .i64 (i:Int)):=hF 5 rfl
     clear hF hD
     refine want_none rfl ?_
     go_simp
     exact hK _ _ hC (Below.refl _ _) rfl
    refine RegSteps.cons ?_ ?_
    ·intro _ az wz hC hF hD _ K hK
     obtain ⟨_,q13,rfl⟩:=dep hD 0 rfl rfl rfl rfl
     obtain ⟨_,q14,rfl⟩:=dep hD 1 rfl rfl rfl rfl
     have i0_:=HI.out.1
     have i1_:=HI.out.2
     clear hF hD
     refine want_none rfl ?_
     go_simp
     exact hK _ _ hC (Below.refl _ _) rfl
    refine RegSteps.cons ?_ ?_
    ·intro _ az wz hC hF hD _ K hK
     obtain ⟨_,q15,rfl⟩:=dep hD 2 rfl rfl rfl rfl
     obtain ⟨z0,z1,z2,z3,z4,z5,z6,z7,z8⟩:=HEa.out _ hC
     clear hF hD
     refine want_none rfl ?_
     go_simp
     exact hK _ _ hC (Below.refl _ _) rfl
    refine RegSteps.cons ?_ ?_
    ·intro _ az wz hC hF hD _ K hK
     have q3:az.tmps[3]? = some (.pointer (some ⟨gb,0,none⟩)):=hF 3 rfl
     obtain ⟨⟨y0,y1,y2,y3,y4,y5,y6,y7,y8⟩,_⟩:=(HOb.out.on hC).all9
     clear hF hD
     refine want_none rfl ?_
     go_simp
     exact hK _ _ hC (Below.refl _ _) rfl
    refine RegSteps.cons ?_ ?_
    ·intro _ az wz hC hF hD _ K hK
     obtain ⟨_,q16,rfl⟩:=dep hD 3 rfl rfl rfl rfl
     obtain ⟨_,q17,rfl⟩:=dep hD 4 rfl rfl rfl rfl
     clear hF hD
     refine want_none rfl ?_
     go_simp
     refine (HC.out _ _ _ (HRa.out _ hC) (HRb.out _ hC)).mono ?_
     rintro e wy ⟨rfl,k⟩
     exact hK _ _ (Below.call hC k) k rfl
    refine RegSteps.cons ?_ ?_
    ·intro _ az wz hC hF hD _ K hK
     obtain ⟨_,q18,rfl⟩:=dep hD 5 rfl rfl rfl rfl
     clear hF hD
     refine want_none rfl ?_
     go_simp
     exact hK _ _ hC (Below.refl _ _) rfl
    exact RegSteps.nil
   intro w6 hC6
   rintro _ rfl _ rfl _ rfl _ rfl _ rfl _ rfl _ rfl
   simp only [FinOK,Act.put,List.setIfInBounds_toArray,List.set_cons_zero,List.set_cons_succ]
   cases sb with
   | true=>
    have HBz:=Lib.hid (Below.call HBw.out hC6)
    clear hC6
    go_wp2
    go_returns
    refine ⟨_,rfl,?_,gr_bel HBz.out,fun g h=>.inl h⟩
    have h1:(l.any fun x=>Qy.sameR x R)=true:=by
     obtain ⟨y,hy,hy2⟩:=List.any_eq_true.1 HT.out
     exact List.any_eq_true.2 ⟨y,List.mem_of_mem_take hy,hy2⟩
    unfold putL
    rw [if_pos h1]
    exact HW.out.1.on HBz.out
   | false=>
    have HBz:=Lib.hid (Below.call HB.out.2 hC6)
    clear hC6
    go_wp2_with fail
    go_roundw
    case rel=>exact ⟨i+1,by omega,by go_num,HT.out,HBz.out⟩
    case measure=>simp [intOf];omega
  ·have i1:¬ (i:Int)<(m:Int):=by omega
   have hLT:l.take i=l:=List.take_of_length_le (by have:=HM.out;omega)
   rw [hLT] at hno
   have HNo:=Lib.hid hno
   have hOb:=HO.out.1.on hB
   obtain ⟨⟨y0,y1,y2,y3,y4,y5,y6,y7,y8⟩,_⟩:=hOb.all9
   have kn:=below_new wr (.cells #[.int .i64 bn0,.string bs1,.int .i64 bn2,.int .i64 bn3,.int .i64 bn4,.int .i64 bn5,.int .i64 bn6,.int .i64 bn7,.slice bA8 bl8 bc8] 42)
   have hB6:Below w.heap.size w (wr.alloc (.cells #[.int .i64 bn0,.string bs1,.int .i64 bn2,.int .i64 bn3,.int .i64 bn4,.int .i64 bn5,.int .i64 bn6,.int .i64 bn7,.slice bA8 bl8 bc8] 42)):=Below.call hBw kn
   have hrow6:=(HW.out.1.on hBw).on kn
   have hR6:=(HW.out.2.1.on hBw).on kn
   have HOn:=own_news (Own.new wr 42 [.int .i64 bn0,.string bs1,.int .i64 bn2,.int .i64 bn3,.int .i64 bn4,.int .i64 bn5,.int .i64 bn6,.int .i64 bn7,.slice bA8 bl8 bc8])
   have one9:∀ u∈[Value.int .i64 bn0,.string bs1,.int .i64 bn2,.int .i64 bn3,.int .i64 bn4,.int .i64 bn5,.int .i64 bn6,.int .i64 bn7,.slice bA8 bl8 bc8],u.oneCell'=true:=by simp [Value.oneCell']
   have hnew6:N (wr.alloc (.cells #[.int .i64 bn0,.string bs1,.int .i64 bn2,.int .i64 bn3,.int .i64 bn4,.int .i64 bn5,.int .i64 bn6,.int .i64 bn7,.slice bA8 bl8 bc8] 42)).heap.size:=HW.out.2.2.2 _ hB6.size
   have hz6:=hBw.size
   obtain ⟨css,q1,q2,q4,q3⟩:=hrow6
   rw [HM.out] at q1 q2
   have HNw:=Lib.hid hnew6
   clear kn hBw hB hOb hno hnew6
   obtain ⟨i0_,hi_,hz0,hz1,hz2⟩:=info_parts reg_infoP
   go_wp2_with (at_builtin;refine wpList_pushO _ rfl _ _ 40 rfl 42 i0_ (.agg #[.int .i64 0,.string ⟨#[]⟩,.int .i64 0,.int .i64 0,.int .i64 0,.int .i64 0,.int .i64 0,.int .i64 0,.slice none 0 0]) 9 96 Tryd.underlying40 hi_ hz0 hz1 hz2 rfl (by decide) 0 _ _ _ rfl q2 ⟨wr.heap.size,0,none⟩ 1 [.int .i64 bn0,.string bs1,.int .i64 bn2,.int .i64 bn3,.int .i64 bn4,.int .i64 bn5,.int .i64 bn6,.int .i64 bn7,.slice bA8 bl8 bc8] rfl rfl HOn one9 ?c4 ?c5 ?c6 ?_)
   case c4=>unfold maxLen;omega
   case c5=>omega
   intro v7 w7 hrow3 hgrow hv7
   rw [← HM.out] at q1 hrow3
   have hrow4:=KRow.push2 q1 q4 q3 rfl hR6 HNw.out hrow3 hgrow (hv7.imp id fun e=>e.trans (by simp))
   have hv8:∀ g,v7.ownBlock=some g→Value.ownBlock (.slice A m c)=some g∨w.heap.size≤g:=fun g hg=>by
    rcases hv7 with e | e
    ·exact .inl (e.symm.trans hg)
    ·rw [e] at hg
     cases hg
     exact .inr (by omega)
   have HF:=Lib.hid (And.intro hrow4 (And.intro (bel_gr hB6 hgrow) hv8))
   clear hrow4 hrow3 hgrow hv7 hv8 q1 q2 q3 q4 hR6 HOn one9 hB6 hz6 hi_ hz0 hz1 hz2
   clear i0_
   go_wp2
   go_returns
   refine ⟨_,rfl,?_,HF.out.2.1,HF.out.2.2⟩
   unfold putL
   rw [HNo.out]
   exact HF.out.1
end Go.Proofs.YtmlpibdincfgbaaDoor
