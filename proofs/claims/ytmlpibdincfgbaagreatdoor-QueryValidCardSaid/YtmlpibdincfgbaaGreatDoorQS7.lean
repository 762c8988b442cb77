/-
  Chapter 38's program: the text of a region.
  Chapter 38's program: the text of a region, by its kind.
  Chapter 38's program: the text of every valid region.
-/
import Derived.Test.YtmlpibdincfgbaaGreatDoorQS2
import Derived.Test.YtmlpibdincfgbaaGreatDoorQS6
import Derived.Test.YtmlpibdincfgbaaGreatDoorShelf
import Derived.Test.YtmlpibdincfgbaaGreatDoorShelf2
import Derived.Lib.AppendIntMem
import Derived.Lib.Join
namespace Go.Proofs.YtmlpibdincfgbaaGreatDoor
open Go.RowKit
set_option linter.unusedSimpArgs false
set_option linter.unusedVariables false
def TabQ (w:World):Prop:=Lib.TabIs Tryz.prog w "internal/strconv.uint64pow10" .u64 Lib.pow10Tab
theorem TabQ.on {w w':World} (h:TabQ w) (hb:Below w.heap.size w w'):TabQ w':=Lib.tabBelow_of_tabIs h w' hb
theorem itoaQ (n:Int) (h0:-9223372036854775808≤n) (h1:n≤9223372036854775807) (w:World) (ht:TabQ w) :
 Calls Tryz.prog 47 #[.int .i64 n] w fun e w'=>e=.returned (.string ⟨(Lib.itoa n).toArray⟩)∧Below w.heap.size w w':=
 (Tryz.strconv_Itoa n h0 h1 w ht).mono fun _ _ ⟨he,k,os,hw⟩=>⟨he,hw▸Lib.below_grow w.heap.size w (Nat.le_refl _) k os⟩
theorem join_lib (w:Qy.Bs) (l:List Qy.Bs):Lib.join l w=Qy.join w l:=by
 cases l with
 | nil=>rfl
 | cons t l=>rw [Lib.join_cons,Qy.join,Lib.joinTail,List.flatMap]
set_option maxRecDepth 100000 in
theorem pcoords_any (x y:Int) (hx:in64 x) (hy:in64 y) (w:World) (hT:TabQ w):Calls Tryz.prog 88 #[.agg #[.int .i64 x,.int .i64 y]] w (TxtPost w (Qy.coordsT x y)):=by
 obtain ⟨tx,htx⟩:∃ t:ByteArray,t=⟨(Lib.itoa x).toArray⟩:=⟨_,rfl⟩
 obtain ⟨ty,hty⟩:∃ t:ByteArray,t=⟨(Lib.itoa y).toArray⟩:=⟨_,rfl⟩
 have HDx:Hid (∀ u,TabQ u→Calls Tryz.prog 47 #[.int .i64 x] u fun e w'=>e=.returned (.string tx)∧Below u.heap.size u w'):=Lib.hid fun u h=>htx▸itoaQ x hx.1 hx.2 u h
 have HDy:Hid (∀ u,TabQ u→Calls Tryz.prog 47 #[.int .i64 y] u fun e w'=>e=.returned (.string ty)∧Below u.heap.size u w'):=Lib.hid fun u h=>hty▸itoaQ y hy.1 hy.2 u h
 have hend:tx++⟨#[44]⟩++ty=⟨(Qy.coordsT x y).toArray⟩:=str_eq (by rw [str_cat,str_cat,htx,hty];simp [Qy.coordsT])
 have HE:=Lib.hid hend
 have hsx:tx.size≤20:=by rw [htx,str_size (l:=Lib.itoa x) (by simp)];exact Qy.itoa_len64 x hx.1 hx.2
 have hsy:ty.size≤20:=by rw [hty,str_size (l:=Lib.itoa y) (by simp)];exact Qy.itoa_len64 y hy.1 hy.2
 have hs1:¬ 9223372036854775807<tx.size+1:=by omega
 have hs2:¬ 9223372036854775807<tx.size+1+ty.size:=by omega
 clear htx hty hend
 go_enter Tryz.func88,Tryz.ntmps88
 go_upto_region 1 with fail
 refine wp_new1 fun W0 hO hB=>?_
 have HTb:=Lib.hid (hT.on hB)
 clear hT
 refine wp_region_specs W0 [Spec.eq (.pointer (some ⟨w.heap.size,0,none⟩)),Spec.eq (.int .i64 x),Spec.eq (.string tx),Spec.eq (.string (tx++⟨#[44]⟩)),Spec.eq (.pointer (some ⟨w.heap.size,1,none⟩)),Spec.eq (.int .i64 y),Spec.eq (.string ty),Spec.eq (.string (tx++⟨#[44]⟩++ty)),Spec.eq (.string (tx++⟨#[44]⟩++ty))]
  (by kernel_rfl) (by kernel_rfl) rfl (by kernel_rfl) (Below.drew (Below.refl _ _)) ?_ ?_
 ·
  refine RegSteps.cons ?_ ?_
  ·intro _ az wz hC hF hD _ K hK
   have q1:az.tmps[1]? = some (.pointer (some ⟨w.heap.size,0,none⟩)):=hF 1 rfl
   clear hF hD
   refine want_none rfl ?_
   go_simp
   exact hK _ _ hC (Below.refl _ _) rfl
  refine RegSteps.cons ?_ ?_
  ·intro _ az wz hC hF hD _ K hK
   obtain ⟨_,q3,rfl⟩:=dep hD 0 rfl rfl rfl rfl
   obtain ⟨z0,z1,_⟩:=(hO.on hC).all2
   clear hF hD
   refine want_none rfl ?_
   go_simp
   exact hK _ _ hC (Below.refl _ _) rfl
  refine RegSteps.cons ?_ ?_
  ·intro _ az wz hC hF hD _ K hK
   obtain ⟨_,q4,rfl⟩:=dep hD 1 rfl rfl rfl rfl
   clear hF hD
   refine want_none rfl ?_
   go_simp
   refine (HDx.out _ (HTb.out.on hC)).mono ?_
   rintro e wy ⟨rfl,k⟩
   exact hK _ _ (Below.call hC k) k rfl
  refine RegSteps.cons ?_ ?_
  ·intro _ az wz hC hF hD _ K hK
   obtain ⟨_,q5,rfl⟩:=dep hD 2 rfl rfl rfl rfl
   clear hF hD
   refine want_none rfl ?_
   go_simp
   try go_ints
   exact hK _ _ hC (Below.refl _ _) rfl
  refine RegSteps.cons ?_ ?_
  ·intro _ az wz hC hF hD _ K hK
   have q1:az.tmps[1]? = some (.pointer (some ⟨w.heap.size,0,none⟩)):=hF 1 rfl
   clear hF hD
   refine want_none rfl ?_
   go_simp
   exact hK _ _ hC (Below.refl _ _) rfl
  refine RegSteps.cons ?_ ?_
  ·intro _ az wz hC hF hD _ K hK
   obtain ⟨_,q7,rfl⟩:=dep hD 4 rfl rfl rfl rfl
   obtain ⟨z0,z1,_⟩:=(hO.on hC).all2
   clear hF hD
   refine want_none rfl ?_
   go_simp
   exact hK _ _ hC (Below.refl _ _) rfl
  refine RegSteps.cons ?_ ?_
  ·intro _ az wz hC hF hD _ K hK
   obtain ⟨_,q8,rfl⟩:=dep hD 5 rfl rfl rfl rfl
   clear hF hD
   refine want_none rfl ?_
   go_simp
   refine (HDy.out _ (HTb.out.on hC)).mono ?_
   rintro e wy ⟨rfl,k⟩
   exact hK _ _ (Below.call hC k) k rfl
  refine RegSteps.cons ?_ ?_
  ·intro _ az wz hC hF hD _ K hK
   obtain ⟨_,q6,rfl⟩:=dep hD 3 rfl rfl rfl rfl
   obtain ⟨_,q9,rfl⟩:=dep hD 6 rfl rfl rfl rfl
   clear hF hD
   refine want_none rfl ?_
   go_simp
   try go_ints
   exact hK _ _ hC (Below.refl _ _) rfl
  refine RegSteps.cons ?_ ?_
  ·intro _ az wz hC hF hD _ K hK
   obtain ⟨_,q10,rfl⟩:=dep hD 7 rfl rfl rfl rfl
   clear hF hD
   refine want_none rfl ?_
   go_simp
   exact hK _ _ hC (Below.refl _ _) rfl
  exact RegSteps.nil
 intro w2 hC2
 rintro _ rfl _ rfl _ rfl _ rfl _ rfl _ rfl _ rfl _ rfl _ rfl
 simp only [FinOK,Act.put,List.setIfInBounds_toArray,List.set_cons_zero,List.set_cons_succ]
 have HB:=Lib.hid (Below.call hB hC2)
 clear hB hC2 hO
 go_wp2
 go_returns
 exact ⟨by rw [← HE.out];simp,HB.out⟩
theorem str_infoQ:(Tryz.prog.info? 9).map (fun i=>(i.zero,i.size,i.bytes))=some (some (.string ⟨#[]⟩),1,16):=by kernel_rfl
def cellsS (l:List Qy.Bs):List Value:=l.map fun t=>.string ⟨t.toArray⟩
theorem joinRow {w:World} {B n:Nat} {v:Value} {l:List Qy.Bs} (h:w.ownsRow B 9 1 v n (cellsS l)) (hn:l.length=n) (hb:n≤1000000) (sep:Qy.Bs) (hj:(Qy.join sep l).length≤140737488355328) :
 ∃ A c,v=.slice A n c∧Calls Tryz.prog 48 #[.slice A n c,.string (bs sep)] w (TxtPost w (Qy.join sep l)):=by
 subst hn
 rcases h.2 with ⟨h0,h1⟩ | ⟨g,cap,cur,e,k2,k3,k4,k5,k6,k7⟩
 ·have hl:l=[]:=by
   have:=h1
   simp [cellsS] at this
   exact this
  obtain ⟨A,c,hv⟩:=owns_slice h
  refine ⟨A,c,hv,?_⟩
  subst hl
  exact (Tryz.strings_Join_none A c (bs sep) w).mono fun e w' ⟨he,hw⟩=>⟨he,hw▸Below.refl _ _⟩
 ·refine ⟨_,_,e,?_⟩
  have hlt:=heap_lt k3
  have hxl:(l.map fun t=>(⟨t.toArray⟩:ByteArray)).length=l.length:=by simp
  have hm:(l.map fun t=>(⟨t.toArray⟩:ByteArray)).map (fun x=>x.data.toList)=l:=by
   rw [List.map_map]
   exact (List.map_congr_left fun t _=>by simp).trans (List.map_id l)
  have hJ:Lib.join ((l.map fun t=>(⟨t.toArray⟩:ByteArray)).map (fun x=>x.data.toList)) (bs sep).data.toList=Qy.join sep l:=by
   rw [hm,join_lib]
   simp [bs]
  have:=Tryz.strings_Join g 0 cap (l.map fun t=>(⟨t.toArray⟩:ByteArray)) (bs sep) w (fun j x hx=>?_) hlt (by rw [hxl];omega) (by rw [hxl];omega) (by rw [hJ];exact hj)
  ·rw [hxl,hJ] at this
   exact this.mono fun e w' ⟨he,hw⟩=>⟨he,hw⟩
  ·have hj:=(List.getElem?_eq_some_iff.1 hx).1
   rw [hxl] at hj
   have hc:(cellsS l)[j]? = some (.string x):=by
    unfold cellsS
    rw [List.getElem?_map] at hx ⊢
    cases hl:l[j]? with
    | none=>rw [hl] at hx;cases hx
    | some t=>rw [hl] at hx;simp at hx;simp [hx]
   rw [← k7,List.getElem?_take_of_lt (by omega)] at hc
   rw [Nat.zero_add]
   simpa [World.cell?,k3] using hc
theorem texts_step {l:List Qy.Reg} {i:Nat} {R:Qy.Reg} (h:l[i]? = some R) (b:Bool):cellsS (Qy.texts (l.take (i+1)) b)=cellsS (Qy.texts (l.take i) b)++[.string ⟨(Qy.text R b).toArray⟩]:=by
 rw [List.take_add_one,h]
 show cellsS (Qy.texts (l.take i++[R]) b)=_
 rw [Qy.texts_append,show Qy.texts [R] b=[Qy.text R b] by rw [Qy.texts,Qy.texts]]
 simp [cellsS]
set_option maxRecDepth 100000 in
set_option maxHeartbeats 6400000 in
theorem textsT (sep:Qy.Bs) (hsep:sep.length≤5) (l:List Qy.Reg) (hE:∀ R∈l,Qy.nodeE R=0) (hN:Qy.nodesL l≤1000000)
 (HF:∀ R∈l,∀ (v:Value) (w:World),TabQ w→IsReg w R v→Calls Tryz.prog 49 #[v] w (TxtPost w (Qy.text R false))) {A:Option Addr} {c:Nat} {w:World} (hK:KidsAt w (fun _=>True) A 0 l) (hT:TabQ w) :
 Calls Tryz.prog 124 #[.slice A l.length c,.func (.func 49) #[] #[],.string (bs sep)] w (TxtPost w (Qy.join sep (Qy.texts l false))):=by
 obtain ⟨n,hn⟩:∃ n,l.length=n:=⟨_,rfl⟩
 have HLN:=Lib.hid hn
 have hnb:n≤1000000:=by have:=Qy.len_nodesL l;omega
 have hjl:(Qy.join sep (Qy.texts l false)).length≤140737488355328:=by
  have h1:=Qy.join_len sep hsep (Qy.texts l false) _ (Qy.texts_len1 l hE false)
  omega
 have HJ:=Lib.hid hjl
 have HHF:=Lib.hid HF
 have HK:=Lib.hid (And.intro hK hT)
 rw [hn]
 clear hn hK hT HF hjl hE hN hsep
 go_enter Tryz.func124,Tryz.ntmps124
 go_wp2_with fail
 go_loopw [7,12] (fun s7 s12 wr=>∃ i:Nat,i≤n∧s12=.int .i64 (i:Int)∧wr.ownsRow w.heap.size 9 1 s7 i (cellsS (Qy.texts (l.take i) false))∧Below w.heap.size w wr) (fun _ s _=>n - (intOf s).toNat)
 case atStart=>exact ⟨0,Nat.zero_le _,rfl,World.ownsRow_nil _ _ _ 1,Below.refl _ _⟩
 case round=>
  obtain ⟨i,hi,rfl,hrow,hB⟩:=hrel
  rcases Nat.lt_or_eq_of_le hi with hlt | heq
  ·have i1:(i:Int)<(n:Int):=by omega
   obtain ⟨R,hRi⟩:∃ R,l[i]? = some R:=⟨_,List.getElem?_eq_getElem (by have:=HLN.out;omega)⟩
   obtain ⟨g,off,n0,s1,n2,n3,n4,n5,n6,n7,A8,l8,c8,rfl,_,hgl,⟨e0,e1,e2,e3,e4,e5,e6,e7,e8⟩,hR⟩:=HK.out.1.lit hRi
   have ce:∀ o,wr.cell? ⟨g,o,none⟩=w.cell? ⟨g,o,none⟩:=fun o=>World.cell?_of_block (a:=⟨g,o,none⟩) (hB.block g hgl)
   rw [← ce] at e0 e1 e2 e3 e4 e5 e6 e7 e8
   have HRi:=Lib.hid (And.intro hRi hR)
   have HS:=Lib.hid (And.intro hrow hB)
   clear ce hRi hR hrow hB hgl
   go_upto_region 5 with fail
   refine wp_new1 fun W2 hO kn=>?_
   obtain ⟨⟨y0,y1,y2,y3,y4,y5,y6,y7,y8⟩,_⟩:=hO.all9
   have HS2:=Lib.hid (And.intro (owns_below HS.out.1 kn) (Below.call HS.out.2 kn))
   have HC:=Lib.hid (HHF.out R (List.mem_of_getElem? HRi.out.1) _ W2 (HK.out.2.on HS2.out.2) ((HRi.out.2.on HS2.out.2).isReg))
   clear kn hO HS e0 e1 e2 e3 e4 e5 e6 e7 e8
   go_wp2_with fail
   refine HC.out.mono ?_
   rintro e w3 ⟨rfl,k3⟩
   have HS3:=Lib.hid (And.intro (owns_below HS2.out.1 k3) (Below.call HS2.out.2 k3))
   clear k3 HS2 HC y0 y1 y2 y3 y4 y5 y6 y7 y8
   obtain ⟨tx,htx⟩:∃ t:ByteArray,(⟨(Qy.text R false).toArray⟩:ByteArray)=t:=⟨_,rfl⟩
   rw [htx]
   have HTX:=Lib.hid htx
   clear htx
   have kn:=below_new w3 (.cells #[.string tx] 9)
   have q2:=owns_below HS3.out.1 kn
   have HO:=own_news (Own.new w3 9 [.string tx])
   have one1:∀ u∈[Value.string tx],u.oneCell'=true:=by simp [Value.oneCell']
   have HKn:=Lib.hid kn
   have hwz:=HS3.out.2.size
   clear kn
   obtain ⟨i0_,hi_,hz0,hz1,hz2⟩:=info_parts str_infoQ
   go_wp2_with (at_builtin;refine wpList_pushO _ rfl _ _ 43 rfl 9 i0_ (.string ⟨#[]⟩) 1 16 Tryz.underlying43 hi_ hz0 hz1 hz2 rfl (by decide) w.heap.size _ _ _ rfl q2 ⟨w3.heap.size,0,none⟩ 1 [.string tx] rfl rfl HO one1 ?c4 ?c5 ?c6 ?_)
   case c4=>unfold maxLen;omega
   case c5=>omega
   case c6=>simp;omega
   intro v' w7 hrow3 hgrow hv'
   rw [← HTX.out,← texts_step HRi.out.1] at hrow3
   have hB7:=below_row HS3.out.2 HKn.out HS3.out.1 hgrow
   have HS7:=Lib.hid (And.intro hrow3 hB7)
   clear hrow3 hgrow hv' q2 HO one1 hi_ hz0 hz1 hz2 hB7 HS3
   clear i0_
   go_wp2_with fail
   go_roundw
   case rel=>exact ⟨i+1,by omega,by go_num,HS7.out.1,HS7.out.2⟩
   case measure=>simp [intOf];omega
  ·subst heq
   have hte:l.take i=l:=List.take_of_length_le (by have:=HLN.out;omega)
   rw [hte] at hrow
   obtain ⟨A9,c9,hv9,hC⟩:=joinRow hrow (by rw [Qy.texts_len];exact HLN.out) hnb sep HJ.out
   subst hv9
   have HC:=Lib.hid hC
   have HB:=Lib.hid hB
   clear hrow hB hte hC
   go_wp2_with fail
   refine HC.out.mono ?_
   rintro e w3 ⟨rfl,k3⟩
   have HF2:=Lib.hid (Below.call HB.out k3)
   clear k3
   go_wp2
   go_returns
   exact ⟨rfl,HF2.out⟩
set_option maxRecDepth 100000 in
set_option maxHeartbeats 6400000 in
theorem textsI (sep:Qy.Bs) (hsep:sep.length≤5) (l:List Qy.Reg) (hE:∀ R∈l,Qy.nodeE R=0) (hN:Qy.nodesL l≤1000000)
 (HF:∀ R∈l,∀ (v:Value) (w:World),TabQ w→IsReg w R v→Calls Tryz.prog 92 #[v] w (TxtPost w (Qy.text R true))) {A:Option Addr} {c:Nat} {w:World} (hK:KidsAt w (fun _=>True) A 0 l) (hT:TabQ w) :
 Calls Tryz.prog 124 #[.slice A l.length c,.func (.func 92) #[] #[],.string (bs sep)] w (TxtPost w (Qy.join sep (Qy.texts l true))):=by
 obtain ⟨n,hn⟩:∃ n,l.length=n:=⟨_,rfl⟩
 have HLN:=Lib.hid hn
 have hnb:n≤1000000:=by have:=Qy.len_nodesL l;omega
 have hjl:(Qy.join sep (Qy.texts l true)).length≤140737488355328:=by
  have h1:=Qy.join_len sep hsep (Qy.texts l true) _ (Qy.texts_len1 l hE true)
  omega
 have HJ:=Lib.hid hjl
 have HHF:=Lib.hid HF
 have HK:=Lib.hid (And.intro hK hT)
 rw [hn]
 clear hn hK hT HF hjl hE hN hsep
 go_enter Tryz.func124,Tryz.ntmps124
 go_wp2_with fail
 go_loopw [7,12] (fun s7 s12 wr=>∃ i:Nat,i≤n∧s12=.int .i64 (i:Int)∧wr.ownsRow w.heap.size 9 1 s7 i (cellsS (Qy.texts (l.take i) true))∧Below w.heap.size w wr) (fun _ s _=>n - (intOf s).toNat)
 case atStart=>exact ⟨0,Nat.zero_le _,rfl,World.ownsRow_nil _ _ _ 1,Below.refl _ _⟩
 case round=>
  obtain ⟨i,hi,rfl,hrow,hB⟩:=hrel
  rcases Nat.lt_or_eq_of_le hi with hlt | heq
  ·have i1:(i:Int)<(n:Int):=by omega
   obtain ⟨R,hRi⟩:∃ R,l[i]? = some R:=⟨_,List.getElem?_eq_getElem (by have:=HLN.out;omega)⟩
   obtain ⟨g,off,n0,s1,n2,n3,n4,n5,n6,n7,A8,l8,c8,rfl,_,hgl,⟨e0,e1,e2,e3,e4,e5,e6,e7,e8⟩,hR⟩:=HK.out.1.lit hRi
   have ce:∀ o,wr.cell? ⟨g,o,none⟩=w.cell? ⟨g,o,none⟩:=fun o=>World.cell?_of_block (a:=⟨g,o,none⟩) (hB.block g hgl)
   rw [← ce] at e0 e1 e2 e3 e4 e5 e6 e7 e8
   have HRi:=Lib.hid (And.intro hRi hR)
   have HS:=Lib.hid (And.intro hrow hB)
   clear ce hRi hR hrow hB hgl
   go_upto_region 5 with fail
   refine wp_new1 fun W2 hO kn=>?_
   obtain ⟨⟨y0,y1,y2,y3,y4,y5,y6,y7,y8⟩,_⟩:=hO.all9
   have HS2:=Lib.hid (And.intro (owns_below HS.out.1 kn) (Below.call HS.out.2 kn))
   have HC:=Lib.hid (HHF.out R (List.mem_of_getElem? HRi.out.1) _ W2 (HK.out.2.on HS2.out.2) ((HRi.out.2.on HS2.out.2).isReg))
   clear kn hO HS e0 e1 e2 e3 e4 e5 e6 e7 e8
   go_wp2_with fail
   refine HC.out.mono ?_
   rintro e w3 ⟨rfl,k3⟩
   have HS3:=Lib.hid (And.intro (owns_below HS2.out.1 k3) (Below.call HS2.out.2 k3))
   clear k3 HS2 HC y0 y1 y2 y3 y4 y5 y6 y7 y8
   obtain ⟨tx,htx⟩:∃ t:ByteArray,(⟨(Qy.text R true).toArray⟩:ByteArray)=t:=⟨_,rfl⟩
   rw [htx]
   have HTX:=Lib.hid htx
   clear htx
   have kn:=below_new w3 (.cells #[.string tx] 9)
   have q2:=owns_below HS3.out.1 kn
   have HO:=own_news (Own.new w3 9 [.string tx])
   have one1:∀ u∈[Value.string tx],u.oneCell'=true:=by simp [Value.oneCell']
   have HKn:=Lib.hid kn
   have hwz:=HS3.out.2.size
   clear kn
   obtain ⟨i0_,hi_,hz0,hz1,hz2⟩:=info_parts str_infoQ
   go_wp2_with (at_builtin;refine wpList_pushO _ rfl _ _ 43 rfl 9 i0_ (.string ⟨#[]⟩) 1 16 Tryz.underlying43 hi_ hz0 hz1 hz2 rfl (by decide) w.heap.size _ _ _ rfl q2 ⟨w3.heap.size,0,none⟩ 1 [.string tx] rfl rfl HO one1 ?c4 ?c5 ?c6 ?_)
   case c4=>unfold maxLen;omega
   case c5=>omega
   case c6=>simp;omega
   intro v' w7 hrow3 hgrow hv'
   rw [← HTX.out,← texts_step HRi.out.1] at hrow3
   have hB7:=below_row HS3.out.2 HKn.out HS3.out.1 hgrow
   have HS7:=Lib.hid (And.intro hrow3 hB7)
   clear hrow3 hgrow hv' q2 HO one1 hi_ hz0 hz1 hz2 hB7 HS3
   clear i0_
   go_wp2_with fail
   go_roundw
   case rel=>exact ⟨i+1,by omega,by go_num,HS7.out.1,HS7.out.2⟩
   case measure=>simp [intOf];omega
  ·subst heq
   have hte:l.take i=l:=List.take_of_length_le (by have:=HLN.out;omega)
   rw [hte] at hrow
   obtain ⟨A9,c9,hv9,hC⟩:=joinRow hrow (by rw [Qy.texts_len];exact HLN.out) hnb sep HJ.out
   subst hv9
   have HC:=Lib.hid hC
   have HB:=Lib.hid hB
   clear hrow hB hte hC
   go_wp2_with fail
   refine HC.out.mono ?_
   rintro e w3 ⟨rfl,k3⟩
   have HF2:=Lib.hid (Below.call HB.out k3)
   clear k3
   go_wp2
   go_returns
   exact ⟨rfl,HF2.out⟩
end Go.Proofs.YtmlpibdincfgbaaGreatDoor
namespace Go.Proofs.YtmlpibdincfgbaaGreatDoor
open Go.RowKit
set_option linter.unusedSimpArgs false
set_option linter.unusedVariables false
set_option maxRecDepth 100000 in
theorem joined_any (k ax ay b0 b1 b2 b3:Int) (nm:ByteArray) (A:Option Addr) (m c:Nat) (w:World):Calls Tryz.prog 123 #[.agg #[.int .i64 k,.string nm,.int .i64 ax,.int .i64 ay,.int .i64 b0,.int .i64 b1,.int .i64 b2,.int .i64 b3,.slice A m c]] w (RetB w (decide ((k=4∨k=5)∧1<m))):=by
 go_enter Tryz.func123,Tryz.ntmps123
 by_cases h4:k=4
 ·subst h4
  by_cases hm:(1:Int)<(m:Int)
  ·go_wp2
   go_returns
   exact ⟨by simp;omega,by go_grown⟩
  ·go_wp2
   go_returns
   exact ⟨by simp;omega,by go_grown⟩
 ·by_cases h5:k=5
  ·subst h5
   by_cases hm:(1:Int)<(m:Int)
   ·go_wp2
    go_returns
    exact ⟨by simp;omega,by go_grown⟩
   ·go_wp2
    go_returns
    exact ⟨by simp;omega,by go_grown⟩
  ·have g4:(k==4)=false:=by simp [h4]
   have g5:(k==5)=false:=by simp [h5]
   go_wp2
   go_returns
   exact ⟨by simp [h4,h5],by go_grown⟩
def ChV (w:World) (x:Value) (op word:ByteArray):Prop:=∃ a b,x=.func (.func 122) #[] #[.pointer (some ⟨a,0,none⟩),.pointer (some ⟨b,0,none⟩)]∧w.cell? ⟨a,0,none⟩=some (.string op)∧w.cell? ⟨b,0,none⟩=some (.string word)∧a<w.heap.size∧b<w.heap.size
theorem ChV.on {w w':World} {x:Value} {op word:ByteArray} (h:ChV w x op word) (k:Below w.heap.size w w'):ChV w' x op word:=by
 obtain ⟨a,b,e,h1,h2,h3,h4⟩:=h
 exact ⟨a,b,e,(k.cell (p:=⟨a,0,none⟩) h3).trans h1,(k.cell (p:=⟨b,0,none⟩) h4).trans h2,Nat.lt_of_lt_of_le h3 k.size,Nat.lt_of_lt_of_le h4 k.size⟩
set_option maxRecDepth 100000 in
theorem chain_any (op word:ByteArray) (w:World):Calls Tryz.prog 90 #[.string op,.string word] w fun e w'=>∃ x,e=.returned x∧Below w.heap.size w w'∧ChV w' x op word:=by
 have hmf:∀ (fn:Fn) (first cap:Array Value) (w:World),(Instr.makeFunc fn first cap).run Tryz.prog w=.ok (.func fn first cap) w:=fun _ _ _ _=>rfl
 go_enter Tryz.func90,Tryz.ntmps90
 go_upto_region 1 with fail
 refine wp_new2 fun W0 hA hQ hB=>?_
 have HX:=Lib.hid (And.intro hA (And.intro hQ hB))
 clear hA hQ hB
 go_wp2
 go_returns
 exact ⟨_,rfl,HX.out.2.2,_,_,rfl,HX.out.1.c0,HX.out.2.1.c0,HX.out.1.lt,HX.out.2.1.lt⟩
set_option maxRecDepth 100000 in
set_option maxHeartbeats 6400000 in
theorem chain4_any (kids:List Qy.Reg) (hE:∀ R∈kids,Qy.nodeE R=0) (hN:Qy.nodesL kids≤900000)
 (HT:∀ R∈kids,∀ (v:Value) (w:World),TabQ w→IsReg w R v→Calls Tryz.prog 49 #[v] w (TxtPost w (Qy.text R false)))
 (HI:∀ R∈kids,∀ (v:Value) (w:World),TabQ w→IsReg w R v→Calls Tryz.prog 92 #[v] w (TxtPost w (Qy.text R true))) {A:Option Addr} {c p1 p2:Nat} {w:World} (ax ay b0 b1 b2 b3:Int) (nm:ByteArray) (hK:KidsAt w (fun _=>True) A 0 kids) (hTb:TabQ w)
 (z1:w.cell? ⟨p1,0,none⟩=some (.string ⟨#[97,110,100]⟩)) (z2:w.cell? ⟨p2,0,none⟩=some (.string ⟨#[97,108,108]⟩)) (l1:p1<w.heap.size) (l2:p2<w.heap.size) :
 Calls Tryz.prog 122 #[.agg #[.int .i64 4,.string nm,.int .i64 ax,.int .i64 ay,.int .i64 b0,.int .i64 b1,.int .i64 b2,.int .i64 b3,.slice A kids.length c],.pointer (some ⟨p1,0,none⟩),.pointer (some ⟨p2,0,none⟩)] w
  (TxtPost w (if 1<kids.length then Qy.join [32,97,110,100,32] (Qy.texts kids true) else [97,108,108,40]++(Qy.join [44,32] (Qy.texts kids false)++[41]))):=by
 have HTT:Hid (∀ u,TabQ u→KidsAt u (fun _=>True) A 0 kids→Calls Tryz.prog 124 #[.slice A kids.length c,.func (.func 49) #[] #[],.string ⟨#[44,32]⟩] u (TxtPost u (Qy.join [44,32] (Qy.texts kids false)))):=Lib.hid fun u h1 h2=>textsT [44,32] (by simp) kids hE (by omega) HT h2 h1
 have HTI:Hid (∀ u,TabQ u→KidsAt u (fun _=>True) A 0 kids→Calls Tryz.prog 124 #[.slice A kids.length c,.func (.func 92) #[] #[],.string (⟨#[32]⟩++⟨#[97,110,100]⟩++⟨#[32]⟩)] u (TxtPost u (Qy.join [32,97,110,100,32] (Qy.texts kids true)))):=Lib.hid fun u h1 h2=>textsI [32,97,110,100,32] (by simp) kids hE (by omega) HI h2 h1
 have hjl:=Qy.join_len [44,32] (by simp) (Qy.texts kids false) _ (Qy.texts_len1 kids hE false)
 have HJ:=Lib.hid (by omega:(Qy.join [44,32] (Qy.texts kids false)).length≤60000000)
 have HKK:=Lib.hid hK
 have HP1:=Lib.hid (And.intro z1 l1)
 have HP2:=Lib.hid (And.intro z2 l2)
 have HTb0:=Lib.hid hTb
 obtain ⟨m,hm⟩:∃ m,kids.length=m:=⟨_,rfl⟩
 rw [hm] at HTT HTI ⊢
 obtain ⟨TT,hTT⟩:∃ TT,(if 1<m then Qy.join [32,97,110,100,32] (Qy.texts kids true) else [97,108,108,40]++(Qy.join [44,32] (Qy.texts kids false)++[41]))=TT:=⟨_,rfl⟩
 rw [hTT]
 have HTX:=Lib.hid hTT
 clear hm hK hTb HT HI hE hN z1 z2 l1 l2 hjl hTT
 go_enter Tryz.func122,Tryz.ntmps122
 go_upto_region 1 with fail
 refine wp_new1 fun W0 hA hB=>?_
 have HA:=Lib.hid hA
 have HB:=Lib.hid hB
 obtain ⟨⟨y0,y1,y2,y3,y4,y5,y6,y7,y8⟩,_⟩:=hA.all9
 have HTb:=Lib.hid (HTb0.out.on hB)
 have HKW:=Lib.hid (HKK.out.on hB)
 have x1:=(hB.cell (p:=⟨p1,0,none⟩) HP1.out.2).trans HP1.out.1
 clear hA hB
 have HJn:=Lib.hid fun u=>joined_any 4 ax ay b0 b1 b2 b3 nm A m c u
 by_cases hm:1<m
 ·
  rw [show (decide (((4:Int)=4∨(4:Int)=5)∧1<m))=true by simp [hm]] at HJn
  have HM:=Lib.hid hm
  clear hm
  go_wp2_with fail
  refine (HJn.out _).mono ?_
  rintro e w1 ⟨rfl,k1⟩
  have x2:=(k1.cell (p:=⟨p1,0,none⟩) (Nat.lt_of_lt_of_le HP1.out.2 HB.out.size)).trans x1
  obtain ⟨⟨q0,q1,q2,q3,q4,q5,q6,q7,q8⟩,_⟩:=(HA.out.on k1).all9
  have HC:=Lib.hid (HTI.out _ (HTb.out.on k1) (HKW.out.on k1))
  have HB1:=Lib.hid (Below.call HB.out k1)
  clear k1 x1 y0 y1 y2 y3 y4 y5 y6 y7 y8
  go_wp2_with fail
  refine HC.out.mono ?_
  rintro e w2 ⟨rfl,k2⟩
  have HF:=Lib.hid (Below.call HB1.out k2)
  clear k2
  go_wp2
  go_returns
  exact ⟨by rw [← HTX.out,if_pos HM.out] <;> rfl,HF.out⟩
 ·
  rw [show (decide (((4:Int)=4∨(4:Int)=5)∧1<m))=false by simp [hm]] at HJn
  have HM2:=Lib.hid hm
  clear hm
  obtain ⟨tj,htj⟩:∃ t:ByteArray,t=⟨(Qy.join [44,32] (Qy.texts kids false)).toArray⟩:=⟨_,rfl⟩
  have hjz:tj.size≤60000000:=by rw [htj,lsz];exact HJ.out
  have HC:Hid (∀ u,TabQ u→KidsAt u (fun _=>True) A 0 kids→Calls Tryz.prog 124 #[.slice A m c,.func (.func 49) #[] #[],.string ⟨#[44,32]⟩] u fun e w9=>e=.returned (.string tj)∧Below u.heap.size u w9):=Lib.hid fun u h1 h2=>htj▸HTT.out u h1 h2
  have HTJ:=Lib.hid htj
  clear htj
  go_wp2_with fail
  refine (HJn.out _).mono ?_
  rintro e w1 ⟨rfl,k1⟩
  have HB1:=Lib.hid (Below.call HB.out k1)
  have x2:=(k1.cell (p:=⟨p2,0,none⟩) (Nat.lt_of_lt_of_le HP2.out.2 HB.out.size)).trans ((HB.out.cell (p:=⟨p2,0,none⟩) HP2.out.2).trans HP2.out.1)
  have HX2:=Lib.hid (And.intro x2 (Nat.lt_of_lt_of_le HP2.out.2 HB1.out.size))
  have HA1:=Lib.hid (HA.out.on k1)
  have HTb1:=Lib.hid (HTb.out.on k1)
  have HKW1:=Lib.hid (HKW.out.on k1)
  have hs1:¬ 9223372036854775807<3+1+tj.size:=by omega
  have hs2:¬ 9223372036854775807<3+1+tj.size+1:=by omega
  clear k1 x1 x2 y0 y1 y2 y3 y4 y5 y6 y7 y8 HJn HTI
  go_upto_region 3 with fail
  refine wp_region_specs w1 [Spec.eq (.string ⟨#[97,108,108]⟩),Spec.eq (.string (⟨#[97,108,108]⟩++⟨#[40]⟩)),Spec.eq (.pointer (some ⟨w.heap.size,8,none⟩)),Spec.eq (.slice A m c),Spec.eq (.string tj),Spec.eq (.string (⟨#[97,108,108]⟩++⟨#[40]⟩++tj)),Spec.eq (.string (⟨#[97,108,108]⟩++⟨#[40]⟩++tj++⟨#[41]⟩)),Spec.eq (.string (⟨#[97,108,108]⟩++⟨#[40]⟩++tj++⟨#[41]⟩))]
   (by kernel_rfl) (by kernel_rfl) rfl (by kernel_rfl) (Below.drew (Below.refl _ _)) ?_ ?_
  ·
   refine RegSteps.cons ?_ ?_
   ·intro _ az wz hC hF hD _ K hK
    have q2:az.tmps[2]? = some (.pointer (some ⟨p2,0,none⟩)):=hF 2 rfl
    have z9:=(hC.cell (p:=⟨p2,0,none⟩) HX2.out.2).trans HX2.out.1
    clear hF hD
    refine want_none rfl ?_
    go_simp
    exact hK _ _ hC (Below.refl _ _) rfl
   refine RegSteps.cons ?_ ?_
   ·intro _ az wz hC hF hD _ K hK
    obtain ⟨_,q13,rfl⟩:=dep hD 0 rfl rfl rfl rfl
    clear hF hD
    refine want_none rfl ?_
    go_simp
    try go_ints
    exact hK _ _ hC (Below.refl _ _) rfl
   refine RegSteps.cons ?_ ?_
   ·intro _ az wz hC hF hD _ K hK
    have q3:az.tmps[3]? = some (.pointer (some ⟨w.heap.size,0,none⟩)):=hF 3 rfl
    clear hF hD
    refine want_none rfl ?_
    go_simp
    exact hK _ _ hC (Below.refl _ _) rfl
   refine RegSteps.cons ?_ ?_
   ·intro _ az wz hC hF hD _ K hK
    obtain ⟨_,q15,rfl⟩:=dep hD 2 rfl rfl rfl rfl
    obtain ⟨⟨y0,y1,y2,y3,y4,y5,y6,y7,y8⟩,_⟩:=(HA1.out.on hC).all9
    clear hF hD
    refine want_none rfl ?_
    go_simp
    exact hK _ _ hC (Below.refl _ _) rfl
   refine RegSteps.cons ?_ ?_
   ·intro _ az wz hC hF hD _ K hK
    obtain ⟨_,q16,rfl⟩:=dep hD 3 rfl rfl rfl rfl
    clear hF hD
    refine want_none rfl ?_
    go_simp
    refine (HC.out _ (HTb1.out.on hC) (HKW1.out.on hC)).mono ?_
    rintro e wy ⟨rfl,k⟩
    exact hK _ _ (Below.call hC k) k rfl
   refine RegSteps.cons ?_ ?_
   ·intro _ az wz hC hF hD _ K hK
    obtain ⟨_,q14,rfl⟩:=dep hD 1 rfl rfl rfl rfl
    obtain ⟨_,q17,rfl⟩:=dep hD 4 rfl rfl rfl rfl
    clear hF hD
    refine want_none rfl ?_
    go_simp
    try go_ints
    exact hK _ _ hC (Below.refl _ _) rfl
   refine RegSteps.cons ?_ ?_
   ·intro _ az wz hC hF hD _ K hK
    obtain ⟨_,q18,rfl⟩:=dep hD 5 rfl rfl rfl rfl
    clear hF hD
    refine want_none rfl ?_
    go_simp
    try go_ints
    exact hK _ _ hC (Below.refl _ _) rfl
   refine RegSteps.cons ?_ ?_
   ·intro _ az wz hC hF hD _ K hK
    obtain ⟨_,q19,rfl⟩:=dep hD 6 rfl rfl rfl rfl
    clear hF hD
    refine want_none rfl ?_
    go_simp
    exact hK _ _ hC (Below.refl _ _) rfl
   exact RegSteps.nil
  intro w2 hC2
  rintro _ rfl _ rfl _ rfl _ rfl _ rfl _ rfl _ rfl _ rfl
  simp only [FinOK,Act.put,List.setIfInBounds_toArray,List.set_cons_zero,List.set_cons_succ]
  have HF:=Lib.hid (Below.call HB1.out hC2)
  clear hC2
  go_wp2
  go_returns
  refine ⟨?_,HF.out⟩
  rw [← HTX.out,if_neg HM2.out,HTJ.out]
  refine congrArg (fun t=>Ending.returned (.string t)) (str_eq ?_)
  simp [str_cat]
set_option maxRecDepth 100000 in
set_option maxHeartbeats 6400000 in
theorem chain5_any (kids:List Qy.Reg) (hE:∀ R∈kids,Qy.nodeE R=0) (hN:Qy.nodesL kids≤900000)
 (HT:∀ R∈kids,∀ (v:Value) (w:World),TabQ w→IsReg w R v→Calls Tryz.prog 49 #[v] w (TxtPost w (Qy.text R false)))
 (HI:∀ R∈kids,∀ (v:Value) (w:World),TabQ w→IsReg w R v→Calls Tryz.prog 92 #[v] w (TxtPost w (Qy.text R true))) {A:Option Addr} {c p1 p2:Nat} {w:World} (ax ay b0 b1 b2 b3:Int) (nm:ByteArray) (hK:KidsAt w (fun _=>True) A 0 kids) (hTb:TabQ w)
 (z1:w.cell? ⟨p1,0,none⟩=some (.string ⟨#[111,114]⟩)) (z2:w.cell? ⟨p2,0,none⟩=some (.string ⟨#[97,110,121]⟩)) (l1:p1<w.heap.size) (l2:p2<w.heap.size) :
 Calls Tryz.prog 122 #[.agg #[.int .i64 5,.string nm,.int .i64 ax,.int .i64 ay,.int .i64 b0,.int .i64 b1,.int .i64 b2,.int .i64 b3,.slice A kids.length c],.pointer (some ⟨p1,0,none⟩),.pointer (some ⟨p2,0,none⟩)] w
  (TxtPost w (if 1<kids.length then Qy.join [32,111,114,32] (Qy.texts kids true) else [97,110,121,40]++(Qy.join [44,32] (Qy.texts kids false)++[41]))):=by
 have HTT:Hid (∀ u,TabQ u→KidsAt u (fun _=>True) A 0 kids→Calls Tryz.prog 124 #[.slice A kids.length c,.func (.func 49) #[] #[],.string ⟨#[44,32]⟩] u (TxtPost u (Qy.join [44,32] (Qy.texts kids false)))):=Lib.hid fun u h1 h2=>textsT [44,32] (by simp) kids hE (by omega) HT h2 h1
 have HTI:Hid (∀ u,TabQ u→KidsAt u (fun _=>True) A 0 kids→Calls Tryz.prog 124 #[.slice A kids.length c,.func (.func 92) #[] #[],.string (⟨#[32]⟩++⟨#[111,114]⟩++⟨#[32]⟩)] u (TxtPost u (Qy.join [32,111,114,32] (Qy.texts kids true)))):=Lib.hid fun u h1 h2=>textsI [32,111,114,32] (by simp) kids hE (by omega) HI h2 h1
 have hjl:=Qy.join_len [44,32] (by simp) (Qy.texts kids false) _ (Qy.texts_len1 kids hE false)
 have HJ:=Lib.hid (by omega:(Qy.join [44,32] (Qy.texts kids false)).length≤60000000)
 have HKK:=Lib.hid hK
 have HP1:=Lib.hid (And.intro z1 l1)
 have HP2:=Lib.hid (And.intro z2 l2)
 have HTb0:=Lib.hid hTb
 obtain ⟨m,hm⟩:∃ m,kids.length=m:=⟨_,rfl⟩
 rw [hm] at HTT HTI ⊢
 obtain ⟨TT,hTT⟩:∃ TT,(if 1<m then Qy.join [32,111,114,32] (Qy.texts kids true) else [97,110,121,40]++(Qy.join [44,32] (Qy.texts kids false)++[41]))=TT:=⟨_,rfl⟩
 rw [hTT]
 have HTX:=Lib.hid hTT
 clear hm hK hTb HT HI hE hN z1 z2 l1 l2 hjl hTT
 go_enter Tryz.func122,Tryz.ntmps122
 go_upto_region 1 with fail
 refine wp_new1 fun W0 hA hB=>?_
 have HA:=Lib.hid hA
 have HB:=Lib.hid hB
 obtain ⟨⟨y0,y1,y2,y3,y4,y5,y6,y7,y8⟩,_⟩:=hA.all9
 have HTb:=Lib.hid (HTb0.out.on hB)
 have HKW:=Lib.hid (HKK.out.on hB)
 have x1:=(hB.cell (p:=⟨p1,0,none⟩) HP1.out.2).trans HP1.out.1
 clear hA hB
 have HJn:=Lib.hid fun u=>joined_any 5 ax ay b0 b1 b2 b3 nm A m c u
 by_cases hm:1<m
 ·
  rw [show (decide (((5:Int)=4∨(5:Int)=5)∧1<m))=true by simp [hm]] at HJn
  have HM:=Lib.hid hm
  clear hm
  go_wp2_with fail
  refine (HJn.out _).mono ?_
  rintro e w1 ⟨rfl,k1⟩
  have x2:=(k1.cell (p:=⟨p1,0,none⟩) (Nat.lt_of_lt_of_le HP1.out.2 HB.out.size)).trans x1
  obtain ⟨⟨q0,q1,q2,q3,q4,q5,q6,q7,q8⟩,_⟩:=(HA.out.on k1).all9
  have HC:=Lib.hid (HTI.out _ (HTb.out.on k1) (HKW.out.on k1))
  have HB1:=Lib.hid (Below.call HB.out k1)
  clear k1 x1 y0 y1 y2 y3 y4 y5 y6 y7 y8
  go_wp2_with fail
  refine HC.out.mono ?_
  rintro e w2 ⟨rfl,k2⟩
  have HF:=Lib.hid (Below.call HB1.out k2)
  clear k2
  go_wp2
  go_returns
  exact ⟨by rw [← HTX.out,if_pos HM.out] <;> rfl,HF.out⟩
 ·
  rw [show (decide (((5:Int)=4∨(5:Int)=5)∧1<m))=false by simp [hm]] at HJn
  have HM2:=Lib.hid hm
  clear hm
  obtain ⟨tj,htj⟩:∃ t:ByteArray,t=⟨(Qy.join [44,32] (Qy.texts kids false)).toArray⟩:=⟨_,rfl⟩
  have hjz:tj.size≤60000000:=by rw [htj,lsz];exact HJ.out
  have HC:Hid (∀ u,TabQ u→KidsAt u (fun _=>True) A 0 kids→Calls Tryz.prog 124 #[.slice A m c,.func (.func 49) #[] #[],.string ⟨#[44,32]⟩] u fun e w9=>e=.returned (.string tj)∧Below u.heap.size u w9):=Lib.hid fun u h1 h2=>htj▸HTT.out u h1 h2
  have HTJ:=Lib.hid htj
  clear htj
  go_wp2_with fail
  refine (HJn.out _).mono ?_
  rintro e w1 ⟨rfl,k1⟩
  have HB1:=Lib.hid (Below.call HB.out k1)
  have x2:=(k1.cell (p:=⟨p2,0,none⟩) (Nat.lt_of_lt_of_le HP2.out.2 HB.out.size)).trans ((HB.out.cell (p:=⟨p2,0,none⟩) HP2.out.2).trans HP2.out.1)
  have HX2:=Lib.hid (And.intro x2 (Nat.lt_of_lt_of_le HP2.out.2 HB1.out.size))
  have HA1:=Lib.hid (HA.out.on k1)
  have HTb1:=Lib.hid (HTb.out.on k1)
  have HKW1:=Lib.hid (HKW.out.on k1)
  have hs1:¬ 9223372036854775807<3+1+tj.size:=by omega
  have hs2:¬ 9223372036854775807<3+1+tj.size+1:=by omega
  clear k1 x1 x2 y0 y1 y2 y3 y4 y5 y6 y7 y8 HJn HTI
  go_upto_region 3 with fail
  refine wp_region_specs w1 [Spec.eq (.string ⟨#[97,110,121]⟩),Spec.eq (.string (⟨#[97,110,121]⟩++⟨#[40]⟩)),Spec.eq (.pointer (some ⟨w.heap.size,8,none⟩)),Spec.eq (.slice A m c),Spec.eq (.string tj),Spec.eq (.string (⟨#[97,110,121]⟩++⟨#[40]⟩++tj)),Spec.eq (.string (⟨#[97,110,121]⟩++⟨#[40]⟩++tj++⟨#[41]⟩)),Spec.eq (.string (⟨#[97,110,121]⟩++⟨#[40]⟩++tj++⟨#[41]⟩))]
   (by kernel_rfl) (by kernel_rfl) rfl (by kernel_rfl) (Below.drew (Below.refl _ _)) ?_ ?_
  ·
   refine RegSteps.cons ?_ ?_
   ·intro _ az wz hC hF hD _ K hK
    have q2:az.tmps[2]? = some (.pointer (some ⟨p2,0,none⟩)):=hF 2 rfl
    have z9:=(hC.cell (p:=⟨p2,0,none⟩) HX2.out.2).trans HX2.out.1
    clear hF hD
    refine want_none rfl ?_
    go_simp
    exact hK _ _ hC (Below.refl _ _) rfl
   refine RegSteps.cons ?_ ?_
   ·intro _ az wz hC hF hD _ K hK
    obtain ⟨_,q13,rfl⟩:=dep hD 0 rfl rfl rfl rfl
    clear hF hD
    refine want_none rfl ?_
    go_simp
    try go_ints
    exact hK _ _ hC (Below.refl _ _) rfl
   refine RegSteps.cons ?_ ?_
   ·intro _ az wz hC hF hD _ K hK
    have q3:az.tmps[3]? = some (.pointer (some ⟨w.heap.size,0,none⟩)):=hF 3 rfl
    clear hF hD
    refine want_none rfl ?_
    go_simp
    exact hK _ _ hC (Below.refl _ _) rfl
   refine RegSteps.cons ?_ ?_
   ·intro _ az wz hC hF hD _ K hK
    obtain ⟨_,q15,rfl⟩:=dep hD 2 rfl rfl rfl rfl
    obtain ⟨⟨y0,y1,y2,y3,y4,y5,y6,y7,y8⟩,_⟩:=(HA1.out.on hC).all9
    clear hF hD
    refine want_none rfl ?_
    go_simp
    exact hK _ _ hC (Below.refl _ _) rfl
   refine RegSteps.cons ?_ ?_
   ·intro _ az wz hC hF hD _ K hK
    obtain ⟨_,q16,rfl⟩:=dep hD 3 rfl rfl rfl rfl
    clear hF hD
    refine want_none rfl ?_
    go_simp
    refine (HC.out _ (HTb1.out.on hC) (HKW1.out.on hC)).mono ?_
    rintro e wy ⟨rfl,k⟩
    exact hK _ _ (Below.call hC k) k rfl
   refine RegSteps.cons ?_ ?_
   ·intro _ az wz hC hF hD _ K hK
    obtain ⟨_,q14,rfl⟩:=dep hD 1 rfl rfl rfl rfl
    obtain ⟨_,q17,rfl⟩:=dep hD 4 rfl rfl rfl rfl
    clear hF hD
    refine want_none rfl ?_
    go_simp
    try go_ints
    exact hK _ _ hC (Below.refl _ _) rfl
   refine RegSteps.cons ?_ ?_
   ·intro _ az wz hC hF hD _ K hK
    obtain ⟨_,q18,rfl⟩:=dep hD 5 rfl rfl rfl rfl
    clear hF hD
    refine want_none rfl ?_
    go_simp
    try go_ints
    exact hK _ _ hC (Below.refl _ _) rfl
   refine RegSteps.cons ?_ ?_
   ·intro _ az wz hC hF hD _ K hK
    obtain ⟨_,q19,rfl⟩:=dep hD 6 rfl rfl rfl rfl
    clear hF hD
    refine want_none rfl ?_
    go_simp
    exact hK _ _ hC (Below.refl _ _) rfl
   exact RegSteps.nil
  intro w2 hC2
  rintro _ rfl _ rfl _ rfl _ rfl _ rfl _ rfl _ rfl _ rfl
  simp only [FinOK,Act.put,List.setIfInBounds_toArray,List.set_cons_zero,List.set_cons_succ]
  have HF:=Lib.hid (Below.call HB1.out hC2)
  clear hC2
  go_wp2
  go_returns
  refine ⟨?_,HF.out⟩
  rw [← HTX.out,if_neg HM2.out,HTJ.out]
  refine congrArg (fun t=>Ending.returned (.string t)) (str_eq ?_)
  simp [str_cat]
theorem isReg_lit7 {w:World} {R:Qy.Reg} {v:Value} (h:IsReg w R v):∃ n0 s1 n2 n3 n4 n5 n6 n7 A8 l8 c8,v=.agg #[.int .i64 n0,.string s1,.int .i64 n2,.int .i64 n3,.int .i64 n4,.int .i64 n5,.int .i64 n6,.int .i64 n7,.slice A8 l8 c8]:=by
 obtain ⟨cs,rfl,hR⟩:=h
 obtain ⟨A,c,rfl,_⟩:=hR.cells
 obtain ⟨n0,s1,n2,n3,n4,n5,n6,n7,l8,e⟩:=regCells_parts R A c
 exact ⟨n0,s1,n2,n3,n4,n5,n6,n7,A,l8,c,by rw [e]⟩
def sChV (op word:ByteArray):Spec Bel:=⟨fun v w=>∃ x:Value,v=x∧ChV w x op word,fun ⟨x,e,h⟩ k=>⟨x,e,h.on k⟩⟩
def sTabF:Spec Bel:=⟨fun v w=>∃ x:Value,v=x∧∃ a b,x=.agg #[.func (.func 85) #[] #[],.func (.func 86) #[] #[],.func (.func 87) #[] #[],.func (.func 89) #[] #[],a,b,.func (.func 91) #[] #[]]∧ChV w a ⟨#[97,110,100]⟩ ⟨#[97,108,108]⟩∧ChV w b ⟨#[111,114]⟩ ⟨#[97,110,121]⟩,
 fun ⟨x,e,a,b,e2,h1,h2⟩ k=>⟨x,e,a,b,e2,h1.on k,h2.on k⟩⟩
set_option maxRecDepth 100000 in
theorem txt1_any (v:Value) (R:Qy.Reg) (w:World) (hv:IsReg w R v):Calls Tryz.prog 85 #[v] w (TxtPost w [119,104,111,108,101]):=by
 obtain ⟨n0,s1,n2,n3,n4,n5,n6,n7,A8,l8,c8,rfl⟩:=isReg_lit7 hv
 clear hv
 go_enter Tryz.func85,Tryz.ntmps85
 go_upto_region 1 with fail
 refine wp_new1 fun W0 hA hB=>?_
 have HB:=Lib.hid hB
 clear hA hB
 go_wp2
 go_returns
 exact ⟨rfl,HB.out⟩
set_option maxRecDepth 100000 in
theorem txt2_any (nm:Qy.Bs) (hnm:nm.length≤16) (k n2 n3 n4 n5 n6 n7:Int) (A8:Option Addr) (l8 c8:Nat) (w:World):Calls Tryz.prog 86 #[.agg #[.int .i64 k,.string (bs nm),.int .i64 n2,.int .i64 n3,.int .i64 n4,.int .i64 n5,.int .i64 n6,.int .i64 n7,.slice A8 l8 c8]] w (TxtPost w ([110,97,109,101,100,32]++nm)):=by
 have hs:(bs nm).size≤16:=by rw [bs_size];exact hnm
 have hs1:¬ 9223372036854775807<6+(bs nm).size:=by omega
 clear hs hnm
 go_enter Tryz.func86,Tryz.ntmps86
 go_upto_region 1 with fail
 refine wp_new1 fun W0 hA hB=>?_
 have HB:=Lib.hid hB
 obtain ⟨⟨y0,y1,y2,y3,y4,y5,y6,y7,y8⟩,_⟩:=hA.all9
 clear hA hB
 go_wp2
 go_returns
 exact ⟨congrArg (fun t=>Ending.returned (.string t)) (txt_cat [110,97,109,101,100,32] nm),HB.out⟩
set_option maxRecDepth 100000 in
theorem txt3_any (x y:Int) (hp:Qy.ptOK x y=true) (k:Int) (s1:ByteArray) (n4 n5 n6 n7:Int) (A8:Option Addr) (l8 c8:Nat) (w:World) (hT:TabQ w):Calls Tryz.prog 87 #[.agg #[.int .i64 k,.string s1,.int .i64 x,.int .i64 y,.int .i64 n4,.int .i64 n5,.int .i64 n6,.int .i64 n7,.slice A8 l8 c8]] w (TxtPost w ([97,116,32]++Qy.coordsT x y)):=by
 obtain ⟨hx,hy⟩:=ptOK_in hp
 have hcl:=Qy.coords_len hp
 obtain ⟨tc,htc⟩:∃ t:ByteArray,⟨(Qy.coordsT x y).toArray⟩=t:=⟨_,rfl⟩
 have HC:Hid (∀ u,TabQ u→Calls Tryz.prog 88 #[.agg #[.int .i64 x,.int .i64 y]] u fun e w'=>e=.returned (.string tc)∧Below u.heap.size u w'):=Lib.hid fun u h=>htc▸pcoords_any x y hx hy u h
 have hz:tc.size≤23:=by rw [← htc,lsz];exact hcl
 have hs1:¬ 9223372036854775807<3+tc.size:=by omega
 have HTc:=Lib.hid htc
 clear hx hy hcl htc hp
 go_enter Tryz.func87,Tryz.ntmps87
 go_upto_region 1 with fail
 refine wp_new1 fun W0 hA hB=>?_
 have HB:=Lib.hid hB
 have HC0:=Lib.hid (HC.out W0 (hT.on hB))
 obtain ⟨⟨y0,y1,y2,y3,y4,y5,y6,y7,y8⟩,_⟩:=hA.all9
 clear hA hB HC hT
 go_wp2_with fail
 refine HC0.out.mono ?_
 rintro e w1 ⟨rfl,k1⟩
 have HB1:=Lib.hid (Below.call HB.out k1)
 clear k1 y0 y1 y2 y3 y4 y5 y6 y7 y8
 go_wp2
 go_returns
 exact ⟨by rw [← HTc.out];exact congrArg (fun t=>Ending.returned (.string t)) (txt_cat [97,116,32] _),HB1.out⟩
set_option maxRecDepth 100000 in
theorem txt4_any (a b c d:Int) (hp:Qy.boxOK a b c d=true) (k:Int) (s1:ByteArray) (n2 n3:Int) (A8:Option Addr) (l8 c8:Nat) (w:World) (hT:TabQ w):Calls Tryz.prog 89 #[.agg #[.int .i64 k,.string s1,.int .i64 n2,.int .i64 n3,.int .i64 a,.int .i64 b,.int .i64 c,.int .i64 d,.slice A8 l8 c8]] w (TxtPost w ([119,105,116,104,105,110,32]++(Qy.coordsT a b++([32,116,111,32]++Qy.coordsT c d)))):=by
 obtain ⟨hp1,hp2⟩:=boxOK_in hp
 obtain ⟨hx,hy⟩:=ptOK_in hp1
 obtain ⟨hx2,hy2⟩:=ptOK_in hp2
 have hcl:=Qy.coords_len hp1
 have hcl2:=Qy.coords_len hp2
 obtain ⟨tc,htc⟩:∃ t:ByteArray,⟨(Qy.coordsT a b).toArray⟩=t:=⟨_,rfl⟩
 obtain ⟨td,htd⟩:∃ t:ByteArray,⟨(Qy.coordsT c d).toArray⟩=t:=⟨_,rfl⟩
 have HC:Hid (∀ u,TabQ u→Calls Tryz.prog 88 #[.agg #[.int .i64 a,.int .i64 b]] u fun e w'=>e=.returned (.string tc)∧Below u.heap.size u w'):=Lib.hid fun u h=>htc▸pcoords_any a b hx hy u h
 have HD:Hid (∀ u,TabQ u→Calls Tryz.prog 88 #[.agg #[.int .i64 c,.int .i64 d]] u fun e w'=>e=.returned (.string td)∧Below u.heap.size u w'):=Lib.hid fun u h=>htd▸pcoords_any c d hx2 hy2 u h
 have hz:tc.size≤23:=by rw [← htc,lsz];exact hcl
 have hz2:td.size≤23:=by rw [← htd,lsz];exact hcl2
 have HTc:=Lib.hid (And.intro htc htd)
 clear hx hy hx2 hy2 hcl hcl2 htc htd hp hp1 hp2
 go_enter Tryz.func89,Tryz.ntmps89
 go_upto_region 1 with fail
 refine wp_new1 fun W0 hA hB=>?_
 have HB:=Lib.hid hB
 have HA:=Lib.hid hA
 have HTb:=Lib.hid (hT.on hB)
 clear hA hB hT
 have hs1:¬ 9223372036854775807<7+tc.size:=by omega
 have hs2:¬ 9223372036854775807<7+tc.size+4:=by omega
 have hs3:¬ 9223372036854775807<7+tc.size+4+td.size:=by omega
 refine wp_region_specs W0 [Spec.eq (.pointer (some ⟨w.heap.size,4,none⟩)),Spec.eq (.pointer (some ⟨w.heap.size,4,none⟩)),Spec.eq (.agg #[.int .i64 a,.int .i64 b]),Spec.eq (.string tc),Spec.eq (.string (⟨#[119,105,116,104,105,110,32]⟩++tc)),Spec.eq (.string (⟨#[119,105,116,104,105,110,32]⟩++tc++⟨#[32,116,111,32]⟩)),Spec.eq (.pointer (some ⟨w.heap.size,4,none⟩)),Spec.eq (.pointer (some ⟨w.heap.size,6,none⟩)),Spec.eq (.agg #[.int .i64 c,.int .i64 d]),Spec.eq (.string td),Spec.eq (.string (⟨#[119,105,116,104,105,110,32]⟩++tc++⟨#[32,116,111,32]⟩++td)),Spec.eq (.string (⟨#[119,105,116,104,105,110,32]⟩++tc++⟨#[32,116,111,32]⟩++td))]
  (by kernel_rfl) (by kernel_rfl) rfl (by kernel_rfl) (Below.drew (Below.refl _ _)) ?_ ?_
 ·
  refine RegSteps.cons ?_ ?_
  ·intro _ az wz hC hF hD _ K hK
   have q1:az.tmps[1]? = some (.pointer (some ⟨w.heap.size,0,none⟩)):=hF 1 rfl
   clear hF hD
   refine want_none rfl ?_
   go_simp
   exact hK _ _ hC (Below.refl _ _) rfl
  refine RegSteps.cons ?_ ?_
  ·intro _ az wz hC hF hD _ K hK
   obtain ⟨_,q3,rfl⟩:=dep hD 0 rfl rfl rfl rfl
   clear hF hD
   refine want_none rfl ?_
   go_simp
   exact hK _ _ hC (Below.refl _ _) rfl
  refine RegSteps.cons ?_ ?_
  ·intro _ az wz hC hF hD _ K hK
   obtain ⟨_,q4,rfl⟩:=dep hD 1 rfl rfl rfl rfl
   obtain ⟨⟨y0,y1,y2,y3,y4,y5,y6,y7,y8⟩,_⟩:=(HA.out.on hC).all9
   clear hF hD
   refine want_none rfl ?_
   go_simp
   exact hK _ _ hC (Below.refl _ _) rfl
  refine RegSteps.cons ?_ ?_
  ·intro _ az wz hC hF hD _ K hK
   obtain ⟨_,q5,rfl⟩:=dep hD 2 rfl rfl rfl rfl
   clear hF hD
   refine want_none rfl ?_
   go_simp
   refine (HC.out _ (HTb.out.on hC)).mono ?_
   rintro e wy ⟨rfl,k⟩
   exact hK _ _ (Below.call hC k) k rfl
  refine RegSteps.cons ?_ ?_
  ·intro _ az wz hC hF hD _ K hK
   obtain ⟨_,q6,rfl⟩:=dep hD 3 rfl rfl rfl rfl
   clear hF hD
   refine want_none rfl ?_
   go_simp
   try go_ints
   exact hK _ _ hC (Below.refl _ _) rfl
  refine RegSteps.cons ?_ ?_
  ·intro _ az wz hC hF hD _ K hK
   obtain ⟨_,q7,rfl⟩:=dep hD 4 rfl rfl rfl rfl
   clear hF hD
   refine want_none rfl ?_
   go_simp
   try go_ints
   exact hK _ _ hC (Below.refl _ _) rfl
  refine RegSteps.cons ?_ ?_
  ·intro _ az wz hC hF hD _ K hK
   have q1:az.tmps[1]? = some (.pointer (some ⟨w.heap.size,0,none⟩)):=hF 1 rfl
   clear hF hD
   refine want_none rfl ?_
   go_simp
   exact hK _ _ hC (Below.refl _ _) rfl
  refine RegSteps.cons ?_ ?_
  ·intro _ az wz hC hF hD _ K hK
   obtain ⟨_,q9,rfl⟩:=dep hD 6 rfl rfl rfl rfl
   clear hF hD
   refine want_none rfl ?_
   go_simp
   exact hK _ _ hC (Below.refl _ _) rfl
  refine RegSteps.cons ?_ ?_
  ·intro _ az wz hC hF hD _ K hK
   obtain ⟨_,q10,rfl⟩:=dep hD 7 rfl rfl rfl rfl
   obtain ⟨⟨y0,y1,y2,y3,y4,y5,y6,y7,y8⟩,_⟩:=(HA.out.on hC).all9
   clear hF hD
   refine want_none rfl ?_
   go_simp
   exact hK _ _ hC (Below.refl _ _) rfl
  refine RegSteps.cons ?_ ?_
  ·intro _ az wz hC hF hD _ K hK
   obtain ⟨_,q11,rfl⟩:=dep hD 8 rfl rfl rfl rfl
   clear hF hD
   refine want_none rfl ?_
   go_simp
   refine (HD.out _ (HTb.out.on hC)).mono ?_
   rintro e wy ⟨rfl,k⟩
   exact hK _ _ (Below.call hC k) k rfl
  refine RegSteps.cons ?_ ?_
  ·intro _ az wz hC hF hD _ K hK
   obtain ⟨_,q8,rfl⟩:=dep hD 5 rfl rfl rfl rfl
   obtain ⟨_,q12,rfl⟩:=dep hD 9 rfl rfl rfl rfl
   clear hF hD
   refine want_none rfl ?_
   go_simp
   try go_ints
   exact hK _ _ hC (Below.refl _ _) rfl
  refine RegSteps.cons ?_ ?_
  ·intro _ az wz hC hF hD _ K hK
   obtain ⟨_,q13,rfl⟩:=dep hD 10 rfl rfl rfl rfl
   clear hF hD
   refine want_none rfl ?_
   go_simp
   exact hK _ _ hC (Below.refl _ _) rfl
  exact RegSteps.nil
 intro w2 hC2
 rintro _ rfl _ rfl _ rfl _ rfl _ rfl _ rfl _ rfl _ rfl _ rfl _ rfl _ rfl _ rfl
 simp only [FinOK,Act.put,List.setIfInBounds_toArray,List.set_cons_zero,List.set_cons_succ]
 have HF:=Lib.hid (Below.call HB.out hC2)
 clear hC2
 go_wp2
 go_returns
 refine ⟨?_,HF.out⟩
 rw [← HTc.out.1,← HTc.out.2]
 exact congrArg (fun t=>Ending.returned (.string t)) (str_eq (by simp [str_cat]))
set_option maxRecDepth 100000 in
theorem txt5_any (x:Qy.Reg) (hx:Qy.nodeE x=0) (hn:Qy.nodes x≤100000) (HI:∀ (v:Value) (w:World),TabQ w→IsReg w x v→Calls Tryz.prog 92 #[v] w (TxtPost w (Qy.text x true))) (k:Int) (s1:ByteArray) (n2 n3 n4 n5 n6 n7:Int) {A:Option Addr} {c:Nat} {w:World} (hK:KidsAt w (fun _=>True) A 0 [x]) (hT:TabQ w) :
 Calls Tryz.prog 91 #[.agg #[.int .i64 k,.string s1,.int .i64 n2,.int .i64 n3,.int .i64 n4,.int .i64 n5,.int .i64 n6,.int .i64 n7,.slice A 1 c]] w (TxtPost w ([110,111,116,32]++Qy.text x true)):=by
 have htl:=Qy.text_len x true hx
 obtain ⟨tc,htc⟩:∃ t:ByteArray,⟨(Qy.text x true).toArray⟩=t:=⟨_,rfl⟩
 have HC:Hid (∀ v u,TabQ u→IsReg u x v→Calls Tryz.prog 92 #[v] u fun e w'=>e=.returned (.string tc)∧Below u.heap.size u w'):=Lib.hid fun v u h h'=>htc▸HI v u h h'
 have hz:tc.size≤6500000:=by rw [← htc,lsz];omega
 have hs1:¬ 9223372036854775807<4+tc.size:=by omega
 have HTc:=Lib.hid htc
 obtain ⟨g,off,d0,t1,d2,d3,d4,d5,d6,d7,B8,l8,c8,rfl,_,hgl,⟨a0,a1,a2,a3,a4,a5,a6,a7,a8⟩,hR⟩:=hK.lit (i:=0) (R:=x) rfl
 simp only [Nat.zero_mul,Nat.add_zero] at a0 a1 a2 a3 a4 a5 a6 a7 a8
 have HR:=Lib.hid (And.intro hR (And.intro hgl hT))
 clear htl htc hx hn HI hK hR hT hgl
 go_enter Tryz.func91,Tryz.ntmps91
 go_upto_region 1 with fail
 refine wp_new1 fun W0 hA hB=>?_
 have HB:=Lib.hid hB
 have ce:∀ o,W0.cell? ⟨g,o,none⟩=w.cell? ⟨g,o,none⟩:=fun o=>World.cell?_of_block (a:=⟨g,o,none⟩) (hB.block g HR.out.2.1)
 rw [← ce] at a0 a1 a2 a3 a4 a5 a6 a7 a8
 have HC0:=Lib.hid (HC.out _ W0 (HR.out.2.2.on hB) (HR.out.1.on hB).isReg)
 obtain ⟨⟨y0,y1,y2,y3,y4,y5,y6,y7,y8⟩,_⟩:=hA.all9
 clear ce hA hB HC
 go_wp2_with fail
 refine HC0.out.mono ?_
 rintro e w1 ⟨rfl,k1⟩
 have HB1:=Lib.hid (Below.call HB.out k1)
 clear k1 y0 y1 y2 y3 y4 y5 y6 y7 y8 a0 a1 a2 a3 a4 a5 a6 a7 a8
 go_wp2
 go_returns
 exact ⟨by rw [← HTc.out];exact congrArg (fun t=>Ending.returned (.string t)) (txt_cat [110,111,116,32] _),HB1.out⟩
end Go.Proofs.YtmlpibdincfgbaaGreatDoor
namespace Go.Proofs.YtmlpibdincfgbaaGreatDoor
open Go.RowKit
set_option linter.unusedSimpArgs false
set_option linter.unusedVariables false
theorem index7_0 (t0 t1 t2 t3 t4 t5 t6:Value) (w:World):(Instr.index 142 (.agg #[t0,t1,t2,t3,t4,t5,t6]) (.int .i64 0)).run Tryz.prog w=.ok t0 w:=by kernel_rfl
theorem index7_1 (t0 t1 t2 t3 t4 t5 t6:Value) (w:World):(Instr.index 142 (.agg #[t0,t1,t2,t3,t4,t5,t6]) (.int .i64 1)).run Tryz.prog w=.ok t1 w:=by kernel_rfl
theorem index7_2 (t0 t1 t2 t3 t4 t5 t6:Value) (w:World):(Instr.index 142 (.agg #[t0,t1,t2,t3,t4,t5,t6]) (.int .i64 2)).run Tryz.prog w=.ok t2 w:=by kernel_rfl
theorem index7_3 (t0 t1 t2 t3 t4 t5 t6:Value) (w:World):(Instr.index 142 (.agg #[t0,t1,t2,t3,t4,t5,t6]) (.int .i64 3)).run Tryz.prog w=.ok t3 w:=by kernel_rfl
theorem index7_4 (t0 t1 t2 t3 t4 t5 t6:Value) (w:World):(Instr.index 142 (.agg #[t0,t1,t2,t3,t4,t5,t6]) (.int .i64 4)).run Tryz.prog w=.ok t4 w:=by kernel_rfl
theorem index7_5 (t0 t1 t2 t3 t4 t5 t6:Value) (w:World):(Instr.index 142 (.agg #[t0,t1,t2,t3,t4,t5,t6]) (.int .i64 5)).run Tryz.prog w=.ok t5 w:=by kernel_rfl
theorem index7_6 (t0 t1 t2 t3 t4 t5 t6:Value) (w:World):(Instr.index 142 (.agg #[t0,t1,t2,t3,t4,t5,t6]) (.int .i64 6)).run Tryz.prog w=.ok t6 w:=by kernel_rfl
theorem text_item {k:Int} {nm:Qy.Bs} {ax ay b0 b1 b2 b3:Int} {kids:List Qy.Reg} (hk:0≤k∧k≤6) :
 Qy.text (.mk k nm ax ay b0 b1 b2 b3 kids) true=if (k=4∨k=5)∧1<kids.length then 40 :: (Qy.text (.mk k nm ax ay b0 b1 b2 b3 kids) false++[41]) else Qy.text (.mk k nm ax ay b0 b1 b2 b3 kids) false:=by
 rcases (by omega:k=0∨k=1∨k=2∨k=3∨k=4∨k=5∨k=6) with rfl | rfl | rfl | rfl | rfl | rfl | rfl
 all_goals by_cases hm:1<kids.length
 all_goals simp [Qy.text,hm]
theorem join_le1 (l:List Qy.Bs) (w:Qy.Bs) (h:l.length≤1):Qy.join w l=l.headD []:=by
 match l,h with
 | [],_=>rfl
 | [t],_=>simp [Qy.join]
set_option maxRecDepth 100000 in
set_option maxHeartbeats 3200000 in
theorem item_of {R:Qy.Reg} (hE:Qy.nodeE R=0) (hn:Qy.nodes R≤100000) (HT:∀ (v:Value) (w:World),TabQ w→IsReg w R v→Calls Tryz.prog 49 #[v] w (TxtPost w (Qy.text R false))) :
 ∀ (v:Value) (w:World),TabQ w→IsReg w R v→Calls Tryz.prog 92 #[v] w (TxtPost w (Qy.text R true)):=by
 intro v w hT hv
 have hv0:=hv
 have htl:=Qy.text_len R false hE
 obtain ⟨cs,rfl,hR⟩:=hv
 obtain ⟨k,nm,ax,ay,b0,b1,b2,b3,kids⟩:=R
 obtain ⟨hk,-⟩:=fine_parts hE
 have hti:=text_item (nm:=nm) (ax:=ax) (ay:=ay) (b0:=b0) (b1:=b1) (b2:=b2) (b3:=b3) (kids:=kids) hk
 rw [RegAt] at hR
 obtain ⟨A,c,rfl,hK⟩:=hR
 obtain ⟨RR,hRR⟩:∃ RR:Qy.Reg,RR=.mk k nm ax ay b0 b1 b2 b3 kids:=⟨_,rfl⟩
 rw [← hRR] at HT htl hti hn hv0 ⊢
 obtain ⟨tt,htt⟩:∃ t:ByteArray,⟨(Qy.text RR false).toArray⟩=t:=⟨_,rfl⟩
 have HC:Hid (∀ v u,TabQ u→IsReg u RR v→Calls Tryz.prog 49 #[v] u fun e w'=>e=.returned (.string tt)∧Below u.heap.size u w'):=Lib.hid fun v u h h'=>htt▸HT v u h h'
 have hz:tt.size≤6500000:=by rw [← htt,lsz];omega
 have HTT:=Lib.hid htt
 have HTI:=Lib.hid hti
 have HV:=Lib.hid (And.intro hv0 hT)
 obtain ⟨m,hm⟩:∃ m,kids.length=m:=⟨_,rfl⟩
 rw [hm] at HTI HV ⊢
 have hs1:¬ 9223372036854775807<1+tt.size:=by omega
 have hs2:¬ 9223372036854775807<1+tt.size+1:=by omega
 obtain ⟨T,hTt⟩:∃ T,Qy.text RR true=T:=⟨_,rfl⟩
 rw [hTt] at HTI ⊢
 clear HT htl htt hti hK hm hRR hE hn hv0 hT hTt
 have HJn:=Lib.hid fun u=>joined_any k ax ay b0 b1 b2 b3 (bs nm) A m c u
 obtain ⟨jb,hjb⟩:∃ b,decide ((k=4∨k=5)∧1<m)=b:=⟨_,rfl⟩
 rw [hjb] at HJn
 have HJB:=Lib.hid hjb
 clear hjb
 go_enter Tryz.func92,Tryz.ntmps92
 go_upto_region 1 with fail
 refine wp_new1 fun W0 hA hB=>?_
 have HB:=Lib.hid hB
 have HA:=Lib.hid hA
 obtain ⟨⟨y0,y1,y2,y3,y4,y5,y6,y7,y8⟩,_⟩:=hA.all9
 clear hA hB
 go_wp2_with fail
 refine (HJn.out _).mono ?_
 rintro e w1 ⟨rfl,k1⟩
 have HB1:=Lib.hid (Below.call HB.out k1)
 have HC1:=Lib.hid (HC.out _ w1 (HV.out.2.on HB1.out) (HV.out.1.on HB1.out))
 clear y0 y1 y2 y3 y4 y5 y6 y7 y8
 obtain ⟨⟨y0,y1,y2,y3,y4,y5,y6,y7,y8⟩,_⟩:=(HA.out.on k1).all9
 clear k1
 cases jb
 ·have HF:Hid (T=Qy.text RR false):=Lib.hid (by rw [HTI.out,if_neg (by simpa using HJB.out)])
  go_wp2_with fail
  refine HC1.out.mono ?_
  rintro e w2 ⟨rfl,k2⟩
  have HB2:=Lib.hid (Below.call HB1.out k2)
  clear k2
  go_wp2
  go_returns
  exact ⟨by rw [HF.out,HTT.out] <;> rfl,HB2.out⟩
 ·have HF:Hid (T=40 :: (Qy.text RR false++[41])):=Lib.hid (by rw [HTI.out,if_pos (by simpa using HJB.out)])
  go_wp2_with fail
  refine HC1.out.mono ?_
  rintro e w2 ⟨rfl,k2⟩
  have HB2:=Lib.hid (Below.call HB1.out k2)
  clear k2
  go_wp2
  go_returns
  refine ⟨?_,HB2.out⟩
  rw [HF.out,← HTT.out]
  exact congrArg (fun t=>Ending.returned (.string t)) (str_eq (by simp [str_cat]))
set_option maxRecDepth 100000 in
set_option maxHeartbeats 6400000 in
theorem ptext_any:∀ (n:Nat) (R:Qy.Reg),Qy.nodes R≤n→n≤100000→Qy.nodeE R=0→∀ (v:Value) (w:World),TabQ w→IsReg w R v→Calls Tryz.prog 49 #[v] w (TxtPost w (Qy.text R false)):=by
 intro n
 induction n with
 | zero=>intro R h;have:=Qy.nodes_pos R;omega
 | succ n ih=>
  intro R hn hN hE v w hT hv
  have htl:=Qy.text_len R false hE
  obtain ⟨cs,rfl,hR⟩:=hv
  obtain ⟨k,nm,ax,ay,b0,b1,b2,b3,kids⟩:=R
  obtain ⟨hk,e1,e2,e3,e4,e5,e6,hpt,hbx,hkE⟩:=fine_parts hE
  rw [RegAt] at hR
  obtain ⟨A,c,rfl,hK⟩:=hR
  have hnk:∀ R∈kids,Qy.nodes R≤n:=fun R hR=>by have:=Qy.nodes_kid (k:=k) (nm:=nm) (ax:=ax) (ay:=ay) (b0:=b0) (b1:=b1) (b2:=b2) (b3:=b3) hR;omega
  have HTx:∀ R∈kids,∀ (v:Value) (w:World),TabQ w→IsReg w R v→Calls Tryz.prog 49 #[v] w (TxtPost w (Qy.text R false)):=fun R hR=>ih R (hnk R hR) (by omega) (hkE R hR)
  have HIx:∀ R∈kids,∀ (v:Value) (w:World),TabQ w→IsReg w R v→Calls Tryz.prog 92 #[v] w (TxtPost w (Qy.text R true)):=fun R hR=>item_of (hkE R hR) (by have:=hnk R hR;omega) (HTx R hR)
  have hnL:Qy.nodesL kids≤900000:=by rw [Qy.nodes] at hn;omega
  obtain ⟨T,hTt⟩:∃ T,Qy.text (.mk k nm ax ay b0 b1 b2 b3 kids) false=T:=⟨_,rfl⟩
  rw [hTt] at htl ⊢
  rw [Qy.text] at hTt
  obtain ⟨tt,htt⟩:∃ t:ByteArray,⟨T.toArray⟩=t:=⟨_,rfl⟩
  have HTT:=Lib.hid htt
  have HKW0:=Lib.hid hK
  have HT0:=Lib.hid hT
  obtain ⟨m,hm⟩:∃ m,kids.length=m:=⟨_,rfl⟩
  have HM:=Lib.hid hm
  rw [hm] at e2 ⊢
  have e1':k<4→m=0:=fun h=>by rw [← hm,e1 h];rfl
  rcases (by omega:k=0∨k=1∨k=2∨k=3∨k=4∨k=5∨k=6) with rfl | rfl | rfl | rfl | rfl | rfl | rfl
  ·
   obtain rfl:=e1' (by omega)
   obtain rfl:=e3 (by omega)
   obtain ⟨rfl,rfl⟩:=e4 (by omega)
   obtain ⟨rfl,rfl,rfl,rfl⟩:=e5 (by omega)
   rw [if_pos rfl] at hTt
   have HC:Hid (∀ u,Below w.heap.size w u→Calls Tryz.prog 85 #[.agg #[.int .i64 0,.string (bs []),.int .i64 0,.int .i64 0,.int .i64 0,.int .i64 0,.int .i64 0,.int .i64 0,.slice A 0 c]] u (fun e w'=>e=.returned (.string tt)∧Below u.heap.size u w')):=Lib.hid fun u hu=>by
    rw [← htt,← hTt]
    have hreg:IsReg u (.mk 0 [] 0 0 0 0 0 0 []) (.agg #[.int .i64 0,.string (bs []),.int .i64 0,.int .i64 0,.int .i64 0,.int .i64 0,.int .i64 0,.int .i64 0,.slice A 0 c]):=by
     refine ⟨_,rfl,?_⟩
     show RegAt u _ _ (.mk 0 [] 0 0 0 0 0 0 [])
     rw [RegAt]
     exact ⟨A,c,rfl,by rw [KidsAt];trivial⟩
    exact txt1_any _ _ u hreg
   clear e1 e1' e2 e3 e4 e5 e6 hpt hbx hkE ih hn hN hE hK hT hnk HTx HIx hnL hTt htt hm htl hk
   go_enter Tryz.func49,Tryz.ntmps49
   go_upto_region 1 with fail
   refine wp_new1 fun W0 hA hB=>?_
   have HB:=Lib.hid hB
   have HA:=Lib.hid hA
   have hC9:=HC.out
   replace HC:Hid (∀ wz,Below W0.heap.size W0 wz→Calls Tryz.prog 85 #[.agg #[.int .i64 0,.string (bs []),.int .i64 0,.int .i64 0,.int .i64 0,.int .i64 0,.int .i64 0,.int .i64 0,.slice A 0 c]] wz fun e w'=>e=.returned (.string tt)∧Below wz.heap.size wz w'):=Lib.hid fun wz hz=>hC9 wz (Below.call hB hz)
   clear hC9
   clear hA hB
   refine wp_region_specs W0 [sChV (⟨#[97,110,100]⟩) (⟨#[97,108,108]⟩),sChV (⟨#[111,114]⟩) (⟨#[97,110,121]⟩),sTabF ,Spec.eq (.pointer (some ⟨w.heap.size,0,none⟩)),Spec.eq (.int .i64 0),Spec.eq (.func (.func 85) #[] #[]),Spec.eq (.agg #[.int .i64 0,.string (bs []),.int .i64 0,.int .i64 0,.int .i64 0,.int .i64 0,.int .i64 0,.int .i64 0,.slice A 0 c]),Spec.eq (.string tt),Spec.eq (.string tt)]
    (by kernel_rfl) (by kernel_rfl) rfl (by kernel_rfl) (Below.drew (Below.refl _ _)) ?_ ?_
   ·
    refine RegSteps.cons ?_ ?_
    ·intro _ az wz hC hF hD _ K hK
     clear hF hD
     refine want_none rfl ?_
     go_simp
     refine (chain_any _ _ _).mono ?_
     rintro e wy ⟨x,rfl,k,hx⟩
     exact hK _ _ (Below.call hC k) k ⟨x,rfl,hx⟩
    refine RegSteps.cons ?_ ?_
    ·intro _ az wz hC hF hD _ K hK
     clear hF hD
     refine want_none rfl ?_
     go_simp
     refine (chain_any _ _ _).mono ?_
     rintro e wy ⟨x,rfl,k,hx⟩
     exact hK _ _ (Below.call hC k) k ⟨x,rfl,hx⟩
    refine RegSteps.cons ?_ ?_
    ·intro _ az wz hC hF hD _ K hK
     obtain ⟨_,q3,x3,rfl,hx3⟩:=dep hD 0 rfl rfl rfl rfl
     obtain ⟨_,q4,x4,rfl,hx4⟩:=dep hD 1 rfl rfl rfl rfl
     have hk3:=hx3
     have hk4:=hx4
     obtain ⟨p1,p2,e3,-⟩:=hx3
     obtain ⟨p3,p4,e4,-⟩:=hx4
     subst e3
     subst e4
     clear hF hD
     refine want_none rfl ?_
     go_simp
     exact hK _ _ hC (Below.refl _ _) ⟨_,rfl,_,_,rfl,hk3,hk4⟩
    refine RegSteps.cons ?_ ?_
    ·intro _ az wz hC hF hD _ K hK
     have q1:az.tmps[1]? = some (.pointer (some ⟨w.heap.size,0,none⟩)):=hF 1 rfl
     clear hF hD
     refine want_none rfl ?_
     go_simp
     exact hK _ _ hC (Below.refl _ _) rfl
    refine RegSteps.cons ?_ ?_
    ·intro _ az wz hC hF hD _ K hK
     obtain ⟨_,q6,rfl⟩:=dep hD 3 rfl rfl rfl rfl
     obtain ⟨⟨y0,y1,y2,y3,y4,y5,y6,y7,y8⟩,_⟩:=(HA.out.on hC).all9
     clear hF hD
     refine want_none rfl ?_
     go_simp
     exact hK _ _ hC (Below.refl _ _) rfl
    refine RegSteps.cons ?_ ?_
    ·intro _ az wz hC hF hD _ K hK
     obtain ⟨_,q5,x5,rfl,hx5⟩:=dep hD 2 rfl rfl rfl rfl
     obtain ⟨_,q7,rfl⟩:=dep hD 4 rfl rfl rfl rfl
     obtain ⟨a5,b5,e5,ha5,hb5⟩:=hx5
     subst e5
     have qi:=index7_0
     clear hF hD
     refine want_none rfl ?_
     go_simp
     exact hK _ _ hC (Below.refl _ _) rfl
    refine RegSteps.cons ?_ ?_
    ·intro _ az wz hC hF hD _ K hK
     have q1:az.tmps[1]? = some (.pointer (some ⟨w.heap.size,0,none⟩)):=hF 1 rfl
     obtain ⟨⟨y0,y1,y2,y3,y4,y5,y6,y7,y8⟩,_⟩:=(HA.out.on hC).all9
     clear hF hD
     refine want_none rfl ?_
     go_simp
     exact hK _ _ hC (Below.refl _ _) rfl
    refine RegSteps.cons ?_ ?_
    ·intro _ az wz hC hF hD _ K hK
     obtain ⟨_,q8,rfl⟩:=dep hD 5 rfl rfl rfl rfl
     obtain ⟨_,q9,rfl⟩:=dep hD 6 rfl rfl rfl rfl
     clear hF hD
     refine want_none rfl ?_
     go_simp
     refine (HC.out wz hC).mono ?_
     rintro e wy ⟨rfl,k⟩
     exact hK _ _ (Below.call hC k) k rfl
    refine RegSteps.cons ?_ ?_
    ·intro _ az wz hC hF hD _ K hK
     obtain ⟨_,q10,rfl⟩:=dep hD 7 rfl rfl rfl rfl
     clear hF hD
     refine want_none rfl ?_
     go_simp
     exact hK _ _ hC (Below.refl _ _) rfl
    exact RegSteps.nil
   intro w2 hC2
   rintro _ ⟨y3,rfl,_⟩ _ ⟨y4,rfl,_⟩ _ ⟨y5,rfl,_⟩ _ rfl _ rfl _ rfl _ rfl _ rfl _ rfl
   simp only [FinOK,Act.put,List.setIfInBounds_toArray,List.set_cons_zero,List.set_cons_succ]
   have HF:=Lib.hid (Below.call HB.out hC2)
   clear hC2
   go_wp2
   go_returns
   exact ⟨by rw [HTT.out] <;> rfl,HF.out⟩
  ·
   obtain rfl:=e1' (by omega)
   obtain ⟨rfl,rfl⟩:=e4 (by omega)
   obtain ⟨rfl,rfl,rfl,rfl⟩:=e5 (by omega)
   rw [if_neg (by decide),if_pos rfl] at hTt
   have hnl:nm.length≤16:=by
    have h9:=e6 rfl
    unfold Qy.nameOK at h9
    simp only [Bool.and_eq_true,decide_eq_true_eq] at h9
    exact h9.1.1.2
   have HC:Hid (∀ u,Below w.heap.size w u→Calls Tryz.prog 86 #[.agg #[.int .i64 1,.string (bs nm),.int .i64 0,.int .i64 0,.int .i64 0,.int .i64 0,.int .i64 0,.int .i64 0,.slice A 0 c]] u (fun e w'=>e=.returned (.string tt)∧Below u.heap.size u w')):=Lib.hid fun u hu=>by
    rw [← htt,← hTt]
    exact txt2_any nm hnl _ _ _ _ _ _ _ _ _ _ u
   clear e1 e1' e2 e3 e4 e5 e6 hpt hbx hkE ih hn hN hE hK hT hnk HTx HIx hnL hTt htt hm htl hk
   go_enter Tryz.func49,Tryz.ntmps49
   go_upto_region 1 with fail
   refine wp_new1 fun W0 hA hB=>?_
   have HB:=Lib.hid hB
   have HA:=Lib.hid hA
   have hC9:=HC.out
   replace HC:Hid (∀ wz,Below W0.heap.size W0 wz→Calls Tryz.prog 86 #[.agg #[.int .i64 1,.string (bs nm),.int .i64 0,.int .i64 0,.int .i64 0,.int .i64 0,.int .i64 0,.int .i64 0,.slice A 0 c]] wz fun e w'=>e=.returned (.string tt)∧Below wz.heap.size wz w'):=Lib.hid fun wz hz=>hC9 wz (Below.call hB hz)
   clear hC9
   clear hA hB
   refine wp_region_specs W0 [sChV (⟨#[97,110,100]⟩) (⟨#[97,108,108]⟩),sChV (⟨#[111,114]⟩) (⟨#[97,110,121]⟩),sTabF ,Spec.eq (.pointer (some ⟨w.heap.size,0,none⟩)),Spec.eq (.int .i64 1),Spec.eq (.func (.func 86) #[] #[]),Spec.eq (.agg #[.int .i64 1,.string (bs nm),.int .i64 0,.int .i64 0,.int .i64 0,.int .i64 0,.int .i64 0,.int .i64 0,.slice A 0 c]),Spec.eq (.string tt),Spec.eq (.string tt)]
    (by kernel_rfl) (by kernel_rfl) rfl (by kernel_rfl) (Below.drew (Below.refl _ _)) ?_ ?_
   ·
    refine RegSteps.cons ?_ ?_
    ·intro _ az wz hC hF hD _ K hK
     clear hF hD
     refine want_none rfl ?_
     go_simp
     refine (chain_any _ _ _).mono ?_
     rintro e wy ⟨x,rfl,k,hx⟩
     exact hK _ _ (Below.call hC k) k ⟨x,rfl,hx⟩
    refine RegSteps.cons ?_ ?_
    ·intro _ az wz hC hF hD _ K hK
     clear hF hD
     refine want_none rfl ?_
     go_simp
     refine (chain_any _ _ _).mono ?_
     rintro e wy ⟨x,rfl,k,hx⟩
     exact hK _ _ (Below.call hC k) k ⟨x,rfl,hx⟩
    refine RegSteps.cons ?_ ?_
    ·intro _ az wz hC hF hD _ K hK
     obtain ⟨_,q3,x3,rfl,hx3⟩:=dep hD 0 rfl rfl rfl rfl
     obtain ⟨_,q4,x4,rfl,hx4⟩:=dep hD 1 rfl rfl rfl rfl
     have hk3:=hx3
     have hk4:=hx4
     obtain ⟨p1,p2,e3,-⟩:=hx3
     obtain ⟨p3,p4,e4,-⟩:=hx4
     subst e3
     subst e4
     clear hF hD
     refine want_none rfl ?_
     go_simp
     exact hK _ _ hC (Below.refl _ _) ⟨_,rfl,_,_,rfl,hk3,hk4⟩
    refine RegSteps.cons ?_ ?_
    ·intro _ az wz hC hF hD _ K hK
     have q1:az.tmps[1]? = some (.pointer (some ⟨w.heap.size,0,none⟩)):=hF 1 rfl
     clear hF hD
     refine want_none rfl ?_
     go_simp
     exact hK _ _ hC (Below.refl _ _) rfl
    refine RegSteps.cons ?_ ?_
    ·intro _ az wz hC hF hD _ K hK
     obtain ⟨_,q6,rfl⟩:=dep hD 3 rfl rfl rfl rfl
     obtain ⟨⟨y0,y1,y2,y3,y4,y5,y6,y7,y8⟩,_⟩:=(HA.out.on hC).all9
     clear hF hD
     refine want_none rfl ?_
     go_simp
     exact hK _ _ hC (Below.refl _ _) rfl
    refine RegSteps.cons ?_ ?_
    ·intro _ az wz hC hF hD _ K hK
     obtain ⟨_,q5,x5,rfl,hx5⟩:=dep hD 2 rfl rfl rfl rfl
     obtain ⟨_,q7,rfl⟩:=dep hD 4 rfl rfl rfl rfl
     obtain ⟨a5,b5,e5,ha5,hb5⟩:=hx5
     subst e5
     have qi:=index7_1
     clear hF hD
     refine want_none rfl ?_
     go_simp
     exact hK _ _ hC (Below.refl _ _) rfl
    refine RegSteps.cons ?_ ?_
    ·intro _ az wz hC hF hD _ K hK
     have q1:az.tmps[1]? = some (.pointer (some ⟨w.heap.size,0,none⟩)):=hF 1 rfl
     obtain ⟨⟨y0,y1,y2,y3,y4,y5,y6,y7,y8⟩,_⟩:=(HA.out.on hC).all9
     clear hF hD
     refine want_none rfl ?_
     go_simp
     exact hK _ _ hC (Below.refl _ _) rfl
    refine RegSteps.cons ?_ ?_
    ·intro _ az wz hC hF hD _ K hK
     obtain ⟨_,q8,rfl⟩:=dep hD 5 rfl rfl rfl rfl
     obtain ⟨_,q9,rfl⟩:=dep hD 6 rfl rfl rfl rfl
     clear hF hD
     refine want_none rfl ?_
     go_simp
     refine (HC.out wz hC).mono ?_
     rintro e wy ⟨rfl,k⟩
     exact hK _ _ (Below.call hC k) k rfl
    refine RegSteps.cons ?_ ?_
    ·intro _ az wz hC hF hD _ K hK
     obtain ⟨_,q10,rfl⟩:=dep hD 7 rfl rfl rfl rfl
     clear hF hD
     refine want_none rfl ?_
     go_simp
     exact hK _ _ hC (Below.refl _ _) rfl
    exact RegSteps.nil
   intro w2 hC2
   rintro _ ⟨y3,rfl,_⟩ _ ⟨y4,rfl,_⟩ _ ⟨y5,rfl,_⟩ _ rfl _ rfl _ rfl _ rfl _ rfl _ rfl
   simp only [FinOK,Act.put,List.setIfInBounds_toArray,List.set_cons_zero,List.set_cons_succ]
   have HF:=Lib.hid (Below.call HB.out hC2)
   clear hC2
   go_wp2
   go_returns
   exact ⟨by rw [HTT.out] <;> rfl,HF.out⟩
  ·
   obtain rfl:=e1' (by omega)
   obtain rfl:=e3 (by omega)
   obtain ⟨rfl,rfl,rfl,rfl⟩:=e5 (by omega)
   rw [if_neg (by decide),if_neg (by decide),if_pos rfl] at hTt
   have HC:Hid (∀ u,Below w.heap.size w u→Calls Tryz.prog 87 #[.agg #[.int .i64 2,.string (bs []),.int .i64 ax,.int .i64 ay,.int .i64 0,.int .i64 0,.int .i64 0,.int .i64 0,.slice A 0 c]] u (fun e w'=>e=.returned (.string tt)∧Below u.heap.size u w')):=Lib.hid fun u hu=>by
    rw [← htt,← hTt]
    exact txt3_any ax ay hpt _ _ _ _ _ _ _ _ _ u (HT0.out.on hu)
   clear e1 e1' e2 e3 e4 e5 e6 hpt hbx hkE ih hn hN hE hK hT hnk HTx HIx hnL hTt htt hm htl hk
   go_enter Tryz.func49,Tryz.ntmps49
   go_upto_region 1 with fail
   refine wp_new1 fun W0 hA hB=>?_
   have HB:=Lib.hid hB
   have HA:=Lib.hid hA
   have hC9:=HC.out
   replace HC:Hid (∀ wz,Below W0.heap.size W0 wz→Calls Tryz.prog 87 #[.agg #[.int .i64 2,.string (bs []),.int .i64 ax,.int .i64 ay,.int .i64 0,.int .i64 0,.int .i64 0,.int .i64 0,.slice A 0 c]] wz fun e w'=>e=.returned (.string tt)∧Below wz.heap.size wz w'):=Lib.hid fun wz hz=>hC9 wz (Below.call hB hz)
   clear hC9
   clear hA hB
   refine wp_region_specs W0 [sChV (⟨#[97,110,100]⟩) (⟨#[97,108,108]⟩),sChV (⟨#[111,114]⟩) (⟨#[97,110,121]⟩),sTabF ,Spec.eq (.pointer (some ⟨w.heap.size,0,none⟩)),Spec.eq (.int .i64 2),Spec.eq (.func (.func 87) #[] #[]),Spec.eq (.agg #[.int .i64 2,.string (bs []),.int .i64 ax,.int .i64 ay,.int .i64 0,.int .i64 0,.int .i64 0,.int .i64 0,.slice A 0 c]),Spec.eq (.string tt),Spec.eq (.string tt)]
    (by kernel_rfl) (by kernel_rfl) rfl (by kernel_rfl) (Below.drew (Below.refl _ _)) ?_ ?_
   ·
    refine RegSteps.cons ?_ ?_
    ·intro _ az wz hC hF hD _ K hK
     clear hF hD
     refine want_none rfl ?_
     go_simp
     refine (chain_any _ _ _).mono ?_
     rintro e wy ⟨x,rfl,k,hx⟩
     exact hK _ _ (Below.call hC k) k ⟨x,rfl,hx⟩
    refine RegSteps.cons ?_ ?_
    ·intro _ az wz hC hF hD _ K hK
     clear hF hD
     refine want_none rfl ?_
     go_simp
     refine (chain_any _ _ _).mono ?_
     rintro e wy ⟨x,rfl,k,hx⟩
     exact hK _ _ (Below.call hC k) k ⟨x,rfl,hx⟩
    refine RegSteps.cons ?_ ?_
    ·intro _ az wz hC hF hD _ K hK
     obtain ⟨_,q3,x3,rfl,hx3⟩:=dep hD 0 rfl rfl rfl rfl
     obtain ⟨_,q4,x4,rfl,hx4⟩:=dep hD 1 rfl rfl rfl rfl
     have hk3:=hx3
     have hk4:=hx4
     obtain ⟨p1,p2,e3,-⟩:=hx3
     obtain ⟨p3,p4,e4,-⟩:=hx4
     subst e3
     subst e4
     clear hF hD
     refine want_none rfl ?_
     go_simp
     exact hK _ _ hC (Below.refl _ _) ⟨_,rfl,_,_,rfl,hk3,hk4⟩
    refine RegSteps.cons ?_ ?_
    ·intro _ az wz hC hF hD _ K hK
     have q1:az.tmps[1]? = some (.pointer (some ⟨w.heap.size,0,none⟩)):=hF 1 rfl
     clear hF hD
     refine want_none rfl ?_
     go_simp
     exact hK _ _ hC (Below.refl _ _) rfl
    refine RegSteps.cons ?_ ?_
    ·intro _ az wz hC hF hD _ K hK
     obtain ⟨_,q6,rfl⟩:=dep hD 3 rfl rfl rfl rfl
     obtain ⟨⟨y0,y1,y2,y3,y4,y5,y6,y7,y8⟩,_⟩:=(HA.out.on hC).all9
     clear hF hD
     refine want_none rfl ?_
     go_simp
     exact hK _ _ hC (Below.refl _ _) rfl
    refine RegSteps.cons ?_ ?_
    ·intro _ az wz hC hF hD _ K hK
     obtain ⟨_,q5,x5,rfl,hx5⟩:=dep hD 2 rfl rfl rfl rfl
     obtain ⟨_,q7,rfl⟩:=dep hD 4 rfl rfl rfl rfl
     obtain ⟨a5,b5,e5,ha5,hb5⟩:=hx5
     subst e5
     have qi:=index7_2
     clear hF hD
     refine want_none rfl ?_
     go_simp
     exact hK _ _ hC (Below.refl _ _) rfl
    refine RegSteps.cons ?_ ?_
    ·intro _ az wz hC hF hD _ K hK
     have q1:az.tmps[1]? = some (.pointer (some ⟨w.heap.size,0,none⟩)):=hF 1 rfl
     obtain ⟨⟨y0,y1,y2,y3,y4,y5,y6,y7,y8⟩,_⟩:=(HA.out.on hC).all9
     clear hF hD
     refine want_none rfl ?_
     go_simp
     exact hK _ _ hC (Below.refl _ _) rfl
    refine RegSteps.cons ?_ ?_
    ·intro _ az wz hC hF hD _ K hK
     obtain ⟨_,q8,rfl⟩:=dep hD 5 rfl rfl rfl rfl
     obtain ⟨_,q9,rfl⟩:=dep hD 6 rfl rfl rfl rfl
     clear hF hD
     refine want_none rfl ?_
     go_simp
     refine (HC.out wz hC).mono ?_
     rintro e wy ⟨rfl,k⟩
     exact hK _ _ (Below.call hC k) k rfl
    refine RegSteps.cons ?_ ?_
    ·intro _ az wz hC hF hD _ K hK
     obtain ⟨_,q10,rfl⟩:=dep hD 7 rfl rfl rfl rfl
     clear hF hD
     refine want_none rfl ?_
     go_simp
     exact hK _ _ hC (Below.refl _ _) rfl
    exact RegSteps.nil
   intro w2 hC2
   rintro _ ⟨y3,rfl,_⟩ _ ⟨y4,rfl,_⟩ _ ⟨y5,rfl,_⟩ _ rfl _ rfl _ rfl _ rfl _ rfl _ rfl
   simp only [FinOK,Act.put,List.setIfInBounds_toArray,List.set_cons_zero,List.set_cons_succ]
   have HF:=Lib.hid (Below.call HB.out hC2)
   clear hC2
   go_wp2
   go_returns
   exact ⟨by rw [HTT.out] <;> rfl,HF.out⟩
  ·
   obtain rfl:=e1' (by omega)
   obtain rfl:=e3 (by omega)
   obtain ⟨rfl,rfl⟩:=e4 (by omega)
   rw [if_neg (by decide),if_neg (by decide),if_neg (by decide),if_pos rfl] at hTt
   have HC:Hid (∀ u,Below w.heap.size w u→Calls Tryz.prog 89 #[.agg #[.int .i64 3,.string (bs []),.int .i64 0,.int .i64 0,.int .i64 b0,.int .i64 b1,.int .i64 b2,.int .i64 b3,.slice A 0 c]] u (fun e w'=>e=.returned (.string tt)∧Below u.heap.size u w')):=Lib.hid fun u hu=>by
    rw [← htt,← hTt]
    exact txt4_any b0 b1 b2 b3 hbx _ _ _ _ _ _ _ u (HT0.out.on hu)
   clear e1 e1' e2 e3 e4 e5 e6 hpt hbx hkE ih hn hN hE hK hT hnk HTx HIx hnL hTt htt hm htl hk
   go_enter Tryz.func49,Tryz.ntmps49
   go_upto_region 1 with fail
   refine wp_new1 fun W0 hA hB=>?_
   have HB:=Lib.hid hB
   have HA:=Lib.hid hA
   have hC9:=HC.out
   replace HC:Hid (∀ wz,Below W0.heap.size W0 wz→Calls Tryz.prog 89 #[.agg #[.int .i64 3,.string (bs []),.int .i64 0,.int .i64 0,.int .i64 b0,.int .i64 b1,.int .i64 b2,.int .i64 b3,.slice A 0 c]] wz fun e w'=>e=.returned (.string tt)∧Below wz.heap.size wz w'):=Lib.hid fun wz hz=>hC9 wz (Below.call hB hz)
   clear hC9
   clear hA hB
   refine wp_region_specs W0 [sChV (⟨#[97,110,100]⟩) (⟨#[97,108,108]⟩),sChV (⟨#[111,114]⟩) (⟨#[97,110,121]⟩),sTabF ,Spec.eq (.pointer (some ⟨w.heap.size,0,none⟩)),Spec.eq (.int .i64 3),Spec.eq (.func (.func 89) #[] #[]),Spec.eq (.agg #[.int .i64 3,.string (bs []),.int .i64 0,.int .i64 0,.int .i64 b0,.int .i64 b1,.int .i64 b2,.int .i64 b3,.slice A 0 c]),Spec.eq (.string tt),Spec.eq (.string tt)]
    (by kernel_rfl) (by kernel_rfl) rfl (by kernel_rfl) (Below.drew (Below.refl _ _)) ?_ ?_
   ·
    refine RegSteps.cons ?_ ?_
    ·intro _ az wz hC hF hD _ K hK
     clear hF hD
     refine want_none rfl ?_
     go_simp
     refine (chain_any _ _ _).mono ?_
     rintro e wy ⟨x,rfl,k,hx⟩
     exact hK _ _ (Below.call hC k) k ⟨x,rfl,hx⟩
    refine RegSteps.cons ?_ ?_
    ·intro _ az wz hC hF hD _ K hK
     clear hF hD
     refine want_none rfl ?_
     go_simp
     refine (chain_any _ _ _).mono ?_
     rintro e wy ⟨x,rfl,k,hx⟩
     exact hK _ _ (Below.call hC k) k ⟨x,rfl,hx⟩
    refine RegSteps.cons ?_ ?_
    ·intro _ az wz hC hF hD _ K hK
     obtain ⟨_,q3,x3,rfl,hx3⟩:=dep hD 0 rfl rfl rfl rfl
     obtain ⟨_,q4,x4,rfl,hx4⟩:=dep hD 1 rfl rfl rfl rfl
     have hk3:=hx3
     have hk4:=hx4
     obtain ⟨p1,p2,e3,-⟩:=hx3
     obtain ⟨p3,p4,e4,-⟩:=hx4
     subst e3
     subst e4
     clear hF hD
     refine want_none rfl ?_
     go_simp
     exact hK _ _ hC (Below.refl _ _) ⟨_,rfl,_,_,rfl,hk3,hk4⟩
    refine RegSteps.cons ?_ ?_
    ·intro _ az wz hC hF hD _ K hK
     have q1:az.tmps[1]? = some (.pointer (some ⟨w.heap.size,0,none⟩)):=hF 1 rfl
     clear hF hD
     refine want_none rfl ?_
     go_simp
     exact hK _ _ hC (Below.refl _ _) rfl
    refine RegSteps.cons ?_ ?_
    ·intro _ az wz hC hF hD _ K hK
     obtain ⟨_,q6,rfl⟩:=dep hD 3 rfl rfl rfl rfl
     obtain ⟨⟨y0,y1,y2,y3,y4,y5,y6,y7,y8⟩,_⟩:=(HA.out.on hC).all9
     clear hF hD
     refine want_none rfl ?_
     go_simp
     exact hK _ _ hC (Below.refl _ _) rfl
    refine RegSteps.cons ?_ ?_
    ·intro _ az wz hC hF hD _ K hK
     obtain ⟨_,q5,x5,rfl,hx5⟩:=dep hD 2 rfl rfl rfl rfl
     obtain ⟨_,q7,rfl⟩:=dep hD 4 rfl rfl rfl rfl
     obtain ⟨a5,b5,e5,ha5,hb5⟩:=hx5
     subst e5
     have qi:=index7_3
     clear hF hD
     refine want_none rfl ?_
     go_simp
     exact hK _ _ hC (Below.refl _ _) rfl
    refine RegSteps.cons ?_ ?_
    ·intro _ az wz hC hF hD _ K hK
     have q1:az.tmps[1]? = some (.pointer (some ⟨w.heap.size,0,none⟩)):=hF 1 rfl
     obtain ⟨⟨y0,y1,y2,y3,y4,y5,y6,y7,y8⟩,_⟩:=(HA.out.on hC).all9
     clear hF hD
     refine want_none rfl ?_
     go_simp
     exact hK _ _ hC (Below.refl _ _) rfl
    refine RegSteps.cons ?_ ?_
    ·intro _ az wz hC hF hD _ K hK
     obtain ⟨_,q8,rfl⟩:=dep hD 5 rfl rfl rfl rfl
     obtain ⟨_,q9,rfl⟩:=dep hD 6 rfl rfl rfl rfl
     clear hF hD
     refine want_none rfl ?_
     go_simp
     refine (HC.out wz hC).mono ?_
     rintro e wy ⟨rfl,k⟩
     exact hK _ _ (Below.call hC k) k rfl
    refine RegSteps.cons ?_ ?_
    ·intro _ az wz hC hF hD _ K hK
     obtain ⟨_,q10,rfl⟩:=dep hD 7 rfl rfl rfl rfl
     clear hF hD
     refine want_none rfl ?_
     go_simp
     exact hK _ _ hC (Below.refl _ _) rfl
    exact RegSteps.nil
   intro w2 hC2
   rintro _ ⟨y3,rfl,_⟩ _ ⟨y4,rfl,_⟩ _ ⟨y5,rfl,_⟩ _ rfl _ rfl _ rfl _ rfl _ rfl _ rfl
   simp only [FinOK,Act.put,List.setIfInBounds_toArray,List.set_cons_zero,List.set_cons_succ]
   have HF:=Lib.hid (Below.call HB.out hC2)
   clear hC2
   go_wp2
   go_returns
   exact ⟨by rw [HTT.out] <;> rfl,HF.out⟩
  ·
   obtain rfl:=e3 (by omega)
   obtain ⟨rfl,rfl⟩:=e4 (by omega)
   obtain ⟨rfl,rfl,rfl,rfl⟩:=e5 (by omega)
   rw [if_neg (by decide),if_neg (by decide),if_neg (by decide),if_neg (by decide),if_neg (by decide)] at hTt
   have hT9:(if 1<kids.length then Qy.join [32,97,110,100,32] (Qy.texts kids true) else [97,108,108,40]++(Qy.join [44,32] (Qy.texts kids false)++[41]))=T:=by
    rw [← hTt]
    by_cases h1:1<kids.length
    ·simp [h1]
    ·rw [join_le1 (Qy.texts kids false) [44,32] (by rw [Qy.texts_len];omega)]
     simp [h1]
   have HC:Hid (∀ u p1 p2,KidsAt u (fun _=>True) A 0 kids→TabQ u→u.cell? ⟨p1,0,none⟩=some (.string ⟨#[97,110,100]⟩)→u.cell? ⟨p2,0,none⟩=some (.string ⟨#[97,108,108]⟩)→p1<u.heap.size→p2<u.heap.size→Calls Tryz.prog 122 #[.agg #[.int .i64 4,.string (bs []),.int .i64 0,.int .i64 0,.int .i64 0,.int .i64 0,.int .i64 0,.int .i64 0,.slice A m c],.pointer (some ⟨p1,0,none⟩),.pointer (some ⟨p2,0,none⟩)] u (fun e w'=>e=.returned (.string tt)∧Below u.heap.size u w')):=Lib.hid fun u p1 p2 h1 h2 h3 h4 h5 h6=>by
    have h9:=chain4_any kids hkE hnL HTx HIx 0 0 0 0 0 0 (bs []) (c:=c) h1 h2 h3 h4 h5 h6
    rw [hT9,hm] at h9
    rw [← htt]
    exact h9
   clear e1 e1' e2 e3 e4 e5 e6 hpt hbx hkE ih hn hN hE hK hT hnk HTx HIx hnL hTt htt hm htl hk
   clear hT9
   go_enter Tryz.func49,Tryz.ntmps49
   go_upto_region 1 with fail
   refine wp_new1 fun W0 hA hB=>?_
   have HB:=Lib.hid hB
   have HA:=Lib.hid hA
   have HKW:=Lib.hid (HKW0.out.on hB)
   have HTb:=Lib.hid (HT0.out.on hB)
   clear hA hB
   refine wp_region_specs W0 [sChV (⟨#[97,110,100]⟩) (⟨#[97,108,108]⟩),sChV (⟨#[111,114]⟩) (⟨#[97,110,121]⟩),sTabF ,Spec.eq (.pointer (some ⟨w.heap.size,0,none⟩)),Spec.eq (.int .i64 4),sChV (⟨#[97,110,100]⟩) (⟨#[97,108,108]⟩),Spec.eq (.agg #[.int .i64 4,.string (bs []),.int .i64 0,.int .i64 0,.int .i64 0,.int .i64 0,.int .i64 0,.int .i64 0,.slice A m c]),Spec.eq (.string tt),Spec.eq (.string tt)]
    (by kernel_rfl) (by kernel_rfl) rfl (by kernel_rfl) (Below.drew (Below.refl _ _)) ?_ ?_
   ·
    refine RegSteps.cons ?_ ?_
    ·intro _ az wz hC hF hD _ K hK
     clear hF hD
     refine want_none rfl ?_
     go_simp
     refine (chain_any _ _ _).mono ?_
     rintro e wy ⟨x,rfl,k,hx⟩
     exact hK _ _ (Below.call hC k) k ⟨x,rfl,hx⟩
    refine RegSteps.cons ?_ ?_
    ·intro _ az wz hC hF hD _ K hK
     clear hF hD
     refine want_none rfl ?_
     go_simp
     refine (chain_any _ _ _).mono ?_
     rintro e wy ⟨x,rfl,k,hx⟩
     exact hK _ _ (Below.call hC k) k ⟨x,rfl,hx⟩
    refine RegSteps.cons ?_ ?_
    ·intro _ az wz hC hF hD _ K hK
     obtain ⟨_,q3,x3,rfl,hx3⟩:=dep hD 0 rfl rfl rfl rfl
     obtain ⟨_,q4,x4,rfl,hx4⟩:=dep hD 1 rfl rfl rfl rfl
     have hk3:=hx3
     have hk4:=hx4
     obtain ⟨p1,p2,e3,-⟩:=hx3
     obtain ⟨p3,p4,e4,-⟩:=hx4
     subst e3
     subst e4
     clear hF hD
     refine want_none rfl ?_
     go_simp
     exact hK _ _ hC (Below.refl _ _) ⟨_,rfl,_,_,rfl,hk3,hk4⟩
    refine RegSteps.cons ?_ ?_
    ·intro _ az wz hC hF hD _ K hK
     have q1:az.tmps[1]? = some (.pointer (some ⟨w.heap.size,0,none⟩)):=hF 1 rfl
     clear hF hD
     refine want_none rfl ?_
     go_simp
     exact hK _ _ hC (Below.refl _ _) rfl
    refine RegSteps.cons ?_ ?_
    ·intro _ az wz hC hF hD _ K hK
     obtain ⟨_,q6,rfl⟩:=dep hD 3 rfl rfl rfl rfl
     obtain ⟨⟨y0,y1,y2,y3,y4,y5,y6,y7,y8⟩,_⟩:=(HA.out.on hC).all9
     clear hF hD
     refine want_none rfl ?_
     go_simp
     exact hK _ _ hC (Below.refl _ _) rfl
    refine RegSteps.cons ?_ ?_
    ·intro _ az wz hC hF hD _ K hK
     obtain ⟨_,q5,x5,rfl,hx5⟩:=dep hD 2 rfl rfl rfl rfl
     obtain ⟨_,q7,rfl⟩:=dep hD 4 rfl rfl rfl rfl
     obtain ⟨a5,b5,e5,ha5,hb5⟩:=hx5
     subst e5
     have qi:=index7_4
     clear hF hD
     refine want_none rfl ?_
     go_simp
     exact hK _ _ hC (Below.refl _ _) ⟨a5,rfl,ha5⟩
    refine RegSteps.cons ?_ ?_
    ·intro _ az wz hC hF hD _ K hK
     have q1:az.tmps[1]? = some (.pointer (some ⟨w.heap.size,0,none⟩)):=hF 1 rfl
     obtain ⟨⟨y0,y1,y2,y3,y4,y5,y6,y7,y8⟩,_⟩:=(HA.out.on hC).all9
     clear hF hD
     refine want_none rfl ?_
     go_simp
     exact hK _ _ hC (Below.refl _ _) rfl
    refine RegSteps.cons ?_ ?_
    ·intro _ az wz hC hF hD _ K hK
     obtain ⟨_,q8,x8,rfl,hx8⟩:=dep hD 5 rfl rfl rfl rfl
     obtain ⟨_,q9,rfl⟩:=dep hD 6 rfl rfl rfl rfl
     obtain ⟨p1,p2,e8,z1,z2,l1,l2⟩:=hx8
     subst e8
     clear hF hD
     refine want_none rfl ?_
     go_simp
     refine (HC.out wz p1 p2 (HKW.out.on hC) (HTb.out.on hC) z1 z2 l1 l2).mono ?_
     rintro e wy ⟨rfl,k⟩
     exact hK _ _ (Below.call hC k) k rfl
    refine RegSteps.cons ?_ ?_
    ·intro _ az wz hC hF hD _ K hK
     obtain ⟨_,q10,rfl⟩:=dep hD 7 rfl rfl rfl rfl
     clear hF hD
     refine want_none rfl ?_
     go_simp
     exact hK _ _ hC (Below.refl _ _) rfl
    exact RegSteps.nil
   intro w2 hC2
   rintro _ ⟨y3,rfl,_⟩ _ ⟨y4,rfl,_⟩ _ ⟨y5,rfl,_⟩ _ rfl _ rfl _ ⟨y8,rfl,_⟩ _ rfl _ rfl _ rfl
   simp only [FinOK,Act.put,List.setIfInBounds_toArray,List.set_cons_zero,List.set_cons_succ]
   have HF:=Lib.hid (Below.call HB.out hC2)
   clear hC2
   go_wp2
   go_returns
   exact ⟨by rw [HTT.out] <;> rfl,HF.out⟩
  ·
   obtain rfl:=e3 (by omega)
   obtain ⟨rfl,rfl⟩:=e4 (by omega)
   obtain ⟨rfl,rfl,rfl,rfl⟩:=e5 (by omega)
   rw [if_neg (by decide),if_neg (by decide),if_neg (by decide),if_neg (by decide),if_neg (by decide)] at hTt
   have hT9:(if 1<kids.length then Qy.join [32,111,114,32] (Qy.texts kids true) else [97,110,121,40]++(Qy.join [44,32] (Qy.texts kids false)++[41]))=T:=by
    rw [← hTt]
    by_cases h1:1<kids.length
    ·simp [h1]
    ·rw [join_le1 (Qy.texts kids false) [44,32] (by rw [Qy.texts_len];omega)]
     simp [h1]
   have HC:Hid (∀ u p1 p2,KidsAt u (fun _=>True) A 0 kids→TabQ u→u.cell? ⟨p1,0,none⟩=some (.string ⟨#[111,114]⟩)→u.cell? ⟨p2,0,none⟩=some (.string ⟨#[97,110,121]⟩)→p1<u.heap.size→p2<u.heap.size→Calls Tryz.prog 122 #[.agg #[.int .i64 5,.string (bs []),.int .i64 0,.int .i64 0,.int .i64 0,.int .i64 0,.int .i64 0,.int .i64 0,.slice A m c],.pointer (some ⟨p1,0,none⟩),.pointer (some ⟨p2,0,none⟩)] u (fun e w'=>e=.returned (.string tt)∧Below u.heap.size u w')):=Lib.hid fun u p1 p2 h1 h2 h3 h4 h5 h6=>by
    have h9:=chain5_any kids hkE hnL HTx HIx 0 0 0 0 0 0 (bs []) (c:=c) h1 h2 h3 h4 h5 h6
    rw [hT9,hm] at h9
    rw [← htt]
    exact h9
   clear e1 e1' e2 e3 e4 e5 e6 hpt hbx hkE ih hn hN hE hK hT hnk HTx HIx hnL hTt htt hm htl hk
   clear hT9
   go_enter Tryz.func49,Tryz.ntmps49
   go_upto_region 1 with fail
   refine wp_new1 fun W0 hA hB=>?_
   have HB:=Lib.hid hB
   have HA:=Lib.hid hA
   have HKW:=Lib.hid (HKW0.out.on hB)
   have HTb:=Lib.hid (HT0.out.on hB)
   clear hA hB
   refine wp_region_specs W0 [sChV (⟨#[97,110,100]⟩) (⟨#[97,108,108]⟩),sChV (⟨#[111,114]⟩) (⟨#[97,110,121]⟩),sTabF ,Spec.eq (.pointer (some ⟨w.heap.size,0,none⟩)),Spec.eq (.int .i64 5),sChV (⟨#[111,114]⟩) (⟨#[97,110,121]⟩),Spec.eq (.agg #[.int .i64 5,.string (bs []),.int .i64 0,.int .i64 0,.int .i64 0,.int .i64 0,.int .i64 0,.int .i64 0,.slice A m c]),Spec.eq (.string tt),Spec.eq (.string tt)]
    (by kernel_rfl) (by kernel_rfl) rfl (by kernel_rfl) (Below.drew (Below.refl _ _)) ?_ ?_
   ·
    refine RegSteps.cons ?_ ?_
    ·intro _ az wz hC hF hD _ K hK
     clear hF hD
     refine want_none rfl ?_
     go_simp
     refine (chain_any _ _ _).mono ?_
     rintro e wy ⟨x,rfl,k,hx⟩
     exact hK _ _ (Below.call hC k) k ⟨x,rfl,hx⟩
    refine RegSteps.cons ?_ ?_
    ·intro _ az wz hC hF hD _ K hK
     clear hF hD
     refine want_none rfl ?_
     go_simp
     refine (chain_any _ _ _).mono ?_
     rintro e wy ⟨x,rfl,k,hx⟩
     exact hK _ _ (Below.call hC k) k ⟨x,rfl,hx⟩
    refine RegSteps.cons ?_ ?_
    ·intro _ az wz hC hF hD _ K hK
     obtain ⟨_,q3,x3,rfl,hx3⟩:=dep hD 0 rfl rfl rfl rfl
     obtain ⟨_,q4,x4,rfl,hx4⟩:=dep hD 1 rfl rfl rfl rfl
     have hk3:=hx3
     have hk4:=hx4
     obtain ⟨p1,p2,e3,-⟩:=hx3
     obtain ⟨p3,p4,e4,-⟩:=hx4
     subst e3
     subst e4
     clear hF hD
     refine want_none rfl ?_
     go_simp
     exact hK _ _ hC (Below.refl _ _) ⟨_,rfl,_,_,rfl,hk3,hk4⟩
    refine RegSteps.cons ?_ ?_
    ·intro _ az wz hC hF hD _ K hK
     have q1:az.tmps[1]? = some (.pointer (some ⟨w.heap.size,0,none⟩)):=hF 1 rfl
     clear hF hD
     refine want_none rfl ?_
     go_simp
     exact hK _ _ hC (Below.refl _ _) rfl
    refine RegSteps.cons ?_ ?_
    ·intro _ az wz hC hF hD _ K hK
     obtain ⟨_,q6,rfl⟩:=dep hD 3 rfl rfl rfl rfl
     obtain ⟨⟨y0,y1,y2,y3,y4,y5,y6,y7,y8⟩,_⟩:=(HA.out.on hC).all9
     clear hF hD
     refine want_none rfl ?_
     go_simp
     exact hK _ _ hC (Below.refl _ _) rfl
    refine RegSteps.cons ?_ ?_
    ·intro _ az wz hC hF hD _ K hK
     obtain ⟨_,q5,x5,rfl,hx5⟩:=dep hD 2 rfl rfl rfl rfl
     obtain ⟨_,q7,rfl⟩:=dep hD 4 rfl rfl rfl rfl
     obtain ⟨a5,b5,e5,ha5,hb5⟩:=hx5
     subst e5
     have qi:=index7_5
     clear hF hD
     refine want_none rfl ?_
     go_simp
     exact hK _ _ hC (Below.refl _ _) ⟨b5,rfl,hb5⟩
    refine RegSteps.cons ?_ ?_
    ·intro _ az wz hC hF hD _ K hK
     have q1:az.tmps[1]? = some (.pointer (some ⟨w.heap.size,0,none⟩)):=hF 1 rfl
     obtain ⟨⟨y0,y1,y2,y3,y4,y5,y6,y7,y8⟩,_⟩:=(HA.out.on hC).all9
     clear hF hD
     refine want_none rfl ?_
     go_simp
     exact hK _ _ hC (Below.refl _ _) rfl
    refine RegSteps.cons ?_ ?_
    ·intro _ az wz hC hF hD _ K hK
     obtain ⟨_,q8,x8,rfl,hx8⟩:=dep hD 5 rfl rfl rfl rfl
     obtain ⟨_,q9,rfl⟩:=dep hD 6 rfl rfl rfl rfl
     obtain ⟨p1,p2,e8,z1,z2,l1,l2⟩:=hx8
     subst e8
     clear hF hD
     refine want_none rfl ?_
     go_simp
     refine (HC.out wz p1 p2 (HKW.out.on hC) (HTb.out.on hC) z1 z2 l1 l2).mono ?_
     rintro e wy ⟨rfl,k⟩
     exact hK _ _ (Below.call hC k) k rfl
    refine RegSteps.cons ?_ ?_
    ·intro _ az wz hC hF hD _ K hK
     obtain ⟨_,q10,rfl⟩:=dep hD 7 rfl rfl rfl rfl
     clear hF hD
     refine want_none rfl ?_
     go_simp
     exact hK _ _ hC (Below.refl _ _) rfl
    exact RegSteps.nil
   intro w2 hC2
   rintro _ ⟨y3,rfl,_⟩ _ ⟨y4,rfl,_⟩ _ ⟨y5,rfl,_⟩ _ rfl _ rfl _ ⟨y8,rfl,_⟩ _ rfl _ rfl _ rfl
   simp only [FinOK,Act.put,List.setIfInBounds_toArray,List.set_cons_zero,List.set_cons_succ]
   have HF:=Lib.hid (Below.call HB.out hC2)
   clear hC2
   go_wp2
   go_returns
   exact ⟨by rw [HTT.out] <;> rfl,HF.out⟩
  ·
   obtain rfl:=e2 rfl
   obtain rfl:=e3 (by omega)
   obtain ⟨rfl,rfl⟩:=e4 (by omega)
   obtain ⟨rfl,rfl,rfl,rfl⟩:=e5 (by omega)
   rw [if_neg (by decide),if_neg (by decide),if_neg (by decide),if_neg (by decide),if_pos rfl] at hTt
   obtain ⟨x,hx⟩:∃ x,kids=[x]:=by
    match kids,hm with
    | [x],_=>exact ⟨x,rfl⟩
   have HC:Hid (∀ u,Below w.heap.size w u→Calls Tryz.prog 91 #[.agg #[.int .i64 6,.string (bs []),.int .i64 0,.int .i64 0,.int .i64 0,.int .i64 0,.int .i64 0,.int .i64 0,.slice A 1 c]] u (fun e w'=>e=.returned (.string tt)∧Below u.heap.size u w')):=Lib.hid fun u hu=>by
    rw [← htt,← hTt,hx,Qy.texts]
    have h8:=HKW0.out.on hu
    rw [hx] at h8
    exact txt5_any x (hkE x (by rw [hx];simp)) (by have:=hnk x (by rw [hx];simp);omega) (HIx x (by rw [hx];simp)) _ _ _ _ _ _ _ _ h8 (HT0.out.on hu)
   clear e1 e1' e2 e3 e4 e5 e6 hpt hbx hkE ih hn hN hE hK hT hnk HTx HIx hnL hTt htt hm htl hk
   clear hx
   go_enter Tryz.func49,Tryz.ntmps49
   go_upto_region 1 with fail
   refine wp_new1 fun W0 hA hB=>?_
   have HB:=Lib.hid hB
   have HA:=Lib.hid hA
   have hC9:=HC.out
   replace HC:Hid (∀ wz,Below W0.heap.size W0 wz→Calls Tryz.prog 91 #[.agg #[.int .i64 6,.string (bs []),.int .i64 0,.int .i64 0,.int .i64 0,.int .i64 0,.int .i64 0,.int .i64 0,.slice A 1 c]] wz fun e w'=>e=.returned (.string tt)∧Below wz.heap.size wz w'):=Lib.hid fun wz hz=>hC9 wz (Below.call hB hz)
   clear hC9
   clear hA hB
   refine wp_region_specs W0 [sChV (⟨#[97,110,100]⟩) (⟨#[97,108,108]⟩),sChV (⟨#[111,114]⟩) (⟨#[97,110,121]⟩),sTabF ,Spec.eq (.pointer (some ⟨w.heap.size,0,none⟩)),Spec.eq (.int .i64 6),Spec.eq (.func (.func 91) #[] #[]),Spec.eq (.agg #[.int .i64 6,.string (bs []),.int .i64 0,.int .i64 0,.int .i64 0,.int .i64 0,.int .i64 0,.int .i64 0,.slice A 1 c]),Spec.eq (.string tt),Spec.eq (.string tt)]
    (by kernel_rfl) (by kernel_rfl) rfl (by kernel_rfl) (Below.drew (Below.refl _ _)) ?_ ?_
   ·
    refine RegSteps.cons ?_ ?_
    ·intro _ az wz hC hF hD _ K hK
     clear hF hD
     refine want_none rfl ?_
     go_simp
     refine (chain_any _ _ _).mono ?_
     rintro e wy ⟨x,rfl,k,hx⟩
     exact hK _ _ (Below.call hC k) k ⟨x,rfl,hx⟩
    refine RegSteps.cons ?_ ?_
    ·intro _ az wz hC hF hD _ K hK
     clear hF hD
     refine want_none rfl ?_
     go_simp
     refine (chain_any _ _ _).mono ?_
     rintro e wy ⟨x,rfl,k,hx⟩
     exact hK _ _ (Below.call hC k) k ⟨x,rfl,hx⟩
    refine RegSteps.cons ?_ ?_
    ·intro _ az wz hC hF hD _ K hK
     obtain ⟨_,q3,x3,rfl,hx3⟩:=dep hD 0 rfl rfl rfl rfl
     obtain ⟨_,q4,x4,rfl,hx4⟩:=dep hD 1 rfl rfl rfl rfl
     have hk3:=hx3
     have hk4:=hx4
     obtain ⟨p1,p2,e3,-⟩:=hx3
     obtain ⟨p3,p4,e4,-⟩:=hx4
     subst e3
     subst e4
     clear hF hD
     refine want_none rfl ?_
     go_simp
     exact hK _ _ hC (Below.refl _ _) ⟨_,rfl,_,_,rfl,hk3,hk4⟩
    refine RegSteps.cons ?_ ?_
    ·intro _ az wz hC hF hD _ K hK
     have q1:az.tmps[1]? = some (.pointer (some ⟨w.heap.size,0,none⟩)):=hF 1 rfl
     clear hF hD
     refine want_none rfl ?_
     go_simp
     exact hK _ _ hC (Below.refl _ _) rfl
    refine RegSteps.cons ?_ ?_
    ·intro _ az wz hC hF hD _ K hK
     obtain ⟨_,q6,rfl⟩:=dep hD 3 rfl rfl rfl rfl
     obtain ⟨⟨y0,y1,y2,y3,y4,y5,y6,y7,y8⟩,_⟩:=(HA.out.on hC).all9
     clear hF hD
     refine want_none rfl ?_
     go_simp
     exact hK _ _ hC (Below.refl _ _) rfl
    refine RegSteps.cons ?_ ?_
    ·intro _ az wz hC hF hD _ K hK
     obtain ⟨_,q5,x5,rfl,hx5⟩:=dep hD 2 rfl rfl rfl rfl
     obtain ⟨_,q7,rfl⟩:=dep hD 4 rfl rfl rfl rfl
     obtain ⟨a5,b5,e5,ha5,hb5⟩:=hx5
     subst e5
     have qi:=index7_6
     clear hF hD
     refine want_none rfl ?_
     go_simp
     exact hK _ _ hC (Below.refl _ _) rfl
    refine RegSteps.cons ?_ ?_
    ·intro _ az wz hC hF hD _ K hK
     have q1:az.tmps[1]? = some (.pointer (some ⟨w.heap.size,0,none⟩)):=hF 1 rfl
     obtain ⟨⟨y0,y1,y2,y3,y4,y5,y6,y7,y8⟩,_⟩:=(HA.out.on hC).all9
     clear hF hD
     refine want_none rfl ?_
     go_simp
     exact hK _ _ hC (Below.refl _ _) rfl
    refine RegSteps.cons ?_ ?_
    ·intro _ az wz hC hF hD _ K hK
     obtain ⟨_,q8,rfl⟩:=dep hD 5 rfl rfl rfl rfl
     obtain ⟨_,q9,rfl⟩:=dep hD 6 rfl rfl rfl rfl
     clear hF hD
     refine want_none rfl ?_
     go_simp
     refine (HC.out wz hC).mono ?_
     rintro e wy ⟨rfl,k⟩
     exact hK _ _ (Below.call hC k) k rfl
    refine RegSteps.cons ?_ ?_
    ·intro _ az wz hC hF hD _ K hK
     obtain ⟨_,q10,rfl⟩:=dep hD 7 rfl rfl rfl rfl
     clear hF hD
     refine want_none rfl ?_
     go_simp
     exact hK _ _ hC (Below.refl _ _) rfl
    exact RegSteps.nil
   intro w2 hC2
   rintro _ ⟨y3,rfl,_⟩ _ ⟨y4,rfl,_⟩ _ ⟨y5,rfl,_⟩ _ rfl _ rfl _ rfl _ rfl _ rfl _ rfl
   simp only [FinOK,Act.put,List.setIfInBounds_toArray,List.set_cons_zero,List.set_cons_succ]
   have HF:=Lib.hid (Below.call HB.out hC2)
   clear hC2
   go_wp2
   go_returns
   exact ⟨by rw [HTT.out] <;> rfl,HF.out⟩
end Go.Proofs.YtmlpibdincfgbaaGreatDoor
