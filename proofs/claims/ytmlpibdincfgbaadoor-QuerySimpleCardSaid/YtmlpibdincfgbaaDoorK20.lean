/-
  Package query: Parse's deferred closure.
-/
import Derived.Test.YtmlpibdincfgbaaDoorK17
import Derived.Test.YtmlpibdincfgbaaDoorK14
import Derived.Tactics
import Derived.Tactics2
import Derived.Defers
import Derived.Recover
import Derived.Laws.Pointers
import Derived.TacticsInMore
import Derived.RegionIn
import Derived.LoopNIn
import Derived.RecoverIn
namespace Go.Proofs.YtmlpibdincfgbaaDoor
open Go.RowKit
set_option linter.unusedSimpArgs false
set_option linter.unusedVariables false
def zq:List Value:=[.int .i64 0,.int .i64 0,.string ⟨#[]⟩,.int .i64 0,.int .i64 0,.int .i64 0,.int .i64 0,.int .i64 0,.int .i64 0,.slice none 0 0,.int .i64 0,.slice none 0 0,.int .i64 0,.int .i64 0]
set_option maxRecDepth 100000 in
theorem assert_nil (w:World):(Instr.typeAssert .nilIface 20 76 true).run Tryd.prog w=.ok (.tuple #[.agg #[.int .i64 0,.int .i64 0],.bool false]) w:=by kernel_rfl
set_option maxRecDepth 100000 in
theorem assert_prob (a e:Int) (w:World):(Instr.typeAssert (.iface 76 (.agg #[.int .i64 a,.int .i64 e])) 20 76 true).run Tryd.prog w=.ok (.tuple #[.agg #[.int .i64 a,.int .i64 e],.bool true]) w:=by kernel_rfl
set_option maxRecDepth 100000 in
set_option maxHeartbeats 1600000 in
theorem idle_in (n b2 b3 b4:Nat) (w:World) :
 CallsDIn Fence.wide n Tryd.prog 29 #[.pointer (some ⟨b2,0,none⟩),.pointer (some ⟨b3,0,none⟩),.pointer (some ⟨b4,0,none⟩)] .returning w fun e u' w'=>e=.returned (.tuple #[])∧u'=.returning∧Below w.heap.size w w':=by
 refine callsDIn_of_wpSIn Tryd.func29 rfl trivial fun c₀ cs hu=>?_
 simp only [Tryd.ntmps29,List.size_toArray,List.length_cons,List.length_nil,Nat.reduceAdd,Nat.reduceSub,Array.replicate_succ,Array.replicate_zero,List.push_toArray,List.append_toArray,List.nil_append,List.cons_append]
 apply wpSIn_seq
 apply wpSIn_region
 simp [wpOpsSIn,go_sem,recoverD,hu,Exit.thenS,assert_nil]
 refine wpSIn_of_wpIn rfl (wpIn_wide.2 ?_)
 refine wp_seq_k fun K hK=>?_
 go_wp2
 cases c₀
 simp only at hu
 subst hu
 exact ⟨rfl,_,rfl,_,results_none Tryd.results29 _ _ _,rfl,rfl,below_new w _⟩
structure JC (b2 b3 b4 gp a:Nat) (er:Int) (w:World) (D:Nat→Prop) (wz:World):Prop where
 hp:Own wz gp 76 [.int .i64 (a:Int),.int .i64 er]
 o2:Own wz b2 36 [.int .i64 0,.int .i64 0,.string ⟨#[]⟩,.int .i64 0,.int .i64 0,.int .i64 0,.int .i64 0,.int .i64 0,.int .i64 0,.slice none 0 0,.int .i64 0,.slice none 0 0,.int .i64 0,.int .i64 0]
 o3:∃ x:Int,Own wz b3 3 [.int .i64 x]∧(D 6→x=a)
 o4:Own wz b4 37 [.int .i64 0]
 bel:Below b2 w wz
section
variable {b2 b3 b4 gp a:Nat} {er:Int} {w wz:World} {D:Nat→Prop} {i:Nat}
theorem JC.pure (h:JC b2 b3 b4 gp a er w D wz) (h6:i≠6):JC b2 b3 b4 gp a er w (fun k=>D k∨k=i) wz:=
 ⟨h.hp,h.o2,by obtain ⟨x,h1,h2⟩:=h.o3;exact ⟨x,h1,fun hd=>h2 (hd.resolve_right fun e=>h6 e.symm)⟩,h.o4,h.bel⟩
theorem JC.st2 (h:JC b2 b3 b4 gp a er w D wz) (n1:gp≠b2) (n2:b3≠b2) (n3:b4≠b2):JC b2 b3 b4 gp a er w (fun k=>D k∨k=5) ((((((((((((((wz.setCell ⟨b2,0,none⟩ (.int .i64 0)).setCell ⟨b2,1,none⟩ (.int .i64 0)).setCell ⟨b2,2,none⟩ (.string ⟨#[]⟩)).setCell ⟨b2,3,none⟩ (.int .i64 0)).setCell ⟨b2,4,none⟩ (.int .i64 0)).setCell ⟨b2,5,none⟩ (.int .i64 0)).setCell ⟨b2,6,none⟩ (.int .i64 0)).setCell ⟨b2,7,none⟩ (.int .i64 0)).setCell ⟨b2,8,none⟩ (.int .i64 0)).setCell ⟨b2,9,none⟩ (.slice none 0 0)).setCell ⟨b2,10,none⟩ (.int .i64 0)).setCell ⟨b2,11,none⟩ (.slice none 0 0)).setCell ⟨b2,12,none⟩ (.int .i64 0)).setCell ⟨b2,13,none⟩ (.int .i64 0)):=
 ⟨h.hp.at1 h.o2.put14.2 n1,h.o2.put14.1,by obtain ⟨x,h1,h2⟩:=h.o3;exact ⟨x,h1.at1 h.o2.put14.2 n2,fun hd=>h2 (hd.resolve_right fun e=>by cases e)⟩,h.o4.at1 h.o2.put14.2 n3,h.bel.trans (h.o2.put14.2.below (Nat.le_of_lt h.o2.lt))⟩
theorem JC.st3 (h:JC b2 b3 b4 gp a er w D wz) (n1:gp≠b3) (n2:b2<b3) (n3:b4≠b3):JC b2 b3 b4 gp a er w (fun k=>D k∨k=6) (wz.setCell ⟨b3,0,none⟩ (.int .i64 (a:Int))):=
 have k:=At1.set_ (r:=b3) wz (p:=⟨b3,0,none⟩) rfl (.int .i64 (a:Int))
 ⟨h.hp.at1 k n1,h.o2.at1 k (Nat.ne_of_lt n2),by obtain ⟨x,h1,h2⟩:=h.o3;exact ⟨a,h1.set_ 0 _,fun _=>rfl⟩,h.o4.at1 k n3,h.bel.setCell (p:=⟨b3,0,none⟩) (Nat.le_of_lt n2) _⟩
end
theorem UpD7e {a0 a1 a2 a3 a4:Value} {D:Nat→Prop} {w w':World}:UpD [Spec.eq a0,Spec.eq a1,Spec.eq a2,Spec.eq a3,Spec.eq a4,sE fun _ _=>True,sE fun _ _=>True] D w w':=by
 intro k s hD hs
 match k,hD,hs with
 | 0,_,hs=>cases hs;exact fun _ h=>h
 | 1,_,hs=>cases hs;exact fun _ h=>h
 | 2,_,hs=>cases hs;exact fun _ h=>h
 | 3,_,hs=>cases hs;exact fun _ h=>h
 | 4,_,hs=>cases hs;exact fun _ h=>h
 | 5,_,hs=>cases hs;exact fun _ h=>h
 | 6,_,hs=>cases hs;exact fun _ h=>h
 | k+7,_,hs=>cases hs
set_option maxRecDepth 100000 in
set_option maxHeartbeats 1600000 in
theorem catch_in (n b2 b3 b4 a:Nat) (er:Int) (w:World) (h2:Own w b2 36 zq) (h3:Own w b3 3 [.int .i64 0]) (h4:Own w b4 37 [.int .i64 0]) (n3:b2<b3) (n4:b3<b4) :
 CallsDIn Fence.wide n Tryd.prog 29 #[.pointer (some ⟨b2,0,none⟩),.pointer (some ⟨b3,0,none⟩),.pointer (some ⟨b4,0,none⟩)] (.panicking (prob a er)) w fun e u' w'=>e=.returned (.tuple #[])∧settle u'=.returning∧Own w' b2 36 zq∧Own w' b3 3 [.int .i64 (a:Int)]∧Own w' b4 37 [.int .i64 er]∧Below b2 w w':=by
 refine callsDIn_of_wpSIn Tryd.func29 rfl trivial fun c₀ cs hu=>?_
 unfold prob at hu
 simp only [Tryd.ntmps29,List.size_toArray,List.length_cons,List.length_nil,Nat.reduceAdd,Nat.reduceSub,Array.replicate_succ,Array.replicate_zero,List.push_toArray,List.append_toArray,List.nil_append,List.cons_append]
 apply wpSIn_seq
 apply wpSIn_region
 simp [wpOpsSIn,go_sem,recoverD,hu,Exit.thenS,assert_prob]
 refine wpSIn_of_wpIn rfl (wpIn_wide.2 ?_)
 refine wp_seq_k fun K hK=>?_
 go_upto_region 2 with fail
 refine wp_new1 fun W1 hP hB=>?_
 obtain ⟨gp,hgp⟩:∃ gp,w.heap.size=gp:=⟨_,rfl⟩
 have hl4:=h4.lt
 rw [hgp] at hP hB hl4 ⊢
 have hb2:b2≤gp:=by omega
 have hB2:Below b2 w W1:=hB.mono hb2
 have kd:=Below.drew (Below.refl W1.heap.size W1)
 have hB3:Below w.heap.size w W1:=by rw [hgp];exact hB
 have hJ0:JC b2 b3 b4 gp a er w (fun _=>False) W1.drew:=⟨hP.on kd,(h2.on hB3).on kd,⟨0,(h3.on hB3).on kd,False.elim⟩,(h4.on hB3).on kd,hB2.trans (Below.drew (Below.refl _ _))⟩
 have n1:gp≠b2:=by omega
 have n2:gp≠b3:=by omega
 have n5:b4≠b2:=by omega
 have n6:b4≠b3:=by omega
 have n7:b3≠b2:=by omega
 clear hP hB hB2 hB3 h2 h3 h4 kd
 refine wp_region_suffixK (JC b2 b3 b4 gp a er w) 7 [Spec.eq (.agg #[.int .i64 0,.int .i64 0,.string ⟨#[]⟩,.int .i64 0,.int .i64 0,.int .i64 0,.int .i64 0,.int .i64 0,.int .i64 0,.slice none 0 0,.int .i64 0,.slice none 0 0,.int .i64 0,.int .i64 0]),Spec.eq (.pointer (some ⟨gp,0,none⟩)),Spec.eq (.int .i64 (a:Int)),Spec.eq (.pointer (some ⟨gp,1,none⟩)),Spec.eq (.int .i64 er),sE fun _ _=>True,sE fun _ _=>True]
  (by kernel_rfl) (by kernel_rfl) rfl (by kernel_rfl) (by kernel_rfl) hJ0 ?_ ?_
 ·
  refine RegStepsK.cons ?_ ?_
  ·intro DD az wz _ _ hC hdf hF hD K hK;clear hdf
   clear hF hD
   refine want_none rfl ?_
   go_simp
   exact hK _ _ (hC.pure (by decide)) UpD7e rfl
  refine RegStepsK.cons ?_ ?_
  ·intro DD az wz _ _ hC hdf hF hD K hK;clear hdf
   have q3:az.tmps[3]? = some (.pointer (some ⟨gp,0,none⟩)):=hF 3 rfl
   clear hF hD
   refine want_none rfl ?_
   go_simp
   exact hK _ _ (hC.pure (by decide)) UpD7e rfl
  refine RegStepsK.cons ?_ ?_
  ·intro DD az wz _ _ hC hdf hF hD K hK;clear hdf
   obtain ⟨_,q12,rfl⟩:=dep hD 1 rfl rfl rfl rfl
   have z0:wz.cell? ⟨gp,0,none⟩=some (.int .i64 (a:Int)):=hC.hp.cell 0
   clear hF hD
   refine want_none rfl ?_
   go_simp
   exact hK _ _ (hC.pure (by decide)) UpD7e rfl
  refine RegStepsK.cons ?_ ?_
  ·intro DD az wz _ _ hC hdf hF hD K hK;clear hdf
   have q3:az.tmps[3]? = some (.pointer (some ⟨gp,0,none⟩)):=hF 3 rfl
   clear hF hD
   refine want_none rfl ?_
   go_simp
   exact hK _ _ (hC.pure (by decide)) UpD7e rfl
  refine RegStepsK.cons ?_ ?_
  ·intro DD az wz _ _ hC hdf hF hD K hK;clear hdf
   obtain ⟨_,q14,rfl⟩:=dep hD 3 rfl rfl rfl rfl
   have z1:wz.cell? ⟨gp,1,none⟩=some (.int .i64 er):=hC.hp.cell 1
   clear hF hD
   refine want_none rfl ?_
   go_simp
   exact hK _ _ (hC.pure (by decide)) UpD7e rfl
  refine RegStepsK.cons ?_ ?_
  ·intro DD az wz _ _ hC hdf hF hD K hK;clear hdf
   have q0:az.tmps[0]? = some (.pointer (some ⟨b2,0,none⟩)):=hF 0 rfl
   obtain ⟨_,q11,rfl⟩:=dep hD 0 rfl rfl rfl rfl
   clear hF hD
   obtain ⟨⟨z0,z1,z2,z3,z4,z5,z6,z7,z8,z9,z10,z11,z12,z13⟩,f0,f1,f2,f3,f4,f5,f6,f7,f8,f9,f10,f11,f12,f13⟩:=hC.o2.all14
   have HP:=Lib.hid (hC.st2 n1 n7 n5)
   clear hC
   refine want_none rfl ?_
   go_simp
   exact hK undef _ HP.out UpD7e trivial
  refine RegStepsK.cons ?_ ?_
  ·intro DD az wz _ _ hC hdf hF hD K hK;clear hdf
   have q1:az.tmps[1]? = some (.pointer (some ⟨b3,0,none⟩)):=hF 1 rfl
   obtain ⟨_,q13,rfl⟩:=dep hD 2 rfl rfl rfl rfl
   clear hF hD
   obtain ⟨x3,k3,_⟩:=hC.o3
   have z0:=k3.cell 0
   have f0:=k3.frozen 0
   have HP:=Lib.hid (hC.st3 n2 n3 n6)
   clear hC
   refine want_none rfl ?_
   go_simp
   exact hK undef _ HP.out UpD7e trivial
  exact RegStepsK.nil
 intro w7 hJ7
 rintro _ rfl _ rfl _ rfl _ rfl _ rfl _ hs5 _ hs6
 simp only [List.take,FinOK,Act.put,List.setIfInBounds_toArray,List.set_cons_zero,List.set_cons_succ]
 simp only [List.drop,TailOK]
 have HC:=Lib.hid hJ7
 obtain ⟨x3,k3,k4⟩:=hJ7.o3
 have q4:w7.cell? ⟨b4,0,none⟩=some (.int .i64 0):=hJ7.o4.cell 0
 have q5:=hJ7.o4.frozen 0
 clear hJ7
 intro K hK
 refine want_none rfl ?_
 go_simp
 refine hK _ _ ?_
 have hk:=At1.set_ (r:=b4) w7 (p:=⟨b4,0,none⟩) rfl (.int .i64 er)
 have k5:=k4 (by decide)
 subst k5
 exact ⟨rfl,_,rfl,_,results_none Tryd.results29 _ _ _,rfl,rfl,HC.out.o2.at1 hk n5.symm,k3.at1 hk n6.symm,HC.out.o4.set_ 0 (.int .i64 er),HC.out.bel.setCell (p:=⟨b4,0,none⟩) (by show b2≤b4;omega) _⟩
end Go.Proofs.YtmlpibdincfgbaaDoor
