/-
  Chapter 38's reference: a region, a view, a query made of numbers.
  Chapter 38's reference: what is valid; the text of a region.
  Chapter 38's reference: the text of a region.
  Chapter 38's reference: a valid query passes; the text of a query.
  Chapter 38's reference: a text with a token changed; a text with further spaces.
-/
import Derived.Test.YtmlpibdincfgbaaGreatDoorQS1
import Derived.Test.YtmlpibdincfgbaaGreatDoorM10
import Derived.Test.YtmlpibdincfgbaaGreatDoorA4
import Derived.Test.YtmlpibdincfgbaaGreatDoorM9
namespace Go.Proofs.YtmlpibdincfgbaaGreatDoor
open Go.RowKit
set_option linter.unusedSimpArgs false
set_option linter.unusedVariables false
set_option maxRecDepth 100000 in
set_option maxHeartbeats 3200000 in
theorem Made_any {w:World} {A:Option Addr} {l:List Int} {c:Nat} (h:IntsIs w A l c) (d:Nat) (d1:1≤d) (d8:d≤8) :
 Calls Tryz.prog 31 #[.slice A l.length c,.int .i64 (d:Int)] w fun e w'=>∃ (R:Qy.Reg) (y:Nat) (v:Value),e=.returned v∧Below w.heap.size w w'∧regV w R v w'∧Qy.MadeP d 0 R y:=by
 have HR:Hid (∀ (r:Nat) u,Mk r l 0 u→Calls Tryz.prog 62 #[.pointer (some ⟨r,0,none⟩),.int .i64 (d:Int)] u (MadeV r l d 0 u)):=Lib.hid fun r u k=>mkRegion_any r l d d1 d8 0 u k (by omega)
 have HI:=Lib.hid h
 obtain ⟨L,hL⟩:∃ L,l.length=L:=⟨_,rfl⟩
 have HL:=Lib.hid hL
 rw [hL]
 clear h hL
 go_enter Tryz.func31,Tryz.ntmps31
 go_upto_region 1 with fail
 refine wp_new1 fun W0 hO4 hB=>?_
 go_upto_region 2 with fail
 refine wp_new1 fun W1 hR kn=>?_
 obtain ⟨r,hr⟩:∃ r,W0.heap.size=r:=⟨_,rfl⟩
 rw [hr] at hR ⊢
 have hwr:w.heap.size<r:=by have:=hO4.lt;omega
 have hB1:=Below.call hB kn
 have hO41:=hO4.on kn
 have hmk:Mk r l 0 W1:=⟨hR.lt,A,c,by rw [HL.out];exact hR,HI.out.sl.keep_ (Nat.le_of_lt hwr) fun g hg=>hB1.block g hg,HI.out.rg,HI.out.cap,HI.out.mx⟩
 have HS:=Lib.hid (And.intro hmk (And.intro hB1 hO41))
 clear hB kn hO4 hO41 hR hr hB1 hmk
 go_wp2_with fail
 refine (HR.out r _ HS.out.1).mono ?_
 rintro e w2 ⟨R,y,v,rfl,hu,kat,hmk2,hmp⟩
 obtain ⟨n0,s1,n2,n3,n4,n5,n6,n7,A8,l8,c8,rfl,hR1,_⟩:=hu.lit
 have hO:=HS.out.2.2.at1 kat (Nat.ne_of_lt hwr)
 have hB2:=below_put HS.out.2.1 kat (Nat.le_of_lt hwr)
 obtain ⟨⟨z0,z1,z2,z3,z4,z5,z6,z7,z8⟩,f0,f1,f2,f3,f4,f5,f6,f7,f8⟩:=hO.all9
 have HF:=Lib.hid (And.intro hO (And.intro hB2 (And.intro hR1 hmp)))
 have HSZ:=Lib.hid (show r<W1.heap.size from HS.out.1.lt)
 clear hO hB2 hR1 hmp hmk2 kat hu HS
 go_wp2_with fail
 obtain ⟨hO,hk⟩:=HF.out.1.put9 (x0:=.int .i64 n0) (x1:=.string s1) (x2:=.int .i64 n2) (x3:=.int .i64 n3) (x4:=.int .i64 n4) (x5:=.int .i64 n5) (x6:=.int .i64 n6) (x7:=.int .i64 n7) (x8:=.slice A8 l8 c8)
 clear z0 z1 z2 z3 z4 z5 z6 z7 z8 f0 f1 f2 f3 f4 f5 f6 f7 f8
 revert hO hk
 generalize (((((((((World.setCell _ _ _).setCell _ _).setCell _ _).setCell _ _).setCell _ _).setCell _ _).setCell _ _).setCell _ _).setCell _ _)=W9
 intro hO hk
 obtain ⟨⟨q0,q1,q2,q3,q4,q5,q6,q7,q8⟩,_⟩:=hO.all9
 refine bodyPost_ret (v:=.agg #[.int .i64 n0,.string s1,.int .i64 n2,.int .i64 n3,.int .i64 n4,.int .i64 n5,.int .i64 n6,.int .i64 n7,.slice A8 l8 c8]) (by simp [results,Tryz.results31,go_sem,q0,q1,q2,q3,q4,q5,q6,q7,q8]) rfl ?_
 refine ⟨R,y,_,rfl,below_put HF.out.2.1 hk (Nat.le_refl _),⟨_,rfl,?_⟩,HF.out.2.2.2⟩
 exact RegAt.keep hk.size (fun g hg hl=>⟨Nat.le_trans (by have:=HSZ.out;omega) (show W1.heap.size≤g from hg),hk.heap hl (fun e=>by have hg9:W1.heap.size≤g:=hg;have:=HSZ.out;omega)⟩) _ _ HF.out.2.2.1
theorem wp_new7 {P:Program} {Q:Exit→Act→World→Prop} {a:Act} {c:Code} {w:World} {T0 U:TypeId} {x0 x1 x2 x3 x4 x5 x6:List Value} (h:∀ W,Own W (w.heap.size) T0 x0→Own W (w.heap.size+1) T0 x1→Own W (w.heap.size+1+1) T0 x2→Own W (w.heap.size+1+1+1) T0 x3→Own W (w.heap.size+1+1+1+1) T0 x4→Own W (w.heap.size+1+1+1+1+1) T0 x5→Own W (w.heap.size+1+1+1+1+1+1) U x6→Below w.heap.size w W→c.wp P Q a W) :
 c.wp P Q a (((((((w.alloc (.cells x0.toArray T0)).alloc (.cells x1.toArray T0)).alloc (.cells x2.toArray T0)).alloc (.cells x3.toArray T0)).alloc (.cells x4.toArray T0)).alloc (.cells x5.toArray T0)).alloc (.cells x6.toArray U)):=by
 have h0:=Own.new w T0 x0
 have h1:=Own.new (w.alloc (.cells x0.toArray T0)) T0 x1
 rw [show (w.alloc (.cells x0.toArray T0)).heap.size=w.heap.size+1 by simp] at h1
 have h2:=Own.new ((w.alloc (.cells x0.toArray T0)).alloc (.cells x1.toArray T0)) T0 x2
 rw [show ((w.alloc (.cells x0.toArray T0)).alloc (.cells x1.toArray T0)).heap.size=w.heap.size+1+1 by simp] at h2
 have h3:=Own.new (((w.alloc (.cells x0.toArray T0)).alloc (.cells x1.toArray T0)).alloc (.cells x2.toArray T0)) T0 x3
 rw [show (((w.alloc (.cells x0.toArray T0)).alloc (.cells x1.toArray T0)).alloc (.cells x2.toArray T0)).heap.size=w.heap.size+1+1+1 by simp] at h3
 have h4:=Own.new ((((w.alloc (.cells x0.toArray T0)).alloc (.cells x1.toArray T0)).alloc (.cells x2.toArray T0)).alloc (.cells x3.toArray T0)) T0 x4
 rw [show ((((w.alloc (.cells x0.toArray T0)).alloc (.cells x1.toArray T0)).alloc (.cells x2.toArray T0)).alloc (.cells x3.toArray T0)).heap.size=w.heap.size+1+1+1+1 by simp] at h4
 have h5:=Own.new (((((w.alloc (.cells x0.toArray T0)).alloc (.cells x1.toArray T0)).alloc (.cells x2.toArray T0)).alloc (.cells x3.toArray T0)).alloc (.cells x4.toArray T0)) T0 x5
 rw [show (((((w.alloc (.cells x0.toArray T0)).alloc (.cells x1.toArray T0)).alloc (.cells x2.toArray T0)).alloc (.cells x3.toArray T0)).alloc (.cells x4.toArray T0)).heap.size=w.heap.size+1+1+1+1+1 by simp] at h5
 have h6:=Own.new ((((((w.alloc (.cells x0.toArray T0)).alloc (.cells x1.toArray T0)).alloc (.cells x2.toArray T0)).alloc (.cells x3.toArray T0)).alloc (.cells x4.toArray T0)).alloc (.cells x5.toArray T0)) U x6
 rw [show ((((((w.alloc (.cells x0.toArray T0)).alloc (.cells x1.toArray T0)).alloc (.cells x2.toArray T0)).alloc (.cells x3.toArray T0)).alloc (.cells x4.toArray T0)).alloc (.cells x5.toArray T0)).heap.size=w.heap.size+1+1+1+1+1+1 by simp] at h6
 exact h _ (((((((h0.alloc _).alloc _).alloc _).alloc _).alloc _).alloc _)) ((((((h1.alloc _).alloc _).alloc _).alloc _).alloc _)) (((((h2.alloc _).alloc _).alloc _).alloc _)) ((((h3.alloc _).alloc _).alloc _)) (((h4.alloc _).alloc _)) ((h5.alloc _)) h6 (by go_grown)
def ViewM (w:World) (e:Ending) (w':World):Prop:=∃ (k:Int) (o:List Int) (A:Option Addr) (c:Nat),e=.returned (.agg #[.int .i64 k,.slice A o.length c])∧Below w.heap.size w w'∧IntsAt w' (New w) A o∧o.length≤c∧c≤maxLen∧Qy.viewOK k o=true
theorem ints_of {w:World} {g:Nat} {t:TypeId} {l:List Int} {S:Nat→Prop} (h:Own w g t (l.map i64)) (hS:S g):IntsAt w S (some ⟨g,0,none⟩) l:=
 .inr ⟨g,0,rfl,hS,h.lt,fun i z hz=>by
  rw [Nat.zero_add,h.cell,List.getElem?_map,hz]
  rfl⟩
set_option maxRecDepth 100000 in
set_option maxHeartbeats 6400000 in
theorem View_any (n:Int) (hn:-9223372036854775808≤n∧n≤9223372036854775807) (w:World):Calls Tryz.prog 21 #[.int .i64 n] w (ViewM w):=by
 obtain ⟨a,ha⟩:∃ a,around n 1048576=a:=⟨_,rfl⟩
 have hb:=around_bd n (m:=1048576) (by omega)
 have HA:=Lib.hid fun u=>Around_any n 1048576 u (by omega) (by omega) (by omega) (by omega)
 rw [ha] at HA hb
 clear ha
 go_enter Tryz.func21,Tryz.ntmps21
 go_upto_region 1 with fail
 refine wp_new1 fun W0 hO hB=>?_
 go_wp2_with fail
 refine (HA.out _).mono ?_
 rintro e w1 ⟨rfl,k1⟩
 have hO1:=hO.on k1
 have hB1:=Below.call hB k1
 have hz1:=hO1.lt
 clear hO hB k1
 rcases (by omega:a % 5=0∨a % 5=1∨a % 5=2∨a % 5=3∨a % 5=4) with h5 | h5 | h5 | h5 | h5
 ·
  obtain ⟨hOp,hkp⟩:=hO1.put2' (x0:=.int .i64 0) (x1:=.slice (some ⟨w1.heap.size,0,none⟩) 1 1)
  have es:((w1.setCell ⟨w.heap.size,0,none⟩ (.int .i64 0)).setCell ⟨w.heap.size,1,none⟩ (.slice (some ⟨w1.heap.size,0,none⟩) 1 1)).heap.size=w1.heap.size:=by simp
  have hN:Own (((w1.setCell ⟨w.heap.size,0,none⟩ (.int .i64 0)).setCell ⟨w.heap.size,1,none⟩ (.slice (some ⟨w1.heap.size,0,none⟩) 1 1)).alloc (.cells #[.int .i64 (a / 5 % 3)] 3)) ((w1.setCell ⟨w.heap.size,0,none⟩ (.int .i64 0)).setCell ⟨w.heap.size,1,none⟩ (.slice (some ⟨w1.heap.size,0,none⟩) 1 1)).heap.size 3 ([a / 5 % 3].map i64):=Own.new ((w1.setCell ⟨w.heap.size,0,none⟩ (.int .i64 0)).setCell ⟨w.heap.size,1,none⟩ (.slice (some ⟨w1.heap.size,0,none⟩) 1 1)) 3 ([a / 5 % 3].map i64)
  rw [es] at hN
  have hO9:=hOp.alloc (.cells #[.int .i64 (a / 5 % 3)] 3)
  have hB9:=Below.call (below_put hB1 hkp (Nat.le_refl _)) (below_new _ (.cells #[.int .i64 (a / 5 % 3)] 3))
  have z0:=hO1.c0
  have z1:=hO1.c1
  have f0:=hO1.frozen 0
  have f1:=hO1.frozen 1
  have hvk:Qy.viewOK 0 [a / 5 % 3]=true:=by unfold Qy.viewOK;simp;omega
  have HF:=Lib.hid (And.intro hO9 (And.intro hB9 hN))
  clear hO1 hB1 hOp hkp es hN hO9 hB9
  go_wp2_with fail
  obtain ⟨hO9,hB9,hN⟩:=HF.out
  clear z0 z1 f0 f1 HF
  revert hO9 hB9 hN
  generalize World.alloc _ _=W9
  intro hO9 hB9 hN
  have q0:=hO9.c0
  have q1:=hO9.c1
  refine bodyPost_ret (v:=.agg #[.int .i64 0,.slice (some ⟨w1.heap.size,0,none⟩) 1 1]) (by simp [results,Tryz.results21,go_sem,q0,q1]) rfl ?_
  exact ⟨0,[a / 5 % 3],_,_,rfl,hB9,ints_of hN (show w.heap.size≤w1.heap.size by omega),by simp,by unfold maxLen;omega,hvk⟩
 ·
  obtain ⟨hOp,hkp⟩:=hO1.put2' (x0:=.int .i64 0) (x1:=.slice (some ⟨w1.heap.size,0,none⟩) 1 1)
  have es:((w1.setCell ⟨w.heap.size,0,none⟩ (.int .i64 0)).setCell ⟨w.heap.size,1,none⟩ (.slice (some ⟨w1.heap.size,0,none⟩) 1 1)).heap.size=w1.heap.size:=by simp
  have hN:Own (((w1.setCell ⟨w.heap.size,0,none⟩ (.int .i64 0)).setCell ⟨w.heap.size,1,none⟩ (.slice (some ⟨w1.heap.size,0,none⟩) 1 1)).alloc (.cells #[.int .i64 (a / 5 % 3)] 3)) ((w1.setCell ⟨w.heap.size,0,none⟩ (.int .i64 0)).setCell ⟨w.heap.size,1,none⟩ (.slice (some ⟨w1.heap.size,0,none⟩) 1 1)).heap.size 3 ([a / 5 % 3].map i64):=Own.new ((w1.setCell ⟨w.heap.size,0,none⟩ (.int .i64 0)).setCell ⟨w.heap.size,1,none⟩ (.slice (some ⟨w1.heap.size,0,none⟩) 1 1)) 3 ([a / 5 % 3].map i64)
  rw [es] at hN
  have hO9:=hOp.alloc (.cells #[.int .i64 (a / 5 % 3)] 3)
  have hB9:=Below.call (below_put hB1 hkp (Nat.le_refl _)) (below_new _ (.cells #[.int .i64 (a / 5 % 3)] 3))
  have z0:=hO1.c0
  have z1:=hO1.c1
  have f0:=hO1.frozen 0
  have f1:=hO1.frozen 1
  have hvk:Qy.viewOK 0 [a / 5 % 3]=true:=by unfold Qy.viewOK;simp;omega
  have HF:=Lib.hid (And.intro hO9 (And.intro hB9 hN))
  clear hO1 hB1 hOp hkp es hN hO9 hB9
  go_wp2_with fail
  obtain ⟨hO9,hB9,hN⟩:=HF.out
  clear z0 z1 f0 f1 HF
  revert hO9 hB9 hN
  generalize World.alloc _ _=W9
  intro hO9 hB9 hN
  have q0:=hO9.c0
  have q1:=hO9.c1
  refine bodyPost_ret (v:=.agg #[.int .i64 0,.slice (some ⟨w1.heap.size,0,none⟩) 1 1]) (by simp [results,Tryz.results21,go_sem,q0,q1]) rfl ?_
  exact ⟨0,[a / 5 % 3],_,_,rfl,hB9,ints_of hN (show w.heap.size≤w1.heap.size by omega),by simp,by unfold maxLen;omega,hvk⟩
 ·
  have hB2:=hB1
  have z0:=hO1.c0
  have z1:=hO1.c1
  have f0:=hO1.frozen 0
  have f1:=hO1.frozen 1
  have HF:=Lib.hid (And.intro hO1 (And.intro hB2 (show IntsAt w1 (fun g=>w.heap.size<g) none [] from .inl rfl)))
  clear hO1 hB2
  go_wp2_with fail
  obtain ⟨hO,hk⟩:=HF.out.1.put2' (x0:=.int .i64 2) (x1:=.slice none 0 0)
  clear z0 z1 f0 f1
  revert hO hk
  generalize ((World.setCell _ _ _).setCell _ _)=W9
  intro hO hk
  have q0:=hO.c0
  have q1:=hO.c1
  refine bodyPost_ret (v:=.agg #[.int .i64 2,.slice none 0 0]) (by simp [results,Tryz.results21,go_sem,q0,q1]) rfl ?_
  refine ⟨2,[],_,_,rfl,below_put HF.out.2.1 hk (Nat.le_refl _),?_,by simp,by unfold maxLen;omega,by decide⟩
  exact HF.out.2.2.keep hk.size fun g hg hl=>⟨Nat.le_of_lt hg,hk.heap hl (fun e=>by have hg9:w.heap.size<g:=hg;omega)⟩
 ·
  go_upto_region 9 with fail
  refine wp_new7 fun W3 h0 h1 h2 h3 h4 h5 hS kn=>?_
  have hO2:=hO1.on kn
  have hB2:=Below.call hB1 kn
  clear kn hO1 hB1
  rcases (by omega:a / 5 % 6=0∨a / 5 % 6=1∨a / 5 % 6=2∨a / 5 % 6=3∨a / 5 % 6=4∨a / 5 % 6=5) with h6 | h6 | h6 | h6 | h6 | h6
  ·
   have zs:=hS.cell 0
   have HI:=Lib.hid (ints_of (l:=[0,1]) (S:=fun g=>w.heap.size<g) h0 (by show w.heap.size<w1.heap.size;omega))
   clear h0 h1 h2 h3 h4 h5 hS
   have z0:=hO2.c0
   have z1:=hO2.c1
   have f0:=hO2.frozen 0
   have f1:=hO2.frozen 1
   have HF:=Lib.hid (And.intro hO2 (And.intro hB2 HI.out))
   clear hO2 hB2
   go_wp2_with fail
   obtain ⟨hO,hk⟩:=HF.out.1.put2' (x0:=.int .i64 1) (x1:=.slice (some ⟨w1.heap.size,0,none⟩) 2 2)
   clear z0 z1 f0 f1
   revert hO hk
   generalize ((World.setCell _ _ _).setCell _ _)=W9
   intro hO hk
   have q0:=hO.c0
   have q1:=hO.c1
   refine bodyPost_ret (v:=.agg #[.int .i64 1,.slice (some ⟨w1.heap.size,0,none⟩) 2 2]) (by simp [results,Tryz.results21,go_sem,q0,q1]) rfl ?_
   refine ⟨1,[0,1],_,_,rfl,below_put HF.out.2.1 hk (Nat.le_refl _),?_,by simp,by unfold maxLen;omega,by decide⟩
   exact HF.out.2.2.keep hk.size fun g hg hl=>⟨Nat.le_of_lt hg,hk.heap hl (fun e=>by have hg9:w.heap.size<g:=hg;omega)⟩
  ·
   have zs:=hS.cell 1
   have HI:=Lib.hid (ints_of (l:=[1,0]) (S:=fun g=>w.heap.size<g) h1 (by show w.heap.size<w1.heap.size+1;omega))
   clear h0 h1 h2 h3 h4 h5 hS
   have z0:=hO2.c0
   have z1:=hO2.c1
   have f0:=hO2.frozen 0
   have f1:=hO2.frozen 1
   have HF:=Lib.hid (And.intro hO2 (And.intro hB2 HI.out))
   clear hO2 hB2
   go_wp2_with fail
   obtain ⟨hO,hk⟩:=HF.out.1.put2' (x0:=.int .i64 1) (x1:=.slice (some ⟨w1.heap.size+1,0,none⟩) 2 2)
   clear z0 z1 f0 f1
   revert hO hk
   generalize ((World.setCell _ _ _).setCell _ _)=W9
   intro hO hk
   have q0:=hO.c0
   have q1:=hO.c1
   refine bodyPost_ret (v:=.agg #[.int .i64 1,.slice (some ⟨w1.heap.size+1,0,none⟩) 2 2]) (by simp [results,Tryz.results21,go_sem,q0,q1]) rfl ?_
   refine ⟨1,[1,0],_,_,rfl,below_put HF.out.2.1 hk (Nat.le_refl _),?_,by simp,by unfold maxLen;omega,by decide⟩
   exact HF.out.2.2.keep hk.size fun g hg hl=>⟨Nat.le_of_lt hg,hk.heap hl (fun e=>by have hg9:w.heap.size<g:=hg;omega)⟩
  ·
   have zs:=hS.cell 2
   have HI:=Lib.hid (ints_of (l:=[0,1,2]) (S:=fun g=>w.heap.size<g) h2 (by show w.heap.size<w1.heap.size+1+1;omega))
   clear h0 h1 h2 h3 h4 h5 hS
   have z0:=hO2.c0
   have z1:=hO2.c1
   have f0:=hO2.frozen 0
   have f1:=hO2.frozen 1
   have HF:=Lib.hid (And.intro hO2 (And.intro hB2 HI.out))
   clear hO2 hB2
   go_wp2_with fail
   obtain ⟨hO,hk⟩:=HF.out.1.put2' (x0:=.int .i64 1) (x1:=.slice (some ⟨w1.heap.size+1+1,0,none⟩) 3 3)
   clear z0 z1 f0 f1
   revert hO hk
   generalize ((World.setCell _ _ _).setCell _ _)=W9
   intro hO hk
   have q0:=hO.c0
   have q1:=hO.c1
   refine bodyPost_ret (v:=.agg #[.int .i64 1,.slice (some ⟨w1.heap.size+1+1,0,none⟩) 3 3]) (by simp [results,Tryz.results21,go_sem,q0,q1]) rfl ?_
   refine ⟨1,[0,1,2],_,_,rfl,below_put HF.out.2.1 hk (Nat.le_refl _),?_,by simp,by unfold maxLen;omega,by decide⟩
   exact HF.out.2.2.keep hk.size fun g hg hl=>⟨Nat.le_of_lt hg,hk.heap hl (fun e=>by have hg9:w.heap.size<g:=hg;omega)⟩
  ·
   have zs:=hS.cell 3
   have HI:=Lib.hid (ints_of (l:=[2,1,0]) (S:=fun g=>w.heap.size<g) h3 (by show w.heap.size<w1.heap.size+1+1+1;omega))
   clear h0 h1 h2 h3 h4 h5 hS
   have z0:=hO2.c0
   have z1:=hO2.c1
   have f0:=hO2.frozen 0
   have f1:=hO2.frozen 1
   have HF:=Lib.hid (And.intro hO2 (And.intro hB2 HI.out))
   clear hO2 hB2
   go_wp2_with fail
   obtain ⟨hO,hk⟩:=HF.out.1.put2' (x0:=.int .i64 1) (x1:=.slice (some ⟨w1.heap.size+1+1+1,0,none⟩) 3 3)
   clear z0 z1 f0 f1
   revert hO hk
   generalize ((World.setCell _ _ _).setCell _ _)=W9
   intro hO hk
   have q0:=hO.c0
   have q1:=hO.c1
   refine bodyPost_ret (v:=.agg #[.int .i64 1,.slice (some ⟨w1.heap.size+1+1+1,0,none⟩) 3 3]) (by simp [results,Tryz.results21,go_sem,q0,q1]) rfl ?_
   refine ⟨1,[2,1,0],_,_,rfl,below_put HF.out.2.1 hk (Nat.le_refl _),?_,by simp,by unfold maxLen;omega,by decide⟩
   exact HF.out.2.2.keep hk.size fun g hg hl=>⟨Nat.le_of_lt hg,hk.heap hl (fun e=>by have hg9:w.heap.size<g:=hg;omega)⟩
  ·
   have zs:=hS.cell 4
   have HI:=Lib.hid (ints_of (l:=[1]) (S:=fun g=>w.heap.size<g) h4 (by show w.heap.size<w1.heap.size+1+1+1+1;omega))
   clear h0 h1 h2 h3 h4 h5 hS
   have z0:=hO2.c0
   have z1:=hO2.c1
   have f0:=hO2.frozen 0
   have f1:=hO2.frozen 1
   have HF:=Lib.hid (And.intro hO2 (And.intro hB2 HI.out))
   clear hO2 hB2
   go_wp2_with fail
   obtain ⟨hO,hk⟩:=HF.out.1.put2' (x0:=.int .i64 1) (x1:=.slice (some ⟨w1.heap.size+1+1+1+1,0,none⟩) 1 1)
   clear z0 z1 f0 f1
   revert hO hk
   generalize ((World.setCell _ _ _).setCell _ _)=W9
   intro hO hk
   have q0:=hO.c0
   have q1:=hO.c1
   refine bodyPost_ret (v:=.agg #[.int .i64 1,.slice (some ⟨w1.heap.size+1+1+1+1,0,none⟩) 1 1]) (by simp [results,Tryz.results21,go_sem,q0,q1]) rfl ?_
   refine ⟨1,[1],_,_,rfl,below_put HF.out.2.1 hk (Nat.le_refl _),?_,by simp,by unfold maxLen;omega,by decide⟩
   exact HF.out.2.2.keep hk.size fun g hg hl=>⟨Nat.le_of_lt hg,hk.heap hl (fun e=>by have hg9:w.heap.size<g:=hg;omega)⟩
  ·
   have zs:=hS.cell 5
   have HI:=Lib.hid (ints_of (l:=[2,0]) (S:=fun g=>w.heap.size<g) h5 (by show w.heap.size<w1.heap.size+1+1+1+1+1;omega))
   clear h0 h1 h2 h3 h4 h5 hS
   have z0:=hO2.c0
   have z1:=hO2.c1
   have f0:=hO2.frozen 0
   have f1:=hO2.frozen 1
   have HF:=Lib.hid (And.intro hO2 (And.intro hB2 HI.out))
   clear hO2 hB2
   go_wp2_with fail
   obtain ⟨hO,hk⟩:=HF.out.1.put2' (x0:=.int .i64 1) (x1:=.slice (some ⟨w1.heap.size+1+1+1+1+1,0,none⟩) 2 2)
   clear z0 z1 f0 f1
   revert hO hk
   generalize ((World.setCell _ _ _).setCell _ _)=W9
   intro hO hk
   have q0:=hO.c0
   have q1:=hO.c1
   refine bodyPost_ret (v:=.agg #[.int .i64 1,.slice (some ⟨w1.heap.size+1+1+1+1+1,0,none⟩) 2 2]) (by simp [results,Tryz.results21,go_sem,q0,q1]) rfl ?_
   refine ⟨1,[2,0],_,_,rfl,below_put HF.out.2.1 hk (Nat.le_refl _),?_,by simp,by unfold maxLen;omega,by decide⟩
   exact HF.out.2.2.keep hk.size fun g hg hl=>⟨Nat.le_of_lt hg,hk.heap hl (fun e=>by have hg9:w.heap.size<g:=hg;omega)⟩
 ·
  go_upto_region 9 with fail
  refine wp_new7 fun W3 h0 h1 h2 h3 h4 h5 hS kn=>?_
  have hO2:=hO1.on kn
  have hB2:=Below.call hB1 kn
  clear kn hO1 hB1
  rcases (by omega:a / 5 % 6=0∨a / 5 % 6=1∨a / 5 % 6=2∨a / 5 % 6=3∨a / 5 % 6=4∨a / 5 % 6=5) with h6 | h6 | h6 | h6 | h6 | h6
  ·
   have zs:=hS.cell 0
   have HI:=Lib.hid (ints_of (l:=[0,1]) (S:=fun g=>w.heap.size<g) h0 (by show w.heap.size<w1.heap.size;omega))
   clear h0 h1 h2 h3 h4 h5 hS
   have z0:=hO2.c0
   have z1:=hO2.c1
   have f0:=hO2.frozen 0
   have f1:=hO2.frozen 1
   have HF:=Lib.hid (And.intro hO2 (And.intro hB2 HI.out))
   clear hO2 hB2
   go_wp2_with fail
   obtain ⟨hO,hk⟩:=HF.out.1.put2' (x0:=.int .i64 1) (x1:=.slice (some ⟨w1.heap.size,0,none⟩) 2 2)
   clear z0 z1 f0 f1
   revert hO hk
   generalize ((World.setCell _ _ _).setCell _ _)=W9
   intro hO hk
   have q0:=hO.c0
   have q1:=hO.c1
   refine bodyPost_ret (v:=.agg #[.int .i64 1,.slice (some ⟨w1.heap.size,0,none⟩) 2 2]) (by simp [results,Tryz.results21,go_sem,q0,q1]) rfl ?_
   refine ⟨1,[0,1],_,_,rfl,below_put HF.out.2.1 hk (Nat.le_refl _),?_,by simp,by unfold maxLen;omega,by decide⟩
   exact HF.out.2.2.keep hk.size fun g hg hl=>⟨Nat.le_of_lt hg,hk.heap hl (fun e=>by have hg9:w.heap.size<g:=hg;omega)⟩
  ·
   have zs:=hS.cell 1
   have HI:=Lib.hid (ints_of (l:=[1,0]) (S:=fun g=>w.heap.size<g) h1 (by show w.heap.size<w1.heap.size+1;omega))
   clear h0 h1 h2 h3 h4 h5 hS
   have z0:=hO2.c0
   have z1:=hO2.c1
   have f0:=hO2.frozen 0
   have f1:=hO2.frozen 1
   have HF:=Lib.hid (And.intro hO2 (And.intro hB2 HI.out))
   clear hO2 hB2
   go_wp2_with fail
   obtain ⟨hO,hk⟩:=HF.out.1.put2' (x0:=.int .i64 1) (x1:=.slice (some ⟨w1.heap.size+1,0,none⟩) 2 2)
   clear z0 z1 f0 f1
   revert hO hk
   generalize ((World.setCell _ _ _).setCell _ _)=W9
   intro hO hk
   have q0:=hO.c0
   have q1:=hO.c1
   refine bodyPost_ret (v:=.agg #[.int .i64 1,.slice (some ⟨w1.heap.size+1,0,none⟩) 2 2]) (by simp [results,Tryz.results21,go_sem,q0,q1]) rfl ?_
   refine ⟨1,[1,0],_,_,rfl,below_put HF.out.2.1 hk (Nat.le_refl _),?_,by simp,by unfold maxLen;omega,by decide⟩
   exact HF.out.2.2.keep hk.size fun g hg hl=>⟨Nat.le_of_lt hg,hk.heap hl (fun e=>by have hg9:w.heap.size<g:=hg;omega)⟩
  ·
   have zs:=hS.cell 2
   have HI:=Lib.hid (ints_of (l:=[0,1,2]) (S:=fun g=>w.heap.size<g) h2 (by show w.heap.size<w1.heap.size+1+1;omega))
   clear h0 h1 h2 h3 h4 h5 hS
   have z0:=hO2.c0
   have z1:=hO2.c1
   have f0:=hO2.frozen 0
   have f1:=hO2.frozen 1
   have HF:=Lib.hid (And.intro hO2 (And.intro hB2 HI.out))
   clear hO2 hB2
   go_wp2_with fail
   obtain ⟨hO,hk⟩:=HF.out.1.put2' (x0:=.int .i64 1) (x1:=.slice (some ⟨w1.heap.size+1+1,0,none⟩) 3 3)
   clear z0 z1 f0 f1
   revert hO hk
   generalize ((World.setCell _ _ _).setCell _ _)=W9
   intro hO hk
   have q0:=hO.c0
   have q1:=hO.c1
   refine bodyPost_ret (v:=.agg #[.int .i64 1,.slice (some ⟨w1.heap.size+1+1,0,none⟩) 3 3]) (by simp [results,Tryz.results21,go_sem,q0,q1]) rfl ?_
   refine ⟨1,[0,1,2],_,_,rfl,below_put HF.out.2.1 hk (Nat.le_refl _),?_,by simp,by unfold maxLen;omega,by decide⟩
   exact HF.out.2.2.keep hk.size fun g hg hl=>⟨Nat.le_of_lt hg,hk.heap hl (fun e=>by have hg9:w.heap.size<g:=hg;omega)⟩
  ·
   have zs:=hS.cell 3
   have HI:=Lib.hid (ints_of (l:=[2,1,0]) (S:=fun g=>w.heap.size<g) h3 (by show w.heap.size<w1.heap.size+1+1+1;omega))
   clear h0 h1 h2 h3 h4 h5 hS
   have z0:=hO2.c0
   have z1:=hO2.c1
   have f0:=hO2.frozen 0
   have f1:=hO2.frozen 1
   have HF:=Lib.hid (And.intro hO2 (And.intro hB2 HI.out))
   clear hO2 hB2
   go_wp2_with fail
   obtain ⟨hO,hk⟩:=HF.out.1.put2' (x0:=.int .i64 1) (x1:=.slice (some ⟨w1.heap.size+1+1+1,0,none⟩) 3 3)
   clear z0 z1 f0 f1
   revert hO hk
   generalize ((World.setCell _ _ _).setCell _ _)=W9
   intro hO hk
   have q0:=hO.c0
   have q1:=hO.c1
   refine bodyPost_ret (v:=.agg #[.int .i64 1,.slice (some ⟨w1.heap.size+1+1+1,0,none⟩) 3 3]) (by simp [results,Tryz.results21,go_sem,q0,q1]) rfl ?_
   refine ⟨1,[2,1,0],_,_,rfl,below_put HF.out.2.1 hk (Nat.le_refl _),?_,by simp,by unfold maxLen;omega,by decide⟩
   exact HF.out.2.2.keep hk.size fun g hg hl=>⟨Nat.le_of_lt hg,hk.heap hl (fun e=>by have hg9:w.heap.size<g:=hg;omega)⟩
  ·
   have zs:=hS.cell 4
   have HI:=Lib.hid (ints_of (l:=[1]) (S:=fun g=>w.heap.size<g) h4 (by show w.heap.size<w1.heap.size+1+1+1+1;omega))
   clear h0 h1 h2 h3 h4 h5 hS
   have z0:=hO2.c0
   have z1:=hO2.c1
   have f0:=hO2.frozen 0
   have f1:=hO2.frozen 1
   have HF:=Lib.hid (And.intro hO2 (And.intro hB2 HI.out))
   clear hO2 hB2
   go_wp2_with fail
   obtain ⟨hO,hk⟩:=HF.out.1.put2' (x0:=.int .i64 1) (x1:=.slice (some ⟨w1.heap.size+1+1+1+1,0,none⟩) 1 1)
   clear z0 z1 f0 f1
   revert hO hk
   generalize ((World.setCell _ _ _).setCell _ _)=W9
   intro hO hk
   have q0:=hO.c0
   have q1:=hO.c1
   refine bodyPost_ret (v:=.agg #[.int .i64 1,.slice (some ⟨w1.heap.size+1+1+1+1,0,none⟩) 1 1]) (by simp [results,Tryz.results21,go_sem,q0,q1]) rfl ?_
   refine ⟨1,[1],_,_,rfl,below_put HF.out.2.1 hk (Nat.le_refl _),?_,by simp,by unfold maxLen;omega,by decide⟩
   exact HF.out.2.2.keep hk.size fun g hg hl=>⟨Nat.le_of_lt hg,hk.heap hl (fun e=>by have hg9:w.heap.size<g:=hg;omega)⟩
  ·
   have zs:=hS.cell 5
   have HI:=Lib.hid (ints_of (l:=[2,0]) (S:=fun g=>w.heap.size<g) h5 (by show w.heap.size<w1.heap.size+1+1+1+1+1;omega))
   clear h0 h1 h2 h3 h4 h5 hS
   have z0:=hO2.c0
   have z1:=hO2.c1
   have f0:=hO2.frozen 0
   have f1:=hO2.frozen 1
   have HF:=Lib.hid (And.intro hO2 (And.intro hB2 HI.out))
   clear hO2 hB2
   go_wp2_with fail
   obtain ⟨hO,hk⟩:=HF.out.1.put2' (x0:=.int .i64 1) (x1:=.slice (some ⟨w1.heap.size+1+1+1+1+1,0,none⟩) 2 2)
   clear z0 z1 f0 f1
   revert hO hk
   generalize ((World.setCell _ _ _).setCell _ _)=W9
   intro hO hk
   have q0:=hO.c0
   have q1:=hO.c1
   refine bodyPost_ret (v:=.agg #[.int .i64 1,.slice (some ⟨w1.heap.size+1+1+1+1+1,0,none⟩) 2 2]) (by simp [results,Tryz.results21,go_sem,q0,q1]) rfl ?_
   refine ⟨1,[2,0],_,_,rfl,below_put HF.out.2.1 hk (Nat.le_refl _),?_,by simp,by unfold maxLen;omega,by decide⟩
   exact HF.out.2.2.keep hk.size fun g hg hl=>⟨Nat.le_of_lt hg,hk.heap hl (fun e=>by have hg9:w.heap.size<g:=hg;omega)⟩
def GoodQ (q:Qy.Qry):Prop:=(∃ y,Qy.MadeP 5 0 q.reg y)∧(0≤q.kind∧q.kind≤255)∧(0≤q.day∧q.day≤73048)∧(0≤q.scale∧q.scale≤23)∧Qy.viewOK q.vkind q.offs=true
set_option maxRecDepth 100000 in
set_option maxHeartbeats 6400000 in
theorem Some_any {w:World} {A:Option Addr} {l:List Int} {c:Nat} (h:IntsIs w A l c) :
 Calls Tryz.prog 8 #[.slice A l.length c] w fun e w'=>∃ (q:Qy.Qry) (v:Value),e=.returned v∧Below w.heap.size w w'∧qryV w q v w'∧GoodQ q:=by
 obtain ⟨pk,hpk⟩:∃ x,pick l 0 256=x:=⟨_,rfl⟩
 obtain ⟨pd,hpd⟩:∃ x,pick l 1 73049=x:=⟨_,rfl⟩
 obtain ⟨ps,hps⟩:∃ x,pick l 2 24=x:=⟨_,rfl⟩
 obtain ⟨pv,hpv⟩:∃ x,pick l 3 1048576=x:=⟨_,rfl⟩
 have b0:=pick_bd l 0 (m:=256) (by omega)
 have b1:=pick_bd l 1 (m:=73049) (by omega)
 have b2:=pick_bd l 2 (m:=24) (by omega)
 have b3:=pick_bd l 3 (m:=1048576) (by omega)
 rw [hpk] at b0
 rw [hpd] at b1
 rw [hps] at b2
 rw [hpv] at b3
 have HB:=Lib.hid (And.intro b0 (And.intro b1 b2))
 have HM:Hid (∀ u,Below w.heap.size w u→Calls Tryz.prog 31 #[.slice A l.length c,.int .i64 5] u fun e w'=>∃ (R:Qy.Reg) (y:Nat) (v:Value),e=.returned v∧Below u.heap.size u w'∧regV u R v w'∧Qy.MadeP 5 0 R y):=Lib.hid fun u k=>Made_any (h.on k) 5 (by omega) (by omega)
 have HP0:Hid (∀ u,Below w.heap.size w u→Calls Tryz.prog 32 #[.slice A l.length c,.int .i64 0,.int .i64 256] u (RetInt u pk)):=Lib.hid fun u k=>hpk▸Pick_any (h.on k) 0 256 (by omega) (by omega)
 have HP1:Hid (∀ u,Below w.heap.size w u→Calls Tryz.prog 32 #[.slice A l.length c,.int .i64 1,.int .i64 73049] u (RetInt u pd)):=Lib.hid fun u k=>hpd▸Pick_any (h.on k) 1 73049 (by omega) (by omega)
 have HP2:Hid (∀ u,Below w.heap.size w u→Calls Tryz.prog 32 #[.slice A l.length c,.int .i64 2,.int .i64 24] u (RetInt u ps)):=Lib.hid fun u k=>hps▸Pick_any (h.on k) 2 24 (by omega) (by omega)
 have HP3:Hid (∀ u,Below w.heap.size w u→Calls Tryz.prog 32 #[.slice A l.length c,.int .i64 3,.int .i64 1048576] u (RetInt u pv)):=Lib.hid fun u k=>hpv▸Pick_any (h.on k) 3 1048576 (by omega) (by omega)
 have HV:=Lib.hid fun u=>View_any pv (by omega) u
 obtain ⟨L,hL⟩:∃ L,l.length=L:=⟨_,rfl⟩
 rw [hL] at HM HP0 HP1 HP2 HP3
 rw [hL]
 clear hpk hpd hps hpv b0 b1 b2 b3 h hL
 go_enter Tryz.func8,Tryz.ntmps8
 go_upto_region 1 with fail
 refine wp_new1 fun W0 hO hB0=>?_
 go_wp2_with fail
 refine (HM.out _ hB0).mono ?_
 rintro e w1 ⟨R,y,v,rfl,k1,hu,hmp⟩
 obtain ⟨n0,s1,n2,n3,n4,n5,n6,n7,A8,l8,c8,rfl,hR1,_⟩:=hu.lit
 have hB1:=Below.call hB0 k1
 go_wp2_with fail
 refine (HP0.out _ hB1).mono ?_
 rintro e w2 ⟨rfl,k2⟩
 have hB2:=Below.call hB1 k2
 go_wp2_with fail
 refine (HP1.out _ hB2).mono ?_
 rintro e w3 ⟨rfl,k3⟩
 have hB3:=Below.call hB2 k3
 go_wp2_with fail
 refine (HP2.out _ hB3).mono ?_
 rintro e w4 ⟨rfl,k4⟩
 have hB4:=Below.call hB3 k4
 have k14:=Below.call (Below.call k2 (by simpa using k3)) k4
 go_upto_region 2 with fail
 refine wp_new1 fun W5 hQ kn=>?_
 obtain ⟨g3,hg3⟩:∃ g,w4.heap.size=g:=⟨_,rfl⟩
 rw [hg3] at hQ ⊢
 have hB5:=Below.call hB4 kn
 have k15:=Below.call k14 kn
 have kk:=Below.call k1 k15
 have hO5:=hO.on kk
 have hzw:=hO.lt
 have hz14:=k14.size
 have hR5:=RegAt.keep (S':=fun g=>w.heap.size<g∧g<g3) k15.size (fun g hg hl=>⟨⟨Nat.lt_of_lt_of_le hzw hg,by omega⟩,k15.block g hl⟩) _ _ hR1
 have hg23:w.heap.size<g3:=by have:=(hO.on (Below.call k1 k14)).lt;omega
 have HS:=Lib.hid (And.intro hR5 hmp)
 clear hB0 hB1 hB2 hB3 hB4 k1 k2 k3 k4 k14 k15 kk kn hO hR1 hu hmp hg3
 go_wp2_with fail
 refine (HP3.out _ hB5).mono ?_
 rintro e w6 ⟨rfl,k6⟩
 have hB6:=Below.call hB5 k6
 have hQ6:=hQ.on k6
 have hO6:=hO5.on k6
 have HR6:=Lib.hid (HS.out.1.on k6)
 clear hB5 k6 hQ hO5
 go_wp2_with fail
 refine (HV.out _).mono ?_
 rintro e w7 ⟨vk,vo,vA,vc,rfl,k7,hI,hv1,hv2,hvk⟩
 have hB7:=Below.call hB6 k7
 have hQ7:=hQ6.on k7
 have hO7:=hO6.on k7
 have HR7:=Lib.hid (HR6.out.on k7)
 have hz6:=hQ6.lt
 have HV7:=Lib.hid (And.intro hI (And.intro hv1 (And.intro hv2 hvk)))
 clear hB6 hQ6 hO6 k7 hI hv1 hv2 hvk
 have z0:=hQ7.cell 10
 have f0:=hQ7.frozen 10
 have z1:=hQ7.cell 11
 have f1:=hQ7.frozen 11
 go_upto_region 3 with fail
 clear z0 f0 z1 f1
 have hk:=(At1.set_ (r:=g3) w7 (p:=⟨g3,10,none⟩) rfl (.int .i64 vk)).trans (At1.set_ _ (p:=⟨g3,11,none⟩) rfl (.slice vA vo.length vc))
 have hQ8:=(hQ7.set_ 10 (.int .i64 vk)).set_ 11 (.slice vA vo.length vc)
 have hO8:=hO7.at1 hk (Nat.ne_of_lt hg23)
 have hB8:=below_put hB7 hk (Nat.le_of_lt hg23)
 have hgw:=hQ7.lt
 clear hQ7 hO7 hB7
 revert hk hQ8 hO8 hB8
 generalize ((World.setCell _ _ _).setCell _ _)=W8
 intro hk hQ8 hO8 hB8
 have hQ:Own W8 g3 36 [.int .i64 pk,.int .i64 n0,.string s1,.int .i64 n2,.int .i64 n3,.int .i64 n4,.int .i64 n5,.int .i64 n6,.int .i64 n7,.slice A8 l8 c8,.int .i64 vk,.slice vA vo.length vc,.int .i64 pd,.int .i64 ps]:=hQ8
 obtain ⟨⟨y0,y1,y2,y3,y4,y5,y6,y7,y8,y9,y10,y11,y12,y13⟩,_⟩:=hQ.all14
 obtain ⟨⟨z0,z1,z2,z3,z4,z5,z6,z7,z8,z9,z10,z11,z12,z13⟩,f0,f1,f2,f3,f4,f5,f6,f7,f8,f9,f10,f11,f12,f13⟩:=hO8.all14
 have HF:=Lib.hid (And.intro hO8 (And.intro hB8 hk))
 clear hQ hQ8 hO8 hB8 hk
 go_wp2_with fail
 obtain ⟨hO,hk9⟩:=HF.out.1.put14 (x0:=.int .i64 pk) (x1:=.int .i64 n0) (x2:=.string s1) (x3:=.int .i64 n2) (x4:=.int .i64 n3) (x5:=.int .i64 n4) (x6:=.int .i64 n5) (x7:=.int .i64 n6) (x8:=.int .i64 n7) (x9:=.slice A8 l8 c8) (x10:=.int .i64 vk) (x11:=.slice vA vo.length vc) (x12:=.int .i64 pd) (x13:=.int .i64 ps)
 clear z0 z1 z2 z3 z4 z5 z6 z7 z8 z9 z10 z11 z12 z13 f0 f1 f2 f3 f4 f5 f6 f7 f8 f9 f10 f11 f12 f13 y0 y1 y2 y3 y4 y5 y6 y7 y8 y9 y10 y11 y12 y13
 revert hO hk9
 generalize (((((((((((((World.setCell _ _ _).setCell _ _).setCell _ _).setCell _ _).setCell _ _).setCell _ _).setCell _ _).setCell _ _).setCell _ _).setCell _ _).setCell _ _).setCell _ _).setCell _ _).setCell _ _=W9
 intro hO hk9
 obtain ⟨⟨q0,q1,q2,q3,q4,q5,q6,q7,q8,q9,q10,q11,q12,q13⟩,_⟩:=hO.all14
 refine bodyPost_ret (v:=.agg #[.int .i64 pk,.int .i64 n0,.string s1,.int .i64 n2,.int .i64 n3,.int .i64 n4,.int .i64 n5,.int .i64 n6,.int .i64 n7,.slice A8 l8 c8,.int .i64 vk,.slice vA vo.length vc,.int .i64 pd,.int .i64 ps]) (by simp [results,Tryz.results8,go_sem,q0,q1,q2,q3,q4,q5,q6,q7,q8,q9,q10,q11,q12,q13]) rfl ?_
 refine ⟨⟨pk,R,vk,vo,pd,ps⟩,_,rfl,below_put HF.out.2.1 hk9 (Nat.le_refl _),⟨[.int .i64 n0,.string s1,.int .i64 n2,.int .i64 n3,.int .i64 n4,.int .i64 n5,.int .i64 n6,.int .i64 n7,.slice A8 l8 c8],vA,vc,rfl,rfl,?_,?_,HV7.out.2.1,HV7.out.2.2.1⟩,⟨y,HS.out.2⟩,⟨HB.out.1.1,by have:=HB.out.1.2;show pk≤255;omega⟩,⟨HB.out.2.1.1,by have:=HB.out.2.1.2;show pd≤73048;omega⟩,⟨HB.out.2.2.1,by have:=HB.out.2.2.2;show ps≤23;omega⟩,HV7.out.2.2.2⟩
 ·have h8:=RegAt.keep (S':=fun g=>w.heap.size<g∧g<g3) HF.out.2.2.size (fun g hg hl=>⟨hg,HF.out.2.2.heap hl (Nat.ne_of_lt hg.2)⟩) _ _ HR7.out
  exact RegAt.keep hk9.size (fun g hg hl=>⟨Nat.le_of_lt hg.1,hk9.heap hl (Nat.ne_of_gt hg.1)⟩) _ _ h8
 ·have h8:=HV7.out.1.keep (S':=fun g=>w6.heap.size≤g) HF.out.2.2.size (fun g hg hl=>⟨hg,HF.out.2.2.heap hl (fun e=>by have hg9:w6.heap.size≤g:=hg;omega)⟩)
  exact h8.keep hk9.size (fun g hg hl=>⟨by have hg9:w6.heap.size≤g:=hg;show w.heap.size≤g;omega,hk9.heap hl (fun e=>by have hg9:w6.heap.size≤g:=hg;omega)⟩)
end Go.Proofs.YtmlpibdincfgbaaGreatDoor
namespace Go.Proofs.YtmlpibdincfgbaaGreatDoor
open Go.RowKit
set_option linter.unusedSimpArgs false
set_option linter.unusedVariables false
theorem goodV_pt (x y:Int):goodV x y=if Qy.ptOK x y=true then 0 else 5:=by unfold goodV goodC Qy.ptOK;simp [Bool.and_assoc]
theorem fine_parts {k:Int} {nm:Qy.Bs} {ax ay b0 b1 b2 b3:Int} {kids:List Qy.Reg} (h:Qy.nodeE (.mk k nm ax ay b0 b1 b2 b3 kids)=0) :
 (0≤k∧k≤6)∧(k<4→kids=[])∧(k=6→kids.length=1)∧(k≠1→nm=[])∧(k≠2→ax=0∧ay=0)∧(k≠3→b0=0∧b1=0∧b2=0∧b3=0)∧(k=1→Qy.nameOK nm=true)∧Qy.ptOK ax ay=true∧Qy.boxOK b0 b1 b2 b3=true∧∀ r∈kids,Qy.nodeE r=0:=by
 rw [Qy.nodeE] at h
 split at h
 ·cases h
 rename_i h1
 split at h
 ·cases h
 rename_i h2
 split at h
 ·cases h
 rename_i h3
 split at h
 ·cases h
 rename_i h4
 simp only [not_or] at h1 h2 h4
 obtain ⟨h11,h12,h13,h14⟩:=h1
 obtain ⟨h21,h22,h23⟩:=h2
 refine ⟨⟨by omega,by omega⟩,fun e=>Classical.byContradiction fun x=>h13 ⟨e,x⟩,fun e=>Classical.byContradiction fun x=>h14 ⟨e,x⟩,fun e=>Classical.byContradiction fun x=>h21 ⟨e,x⟩,fun e=>Classical.byContradiction fun x=>h22 ⟨e,x⟩,fun e=>Classical.byContradiction fun x=>h23 ⟨e,x⟩,fun e=>?_,?_,?_,Qy.nodesE_of h⟩
 ·cases hx:Qy.nameOK nm
  ·exact absurd ⟨e,hx⟩ h3
  ·rfl
 ·cases hx:Qy.ptOK ax ay
  ·exact absurd hx h4.1
  ·rfl
 ·cases hx:Qy.boxOK b0 b1 b2 b3
  ·exact absurd hx h4.2
  ·rfl
set_option maxRecDepth 100000 in
theorem coords_any (x y:Int) (hx:in64 x) (hy:in64 y) (w:World):Calls Tryz.prog 61 #[.agg #[.int .i64 x,.int .i64 y]] w (TxtPost w (Qy.coordsT x y)):=by
 obtain ⟨tx,htx⟩:∃ t:ByteArray,t=⟨(Lib.itoa x).toArray⟩:=⟨_,rfl⟩
 obtain ⟨ty,hty⟩:∃ t:ByteArray,t=⟨(Lib.itoa y).toArray⟩:=⟨_,rfl⟩
 have HDx:Hid (∀ u,Calls Tryz.prog 29 #[.int .i64 x] u fun e w'=>e=.returned (.string tx)∧Below u.heap.size u w'):=Lib.hid fun u=>htx▸Decimal_any x u hx.1 hx.2
 have HDy:Hid (∀ u,Calls Tryz.prog 29 #[.int .i64 y] u fun e w'=>e=.returned (.string ty)∧Below u.heap.size u w'):=Lib.hid fun u=>hty▸Decimal_any y u hy.1 hy.2
 have hend:tx++⟨#[44]⟩++ty=⟨(Qy.coordsT x y).toArray⟩:=str_eq (by rw [str_cat,str_cat,htx,hty];simp [Qy.coordsT])
 have HE:=Lib.hid hend
 have hsx:tx.size≤20:=by rw [htx,str_size (l:=Lib.itoa x) (by simp)];exact Qy.itoa_len64 x hx.1 hx.2
 have hsy:ty.size≤20:=by rw [hty,str_size (l:=Lib.itoa y) (by simp)];exact Qy.itoa_len64 y hy.1 hy.2
 have hs1:¬ 9223372036854775807<tx.size+1:=by omega
 have hs2:¬ 9223372036854775807<tx.size+1+ty.size:=by omega
 clear htx hty hend
 go_enter Tryz.func61,Tryz.ntmps61
 go_upto_region 1 with fail
 refine wp_new1 fun W0 hO hB=>?_
 refine wp_region_specs W0 [Spec.eq (.pointer (some ⟨w.heap.size,0,none⟩)),Spec.eq (.int .i64 x),Spec.eq (.string tx),Spec.eq (.string (tx++⟨#[44]⟩)),Spec.eq (.pointer (some ⟨w.heap.size,1,none⟩)),Spec.eq (.int .i64 y),Spec.eq (.string ty),Spec.eq (.string (tx++⟨#[44]⟩++ty)),Spec.eq (.string (tx++⟨#[44]⟩++ty))]
  (by kernel_rfl) (by kernel_rfl) rfl (by kernel_rfl) (Below.drew (Below.refl _ _)) ?_ ?_
 ·
  refine RegSteps.cons ?_ ?_
  ·intro _ az wz hC hF hD _ K hK
   have q1:az.tmps[1]?=some (.pointer (some ⟨w.heap.size,0,none⟩)):=hF 1 rfl
   clear hF hD
   refine want_none rfl ?_
   go_simp
   exact hK _ _ hC (Below.refl _ _) rfl
  refine RegSteps.cons ?_ ?_
  ·intro _ az wz hC hF hD _ K hK
   obtain ⟨_,q3,rfl⟩:=dep hD 0 rfl rfl rfl rfl
   obtain ⟨z0,z1,_⟩:=(hO.on hC).all2
   clear hF hD
   refine want_none rfl ?_
   go_simp
   exact hK _ _ hC (Below.refl _ _) rfl
  refine RegSteps.cons ?_ ?_
  ·intro _ az wz hC hF hD _ K hK
   obtain ⟨_,q4,rfl⟩:=dep hD 1 rfl rfl rfl rfl
   clear hF hD
   refine want_none rfl ?_
   go_simp
   refine (HDx.out _).mono ?_
   rintro e wy ⟨rfl,k⟩
   exact hK _ _ (Below.call hC k) k rfl
  refine RegSteps.cons ?_ ?_
  ·intro _ az wz hC hF hD _ K hK
   obtain ⟨_,q5,rfl⟩:=dep hD 2 rfl rfl rfl rfl
   clear hF hD
   refine want_none rfl ?_
   go_simp
   try go_ints
   exact hK _ _ hC (Below.refl _ _) rfl
  refine RegSteps.cons ?_ ?_
  ·intro _ az wz hC hF hD _ K hK
   have q1:az.tmps[1]?=some (.pointer (some ⟨w.heap.size,0,none⟩)):=hF 1 rfl
   clear hF hD
   refine want_none rfl ?_
   go_simp
   exact hK _ _ hC (Below.refl _ _) rfl
  refine RegSteps.cons ?_ ?_
  ·intro _ az wz hC hF hD _ K hK
   obtain ⟨_,q7,rfl⟩:=dep hD 4 rfl rfl rfl rfl
   obtain ⟨z0,z1,_⟩:=(hO.on hC).all2
   clear hF hD
   refine want_none rfl ?_
   go_simp
   exact hK _ _ hC (Below.refl _ _) rfl
  refine RegSteps.cons ?_ ?_
  ·intro _ az wz hC hF hD _ K hK
   obtain ⟨_,q8,rfl⟩:=dep hD 5 rfl rfl rfl rfl
   clear hF hD
   refine want_none rfl ?_
   go_simp
   refine (HDy.out _).mono ?_
   rintro e wy ⟨rfl,k⟩
   exact hK _ _ (Below.call hC k) k rfl
  refine RegSteps.cons ?_ ?_
  ·intro _ az wz hC hF hD _ K hK
   obtain ⟨_,q6,rfl⟩:=dep hD 3 rfl rfl rfl rfl
   obtain ⟨_,q9,rfl⟩:=dep hD 6 rfl rfl rfl rfl
   clear hF hD
   refine want_none rfl ?_
   go_simp
   try go_ints
   exact hK _ _ hC (Below.refl _ _) rfl
  refine RegSteps.cons ?_ ?_
  ·intro _ az wz hC hF hD _ K hK
   obtain ⟨_,q10,rfl⟩:=dep hD 7 rfl rfl rfl rfl
   clear hF hD
   refine want_none rfl ?_
   go_simp
   exact hK _ _ hC (Below.refl _ _) rfl
  exact RegSteps.nil
 intro w2 hC2
 rintro _ rfl _ rfl _ rfl _ rfl _ rfl _ rfl _ rfl _ rfl _ rfl
 simp only [FinOK,Act.put,List.setIfInBounds_toArray,List.set_cons_zero,List.set_cons_succ]
 have HB:=Lib.hid (Below.call hB hC2)
 clear hB hC2 hO
 go_wp2
 go_returns
 exact ⟨by rw [← HE.out];simp,HB.out⟩
end Go.Proofs.YtmlpibdincfgbaaGreatDoor
namespace Go.Proofs.YtmlpibdincfgbaaGreatDoor
open Go.RowKit
set_option linter.unusedSimpArgs false
set_option linter.unusedVariables false
theorem lsz (l:List UInt8):(⟨l.toArray⟩:ByteArray).size=l.length:=by simp [ByteArray.size]
theorem txt_cat (a b:Qy.Bs):(⟨a.toArray⟩:ByteArray)++⟨b.toArray⟩=⟨(a++b).toArray⟩:=str_eq (by rw [str_cat])
theorem ptOK_in {x y:Int} (h:Qy.ptOK x y=true):in64 x∧in64 y:=by
 unfold Qy.ptOK at h
 simp only [Bool.and_eq_true,decide_eq_true_eq] at h
 unfold in64
 omega
theorem boxOK_in {a b c d:Int} (h:Qy.boxOK a b c d=true):Qy.ptOK a b=true∧Qy.ptOK c d=true:=by
 unfold Qy.boxOK at h
 simp only [Bool.and_eq_true] at h
 exact ⟨h.1.1.1,h.1.1.2⟩
theorem join_take {w:Qy.Bs} {l:List Qy.Reg} {i:Nat} {R:Qy.Reg} (h:l[i]?=some R) (b:Bool) :
 Qy.join w (Qy.texts (l.take (i+1)) b)=if i=0 then Qy.text R b else Qy.join w (Qy.texts (l.take i) b)++(w++Qy.text R b):=by
 have hl:=(List.getElem?_eq_some_iff.1 h).1
 rw [List.take_add_one,h]
 show Qy.join w (Qy.texts (l.take i++[R]) b)=_
 rw [Qy.texts_append]
 show Qy.join w (Qy.texts (l.take i) b++Qy.texts [R] b)=_
 rw [show Qy.texts [R] b=[Qy.text R b] by rw [Qy.texts,Qy.texts],Qy.join_snoc]
 have hn:(Qy.texts (l.take i) b=[])↔i=0:=by
  rw [← List.length_eq_zero_iff,Qy.texts_len,List.length_take]
  omega
 by_cases h0:i=0
 ·rw [if_pos (hn.2 h0),if_pos h0]
 ·rw [if_neg (fun e=>h0 (hn.1 e)),if_neg h0]
theorem join_le {w:Qy.Bs} (hw:w.length≤5) {l:List Qy.Reg} (hE:∀ r∈l,Qy.nodeE r=0) (i:Nat) (b:Bool):(Qy.join w (Qy.texts (l.take i) b)).length≤65 * Qy.nodesL l:=by
 have h1:=Qy.join_len w hw (Qy.texts (l.take i) b) _ (Qy.texts_len1 (l.take i) (fun r hr=>hE r (List.mem_of_mem_take hr)) b)
 have h2:=Qy.nodesL_take_le l i
 omega
theorem nodes_in {l:List Qy.Reg} {R:Qy.Reg} (h:R∈l):Qy.nodes R≤Qy.nodesL l:=by
 have:=Qy.nodes_kid (k:=0) (nm:=[]) (ax:=0) (ay:=0) (b0:=0) (b1:=0) (b2:=0) (b3:=0) h
 rw [Qy.nodes] at this
 omega
set_option maxRecDepth 100000 in
set_option maxHeartbeats 6400000 in
theorem rText_ok:∀ (n:Nat) (R:Qy.Reg),Qy.nodes R≤n→n≤1000000→Qy.nodeE R=0→∀ (item:Bool) (v:Value) (w:World),IsReg w R v→Calls Tryz.prog 30 #[v,.bool item] w (TxtPost w (Qy.text R item)):=by
 intro n
 induction n with
 | zero=>intro R h;have:=Qy.nodes_pos R;omega
 | succ n ih=>
  intro R hn hN hE item v w hv
  obtain ⟨cs,rfl,hR⟩:=hv
  obtain ⟨k,nm,ax,ay,b0,b1,b2,b3,kids⟩:=R
  obtain ⟨hk,e1,e2,e3,e4,e5,e6,hpt,hbx,hkE⟩:=fine_parts hE
  rw [RegAt] at hR
  obtain ⟨A,c,rfl,hK⟩:=hR
  have hnn:Qy.nodesL kids≤n:=by rw [Qy.nodes] at hn;omega
  have HIH:Hid (∀ R∈kids,∀ (item:Bool) (v:Value) (w:World),IsReg w R v→Calls Tryz.prog 30 #[v,.bool item] w fun e w'=>∃ t:ByteArray,t=⟨(Qy.text R item).toArray⟩∧t.size≤65000000∧e=.returned (.string t)∧Below w.heap.size w w'):=Lib.hid fun R hR item v w h=>by
   have hl:=Qy.text_len R item (hkE R hR)
   have hm:=nodes_in hR
   exact (ih R (by omega) (by omega) (hkE R hR) item v w h).mono fun e w' ⟨h1,h2⟩=>⟨_,rfl,by rw [lsz];omega,h1,h2⟩
  obtain ⟨T,hT⟩:∃ T,Qy.text (.mk k nm ax ay b0 b1 b2 b3 kids) item=T:=⟨_,rfl⟩
  rw [hT]
  rw [Qy.text] at hT
  obtain ⟨m,hm⟩:∃ m,kids.length=m:=⟨_,rfl⟩
  have HM:=Lib.hid hm
  rw [hm] at e2 hT ⊢
  have hmb:m≤1000000:=by have:=Qy.len_nodesL kids;omega
  have HT:=Lib.hid hT
  have HK:=Lib.hid hK
  have HKE:=Lib.hid hkE
  have HNN:=Lib.hid (And.intro hnn hN)
  clear hm ih hn hE hK hkE hT e1 hnn hN
  rcases (by omega:k=0∨k=1∨k=2∨k=3∨k=4∨k=5∨k=6) with rfl | rfl | rfl | rfl | rfl | rfl | rfl
  ·
   have HV:Hid (T=[119,104,111,108,101]):=Lib.hid (by rw [← HT.out];simp)
   go_enter Tryz.func30,Tryz.ntmps30
   go_upto_region 1 with fail
   refine wp_new1 fun W0 hA hB=>?_
   obtain ⟨⟨y0,y1,y2,y3,y4,y5,y6,y7,y8⟩,_⟩:=hA.all9
   have hlt0:=hA.lt
   have HA:=Lib.hid hA
   have HB:=Lib.hid hB
   clear hA hB
   go_wp2
   go_returns
   exact ⟨by rw [HV.out];rfl,HB.out⟩
  ·
   have HV:Hid (T=[110,97,109,101,100,32]++nm):=Lib.hid (by rw [← HT.out];simp)
   have hnl:(bs nm).size≤16:=by
    have h9:=e6 rfl
    unfold Qy.nameOK at h9
    simp only [Bool.and_eq_true,decide_eq_true_eq] at h9
    rw [bs_size];exact h9.1.1.2
   go_enter Tryz.func30,Tryz.ntmps30
   go_upto_region 1 with fail
   refine wp_new1 fun W0 hA hB=>?_
   obtain ⟨⟨y0,y1,y2,y3,y4,y5,y6,y7,y8⟩,_⟩:=hA.all9
   have hlt0:=hA.lt
   have HA:=Lib.hid hA
   have HB:=Lib.hid hB
   clear hA hB
   go_wp2
   go_returns
   exact ⟨by rw [HV.out];exact congrArg (fun t=>Ending.returned (.string t)) (txt_cat [110,97,109,101,100,32] nm),HB.out⟩
  ·
   have HV:Hid (T=[97,116,32]++Qy.coordsT ax ay):=Lib.hid (by rw [← HT.out];simp)
   have hin:=ptOK_in hpt
   have hcl:=Qy.coords_len hpt
   have HC:=Lib.hid fun u=>coords_any ax ay hin.1 hin.2 u
   have hts:(⟨(Qy.coordsT ax ay).toArray⟩:ByteArray).size≤23:=by rw [lsz];exact hcl
   obtain ⟨tc,htc⟩:∃ t:ByteArray,⟨(Qy.coordsT ax ay).toArray⟩=t:=⟨_,rfl⟩
   have HC2:Hid (∀ u,Calls Tryz.prog 61 #[.agg #[.int .i64 ax,.int .i64 ay]] u fun e w'=>e=.returned (.string tc)∧Below u.heap.size u w'):=Lib.hid fun u=>htc▸HC.out u
   have HTC:=Lib.hid htc
   rw [htc] at hts
   clear hin hcl HC htc
   go_enter Tryz.func30,Tryz.ntmps30
   go_upto_region 1 with fail
   refine wp_new1 fun W0 hA hB=>?_
   obtain ⟨⟨y0,y1,y2,y3,y4,y5,y6,y7,y8⟩,_⟩:=hA.all9
   have hlt0:=hA.lt
   have HA:=Lib.hid hA
   have HB:=Lib.hid hB
   clear hA hB
   go_wp2_with fail
   refine (HC2.out _).mono ?_
   rintro e w1 ⟨rfl,k1⟩
   have HF:=Lib.hid (Below.call HB.out k1)
   clear k1 y0 y1 y2 y3 y4 y5 y6 y7 y8
   go_wp2
   go_returns
   exact ⟨by rw [HV.out,← HTC.out];exact congrArg (fun t=>Ending.returned (.string t)) (txt_cat [97,116,32] _),HF.out⟩
  ·
   have HV:Hid (T=[119,105,116,104,105,110,32]++(Qy.coordsT b0 b1++([32,116,111,32]++Qy.coordsT b2 b3))):=Lib.hid (by rw [← HT.out];simp)
   have hbi:=boxOK_in hbx
   obtain ⟨ta,hta⟩:∃ t:ByteArray,⟨(Qy.coordsT b0 b1).toArray⟩=t:=⟨_,rfl⟩
   have HCa:Hid (∀ u,Calls Tryz.prog 61 #[.agg #[.int .i64 b0,.int .i64 b1]] u fun e w'=>e=.returned (.string ta)∧Below u.heap.size u w'):=Lib.hid fun u=>hta▸coords_any b0 b1 (ptOK_in hbi.1).1 (ptOK_in hbi.1).2 u
   have hza:ta.size≤23:=by rw [← hta,lsz];exact Qy.coords_len hbi.1
   have HXa:=Lib.hid hta
   obtain ⟨tb,htb⟩:∃ t:ByteArray,⟨(Qy.coordsT b2 b3).toArray⟩=t:=⟨_,rfl⟩
   have HCb:Hid (∀ u,Calls Tryz.prog 61 #[.agg #[.int .i64 b2,.int .i64 b3]] u fun e w'=>e=.returned (.string tb)∧Below u.heap.size u w'):=Lib.hid fun u=>htb▸coords_any b2 b3 (ptOK_in hbi.2).1 (ptOK_in hbi.2).2 u
   have hzb:tb.size≤23:=by rw [← htb,lsz];exact Qy.coords_len hbi.2
   have HXb:=Lib.hid htb
   clear hbi hta htb
   have hq1:¬ 9223372036854775807<7+ta.size:=by omega
   have hq2:¬ 9223372036854775807<7+ta.size+4:=by omega
   have hq3:¬ 9223372036854775807<7+ta.size+4+tb.size:=by omega
   go_enter Tryz.func30,Tryz.ntmps30
   go_upto_region 1 with fail
   refine wp_new1 fun W0 hA hB=>?_
   obtain ⟨⟨y0,y1,y2,y3,y4,y5,y6,y7,y8⟩,_⟩:=hA.all9
   have hlt0:=hA.lt
   have HA:=Lib.hid hA
   have HB:=Lib.hid hB
   clear hA hB
   go_upto_region 9 with fail
   clear y0 y1 y2 y3 y4 y5 y6 y7 y8
   refine wp_region_specs W0 [Spec.eq (.pointer (some ⟨w.heap.size,4,none⟩)),Spec.eq (.pointer (some ⟨w.heap.size,4,none⟩)),Spec.eq (.agg #[.int .i64 b0,.int .i64 b1]),Spec.eq (.string ta),Spec.eq (.string (⟨#[119,105,116,104,105,110,32]⟩++ta)),Spec.eq (.string (⟨#[119,105,116,104,105,110,32]⟩++ta++⟨#[32,116,111,32]⟩)),Spec.eq (.pointer (some ⟨w.heap.size,4,none⟩)),Spec.eq (.pointer (some ⟨w.heap.size,6,none⟩)),Spec.eq (.agg #[.int .i64 b2,.int .i64 b3]),Spec.eq (.string tb),Spec.eq (.string (⟨#[119,105,116,104,105,110,32]⟩++ta++⟨#[32,116,111,32]⟩++tb)),Spec.eq (.string (⟨#[119,105,116,104,105,110,32]⟩++ta++⟨#[32,116,111,32]⟩++tb))]
    (by kernel_rfl) (by kernel_rfl) rfl (by kernel_rfl) (Below.drew (Below.refl _ _)) ?_ ?_
   ·
    refine RegSteps.cons ?_ ?_
    ·intro _ az wz hC hF hD _ K hK
     have q2:az.tmps[2]?=some (.pointer (some ⟨w.heap.size,0,none⟩)):=hF 2 rfl
     clear hF hD
     refine want_none rfl ?_
     go_simp
     exact hK _ _ hC (Below.refl _ _) rfl
    refine RegSteps.cons ?_ ?_
    ·intro _ az wz hC hF hD _ K hK
     obtain ⟨_,q25,rfl⟩:=dep hD 0 rfl rfl rfl rfl
     clear hF hD
     refine want_none rfl ?_
     go_simp
     exact hK _ _ hC (Below.refl _ _) rfl
    refine RegSteps.cons ?_ ?_
    ·intro _ az wz hC hF hD _ K hK
     obtain ⟨_,q26,rfl⟩:=dep hD 1 rfl rfl rfl rfl
     obtain ⟨⟨y0,y1,y2,y3,y4,y5,y6,y7,y8⟩,_⟩:=(HA.out.on hC).all9
     clear hF hD
     refine want_none rfl ?_
     go_simp
     exact hK _ _ hC (Below.refl _ _) rfl
    refine RegSteps.cons ?_ ?_
    ·intro _ az wz hC hF hD _ K hK
     obtain ⟨_,q27,rfl⟩:=dep hD 2 rfl rfl rfl rfl
     clear hF hD
     refine want_none rfl ?_
     go_simp
     refine (HCa.out _).mono ?_
     rintro e wy ⟨rfl,k⟩
     exact hK _ _ (Below.call hC k) k rfl
    refine RegSteps.cons ?_ ?_
    ·intro _ az wz hC hF hD _ K hK
     obtain ⟨_,q28,rfl⟩:=dep hD 3 rfl rfl rfl rfl
     clear hF hD
     refine want_none rfl ?_
     go_simp
     try go_ints
     exact hK _ _ hC (Below.refl _ _) rfl
    refine RegSteps.cons ?_ ?_
    ·intro _ az wz hC hF hD _ K hK
     obtain ⟨_,q29,rfl⟩:=dep hD 4 rfl rfl rfl rfl
     clear hF hD
     refine want_none rfl ?_
     go_simp
     try go_ints
     exact hK _ _ hC (Below.refl _ _) rfl
    refine RegSteps.cons ?_ ?_
    ·intro _ az wz hC hF hD _ K hK
     have q2:az.tmps[2]?=some (.pointer (some ⟨w.heap.size,0,none⟩)):=hF 2 rfl
     clear hF hD
     refine want_none rfl ?_
     go_simp
     exact hK _ _ hC (Below.refl _ _) rfl
    refine RegSteps.cons ?_ ?_
    ·intro _ az wz hC hF hD _ K hK
     obtain ⟨_,q31,rfl⟩:=dep hD 6 rfl rfl rfl rfl
     clear hF hD
     refine want_none rfl ?_
     go_simp
     exact hK _ _ hC (Below.refl _ _) rfl
    refine RegSteps.cons ?_ ?_
    ·intro _ az wz hC hF hD _ K hK
     obtain ⟨_,q32,rfl⟩:=dep hD 7 rfl rfl rfl rfl
     obtain ⟨⟨y0,y1,y2,y3,y4,y5,y6,y7,y8⟩,_⟩:=(HA.out.on hC).all9
     clear hF hD
     refine want_none rfl ?_
     go_simp
     exact hK _ _ hC (Below.refl _ _) rfl
    refine RegSteps.cons ?_ ?_
    ·intro _ az wz hC hF hD _ K hK
     obtain ⟨_,q33,rfl⟩:=dep hD 8 rfl rfl rfl rfl
     clear hF hD
     refine want_none rfl ?_
     go_simp
     refine (HCb.out _).mono ?_
     rintro e wy ⟨rfl,k⟩
     exact hK _ _ (Below.call hC k) k rfl
    refine RegSteps.cons ?_ ?_
    ·intro _ az wz hC hF hD _ K hK
     obtain ⟨_,q30,rfl⟩:=dep hD 5 rfl rfl rfl rfl
     obtain ⟨_,q34,rfl⟩:=dep hD 9 rfl rfl rfl rfl
     clear hF hD
     refine want_none rfl ?_
     go_simp
     try go_ints
     exact hK _ _ hC (Below.refl _ _) rfl
    refine RegSteps.cons ?_ ?_
    ·intro _ az wz hC hF hD _ K hK
     obtain ⟨_,q35,rfl⟩:=dep hD 10 rfl rfl rfl rfl
     clear hF hD
     refine want_none rfl ?_
     go_simp
     exact hK _ _ hC (Below.refl _ _) rfl
    exact RegSteps.nil
   intro w2 hC2
   rintro _ rfl _ rfl _ rfl _ rfl _ rfl _ rfl _ rfl _ rfl _ rfl _ rfl _ rfl _ rfl
   simp only [FinOK,Act.put,List.setIfInBounds_toArray,List.set_cons_zero,List.set_cons_succ]
   have HF:=Lib.hid (Below.call HB.out hC2)
   clear hC2
   go_wp2
   go_returns
   refine ⟨?_,HF.out⟩
   rw [HV.out,← HXa.out,← HXb.out]
   refine congrArg (fun t=>Ending.returned (.string t)) (str_eq ?_)
   simp [str_cat]
  ·
   clear e2 e3 e4 e5 e6 hpt hbx
   by_cases hm1:1<m
   ·
    have hm1z:(1:Int)<(m:Int):=by omega
    have HV:Hid (T=if item=true then 40 :: (Qy.join [32,97,110,100,32] (Qy.texts kids true)++[41]) else Qy.join [32,97,110,100,32] (Qy.texts kids true)):=Lib.hid (by rw [← HT.out];simp [hm1])
    go_enter Tryz.func30,Tryz.ntmps30
    go_upto_region 1 with fail
    refine wp_new1 fun W0 hA hB=>?_
    obtain ⟨⟨y0,y1,y2,y3,y4,y5,y6,y7,y8⟩,_⟩:=hA.all9
    have hlt0:=hA.lt
    have HA:=Lib.hid hA
    have HB:=Lib.hid hB
    clear hA hB
    go_upto_region 15 with fail
    clear y0 y1 y2 y3 y4 y5 y6 y7 y8
    have kn:=below_new W0 (.cells #[.string ⟨#[32,97,110,100,32]⟩,.string ⟨#[32,111,114,32]⟩] 9)
    have HS0:=Lib.hid (And.intro (HA.out.on kn) (Below.call HB.out kn))
    clear kn HA HB
    go_wp2_with fail
    go_loopw [5,7] (fun s5 s7 wr=>∃ (i:Nat) (t:ByteArray),i≤m∧s7=.int .i64 (i:Int)∧s5=.string t∧t=⟨(Qy.join [32,97,110,100,32] (Qy.texts (kids.take i) true)).toArray⟩∧Own wr w.heap.size 32 [.int .i64 4,.string (bs nm),.int .i64 ax,.int .i64 ay,.int .i64 b0,.int .i64 b1,.int .i64 b2,.int .i64 b3,.slice A m c]∧Below w.heap.size w wr) (fun _ s _=>m - (intOf s).toNat)
    case atStart=>exact ⟨0,_,Nat.zero_le _,rfl,rfl,by rw [List.take_zero,Qy.texts];rfl,HS0.out.1,HS0.out.2⟩
    case round=>
     obtain ⟨i,t,hi,rfl,rfl,ht,hA,hB⟩:=hrel
     clear HS0
     have htz:t.size≤65000000:=by
      have h9:=join_le (w:=[32,97,110,100,32]) (by simp) HKE.out i true
      have h8:=HNN.out
      rw [ht,lsz]
      omega
     have HTx:=Lib.hid ht
     have y8:=hA.cell 8
     rcases Nat.lt_or_eq_of_le hi with hlt | heq
     ·have i1:(i:Int)<(m:Int):=by omega
      obtain ⟨Ri,hRi⟩:∃ R,kids[i]?=some R:=⟨_,List.getElem?_eq_getElem (by have:=HM.out;omega)⟩
      have hKr:KidsAt wr (fun _=>True) A 0 kids:=HK.out.on hB
      obtain ⟨g,off,n0,s1,n2,n3,n4,n5,n6,n7,A8,l8,c8,rfl,_,hgl,⟨e0,e1,e2,e3,e4,e5,e6,e7,e8⟩,hR⟩:=hKr.lit hRi
      have HC:=Lib.hid (HIH.out Ri (List.mem_of_getElem? hRi) true _ _ hR.isReg)
      have HJ:=Lib.hid (join_take (w:=[32,97,110,100,32]) hRi true)
      have HS:=Lib.hid (And.intro hA hB)
      clear hA hB hKr hR hRi hgl ht
      by_cases h0:(0:Int)<(i:Int)
      ·
       go_wp2_with fail
       refine HC.out.mono ?_
       rintro e w6 ⟨t2,ht2,htz2,rfl,k6⟩
       have HS6:=Lib.hid (And.intro (HS.out.1.on k6) (And.intro (Below.call HS.out.2 k6) ht2))
       clear e0 e1 e2 e3 e4 e5 e6 e7 e8 k6 y8 ht2
       go_wp2_with fail
       go_roundw
       case rel=>exact ⟨i+1,_,by omega,by go_num,rfl,by rw [HJ.out,if_neg (by omega),HTx.out,HS6.out.2.2];exact str_eq (by simp [str_cat]),HS6.out.1,HS6.out.2.1⟩
       case measure=>simp [intOf];omega
      ·
       go_wp2_with fail
       refine HC.out.mono ?_
       rintro e w6 ⟨t2,ht2,htz2,rfl,k6⟩
       have HS6:=Lib.hid (And.intro (HS.out.1.on k6) (And.intro (Below.call HS.out.2 k6) ht2))
       clear e0 e1 e2 e3 e4 e5 e6 e7 e8 k6 y8 ht2
       go_wp2_with fail
       go_roundw
       case rel=>exact ⟨i+1,_,by omega,by go_num,rfl,by rw [HJ.out,if_pos (by omega),HTx.out,HS6.out.2.2,show i=0 by omega,List.take_zero,Qy.texts];exact str_eq (by simp [str_cat,Qy.join]),HS6.out.1,HS6.out.2.1⟩
       case measure=>simp [intOf];omega
     ·subst heq
      have HS:=Lib.hid hB
      have HTx2:Hid (t=⟨(Qy.join [32,97,110,100,32] (Qy.texts kids true)).toArray⟩):=Lib.hid (by rw [ht,List.take_of_length_le (by have:=HM.out;omega)])
      clear hA hB ht HTx
      cases item
      ·
       go_wp2
       go_returns
       refine ⟨?_,HS.out⟩
       have h9:=HV.out
       simp only [Bool.false_eq_true,if_false] at h9
       rw [h9,HTx2.out]
       rfl
      ·
       go_wp2
       go_returns
       refine ⟨?_,HS.out⟩
       have h9:=HV.out
       simp only [if_true] at h9
       rw [h9,HTx2.out]
       exact congrArg (fun t=>Ending.returned (.string t)) (str_eq (by simp [str_cat]))
   ·
    have hm1z:¬ (1:Int)<(m:Int):=by omega
    have HV:Hid (T=[97,108,108,40]++((Qy.texts kids false).headD []++[41])):=Lib.hid (by rw [← HT.out];simp [hm1])
    by_cases hm0:m=1
    ·
     subst hm0
     obtain ⟨R0,hR0⟩:∃ R,kids[0]?=some R:=⟨_,List.getElem?_eq_getElem (by have:=HM.out;omega)⟩
     have hk1:kids=[R0]:=by
      have h1:=HM.out
      match kids,h1,hR0 with
      | [x],_,hR0=>simp only [List.getElem?_cons_zero,Option.some.injEq] at hR0;rw [hR0]
     have HK1:=Lib.hid hk1
     obtain ⟨g,off,n0,s1,n2,n3,n4,n5,n6,n7,A8,l8,c8,rfl,_,hgl,⟨e0,e1,e2,e3,e4,e5,e6,e7,e8⟩,hR⟩:=HK.out.lit hR0
     simp only [Nat.zero_mul,Nat.add_zero] at e0 e1 e2 e3 e4 e5 e6 e7 e8
     go_enter Tryz.func30,Tryz.ntmps30
     go_upto_region 1 with fail
     refine wp_new1 fun W0 hA hB=>?_
     obtain ⟨⟨y0,y1,y2,y3,y4,y5,y6,y7,y8⟩,_⟩:=hA.all9
     have hlt0:=hA.lt
     have HA:=Lib.hid hA
     have HB:=Lib.hid hB
     clear hA hB
     have ce:∀ o,W0.cell? ⟨g,o,none⟩=w.cell? ⟨g,o,none⟩:=fun o=>World.cell?_of_block (a:=⟨g,o,none⟩) (HB.out.block g hgl)
     rw [← ce] at e0 e1 e2 e3 e4 e5 e6 e7 e8
     have HC:=Lib.hid (HIH.out R0 (List.mem_of_getElem? hR0) false _ _ (hR.on HB.out).isReg)
     clear ce hR hR0 hk1 hgl
     go_wp2_with fail
     refine HC.out.mono ?_
     rintro e w1 ⟨t,ht,htz,rfl,k1⟩
     have HF:=Lib.hid (And.intro (Below.call HB.out k1) ht)
     clear y0 y1 y2 y3 y4 y5 y6 y7 y8 e0 e1 e2 e3 e4 e5 e6 e7 e8 ht
     obtain ⟨⟨y0,y1,y2,y3,y4,y5,y6,y7,y8⟩,_⟩:=(HA.out.on k1).all9
     have hlt1:=(HA.out.on k1).lt
     have HF2:=Lib.hid (Below.call HF.out.1 (below_new w1 (.cells #[.string ⟨#[97,108,108,40]⟩,.string ⟨#[97,110,121,40]⟩] 9)))
     clear k1
     go_wp2
     go_returns
     refine ⟨?_,HF2.out⟩
     rw [HV.out,HK1.out,Qy.texts,HF.out.2]
     exact congrArg (fun t=>Ending.returned (.string t)) (str_eq (by simp [str_cat]))
    ·
     obtain rfl:m=0:=by omega
     have hk0:kids=[]:=List.eq_nil_of_length_eq_zero HM.out
     have HK1:=Lib.hid hk0
     clear hk0
     go_enter Tryz.func30,Tryz.ntmps30
     go_upto_region 1 with fail
     refine wp_new1 fun W0 hA hB=>?_
     obtain ⟨⟨y0,y1,y2,y3,y4,y5,y6,y7,y8⟩,_⟩:=hA.all9
     have hlt0:=hA.lt
     have HA:=Lib.hid hA
     have HB:=Lib.hid hB
     clear hA hB
     have HF2:=Lib.hid (Below.call HB.out (below_new W0 (.cells #[.string ⟨#[97,108,108,40]⟩,.string ⟨#[97,110,121,40]⟩] 9)))
     go_wp2
     go_returns
     refine ⟨?_,HF2.out⟩
     rw [HV.out,HK1.out,Qy.texts]
     exact congrArg (fun t=>Ending.returned (.string t)) (str_eq (by simp [str_cat]))
  ·
   clear e2 e3 e4 e5 e6 hpt hbx
   by_cases hm1:1<m
   ·
    have hm1z:(1:Int)<(m:Int):=by omega
    have HV:Hid (T=if item=true then 40 :: (Qy.join [32,111,114,32] (Qy.texts kids true)++[41]) else Qy.join [32,111,114,32] (Qy.texts kids true)):=Lib.hid (by rw [← HT.out];simp [hm1])
    go_enter Tryz.func30,Tryz.ntmps30
    go_upto_region 1 with fail
    refine wp_new1 fun W0 hA hB=>?_
    obtain ⟨⟨y0,y1,y2,y3,y4,y5,y6,y7,y8⟩,_⟩:=hA.all9
    have hlt0:=hA.lt
    have HA:=Lib.hid hA
    have HB:=Lib.hid hB
    clear hA hB
    go_upto_region 15 with fail
    clear y0 y1 y2 y3 y4 y5 y6 y7 y8
    have kn:=below_new W0 (.cells #[.string ⟨#[32,97,110,100,32]⟩,.string ⟨#[32,111,114,32]⟩] 9)
    have HS0:=Lib.hid (And.intro (HA.out.on kn) (Below.call HB.out kn))
    clear kn HA HB
    go_wp2_with fail
    go_loopw [5,7] (fun s5 s7 wr=>∃ (i:Nat) (t:ByteArray),i≤m∧s7=.int .i64 (i:Int)∧s5=.string t∧t=⟨(Qy.join [32,111,114,32] (Qy.texts (kids.take i) true)).toArray⟩∧Own wr w.heap.size 32 [.int .i64 5,.string (bs nm),.int .i64 ax,.int .i64 ay,.int .i64 b0,.int .i64 b1,.int .i64 b2,.int .i64 b3,.slice A m c]∧Below w.heap.size w wr) (fun _ s _=>m - (intOf s).toNat)
    case atStart=>exact ⟨0,_,Nat.zero_le _,rfl,rfl,by rw [List.take_zero,Qy.texts];rfl,HS0.out.1,HS0.out.2⟩
    case round=>
     obtain ⟨i,t,hi,rfl,rfl,ht,hA,hB⟩:=hrel
     clear HS0
     have htz:t.size≤65000000:=by
      have h9:=join_le (w:=[32,111,114,32]) (by simp) HKE.out i true
      have h8:=HNN.out
      rw [ht,lsz]
      omega
     have HTx:=Lib.hid ht
     have y8:=hA.cell 8
     rcases Nat.lt_or_eq_of_le hi with hlt | heq
     ·have i1:(i:Int)<(m:Int):=by omega
      obtain ⟨Ri,hRi⟩:∃ R,kids[i]?=some R:=⟨_,List.getElem?_eq_getElem (by have:=HM.out;omega)⟩
      have hKr:KidsAt wr (fun _=>True) A 0 kids:=HK.out.on hB
      obtain ⟨g,off,n0,s1,n2,n3,n4,n5,n6,n7,A8,l8,c8,rfl,_,hgl,⟨e0,e1,e2,e3,e4,e5,e6,e7,e8⟩,hR⟩:=hKr.lit hRi
      have HC:=Lib.hid (HIH.out Ri (List.mem_of_getElem? hRi) true _ _ hR.isReg)
      have HJ:=Lib.hid (join_take (w:=[32,111,114,32]) hRi true)
      have HS:=Lib.hid (And.intro hA hB)
      clear hA hB hKr hR hRi hgl ht
      by_cases h0:(0:Int)<(i:Int)
      ·
       go_wp2_with fail
       refine HC.out.mono ?_
       rintro e w6 ⟨t2,ht2,htz2,rfl,k6⟩
       have HS6:=Lib.hid (And.intro (HS.out.1.on k6) (And.intro (Below.call HS.out.2 k6) ht2))
       clear e0 e1 e2 e3 e4 e5 e6 e7 e8 k6 y8 ht2
       go_wp2_with fail
       go_roundw
       case rel=>exact ⟨i+1,_,by omega,by go_num,rfl,by rw [HJ.out,if_neg (by omega),HTx.out,HS6.out.2.2];exact str_eq (by simp [str_cat]),HS6.out.1,HS6.out.2.1⟩
       case measure=>simp [intOf];omega
      ·
       go_wp2_with fail
       refine HC.out.mono ?_
       rintro e w6 ⟨t2,ht2,htz2,rfl,k6⟩
       have HS6:=Lib.hid (And.intro (HS.out.1.on k6) (And.intro (Below.call HS.out.2 k6) ht2))
       clear e0 e1 e2 e3 e4 e5 e6 e7 e8 k6 y8 ht2
       go_wp2_with fail
       go_roundw
       case rel=>exact ⟨i+1,_,by omega,by go_num,rfl,by rw [HJ.out,if_pos (by omega),HTx.out,HS6.out.2.2,show i=0 by omega,List.take_zero,Qy.texts];exact str_eq (by simp [str_cat,Qy.join]),HS6.out.1,HS6.out.2.1⟩
       case measure=>simp [intOf];omega
     ·subst heq
      have HS:=Lib.hid hB
      have HTx2:Hid (t=⟨(Qy.join [32,111,114,32] (Qy.texts kids true)).toArray⟩):=Lib.hid (by rw [ht,List.take_of_length_le (by have:=HM.out;omega)])
      clear hA hB ht HTx
      cases item
      ·
       go_wp2
       go_returns
       refine ⟨?_,HS.out⟩
       have h9:=HV.out
       simp only [Bool.false_eq_true,if_false] at h9
       rw [h9,HTx2.out]
       rfl
      ·
       go_wp2
       go_returns
       refine ⟨?_,HS.out⟩
       have h9:=HV.out
       simp only [if_true] at h9
       rw [h9,HTx2.out]
       exact congrArg (fun t=>Ending.returned (.string t)) (str_eq (by simp [str_cat]))
   ·
    have hm1z:¬ (1:Int)<(m:Int):=by omega
    have HV:Hid (T=[97,110,121,40]++((Qy.texts kids false).headD []++[41])):=Lib.hid (by rw [← HT.out];simp [hm1])
    by_cases hm0:m=1
    ·
     subst hm0
     obtain ⟨R0,hR0⟩:∃ R,kids[0]?=some R:=⟨_,List.getElem?_eq_getElem (by have:=HM.out;omega)⟩
     have hk1:kids=[R0]:=by
      have h1:=HM.out
      match kids,h1,hR0 with
      | [x],_,hR0=>simp only [List.getElem?_cons_zero,Option.some.injEq] at hR0;rw [hR0]
     have HK1:=Lib.hid hk1
     obtain ⟨g,off,n0,s1,n2,n3,n4,n5,n6,n7,A8,l8,c8,rfl,_,hgl,⟨e0,e1,e2,e3,e4,e5,e6,e7,e8⟩,hR⟩:=HK.out.lit hR0
     simp only [Nat.zero_mul,Nat.add_zero] at e0 e1 e2 e3 e4 e5 e6 e7 e8
     go_enter Tryz.func30,Tryz.ntmps30
     go_upto_region 1 with fail
     refine wp_new1 fun W0 hA hB=>?_
     obtain ⟨⟨y0,y1,y2,y3,y4,y5,y6,y7,y8⟩,_⟩:=hA.all9
     have hlt0:=hA.lt
     have HA:=Lib.hid hA
     have HB:=Lib.hid hB
     clear hA hB
     have ce:∀ o,W0.cell? ⟨g,o,none⟩=w.cell? ⟨g,o,none⟩:=fun o=>World.cell?_of_block (a:=⟨g,o,none⟩) (HB.out.block g hgl)
     rw [← ce] at e0 e1 e2 e3 e4 e5 e6 e7 e8
     have HC:=Lib.hid (HIH.out R0 (List.mem_of_getElem? hR0) false _ _ (hR.on HB.out).isReg)
     clear ce hR hR0 hk1 hgl
     go_wp2_with fail
     refine HC.out.mono ?_
     rintro e w1 ⟨t,ht,htz,rfl,k1⟩
     have HF:=Lib.hid (And.intro (Below.call HB.out k1) ht)
     clear y0 y1 y2 y3 y4 y5 y6 y7 y8 e0 e1 e2 e3 e4 e5 e6 e7 e8 ht
     obtain ⟨⟨y0,y1,y2,y3,y4,y5,y6,y7,y8⟩,_⟩:=(HA.out.on k1).all9
     have hlt1:=(HA.out.on k1).lt
     have HF2:=Lib.hid (Below.call HF.out.1 (below_new w1 (.cells #[.string ⟨#[97,108,108,40]⟩,.string ⟨#[97,110,121,40]⟩] 9)))
     clear k1
     go_wp2
     go_returns
     refine ⟨?_,HF2.out⟩
     rw [HV.out,HK1.out,Qy.texts,HF.out.2]
     exact congrArg (fun t=>Ending.returned (.string t)) (str_eq (by simp [str_cat]))
    ·
     obtain rfl:m=0:=by omega
     have hk0:kids=[]:=List.eq_nil_of_length_eq_zero HM.out
     have HK1:=Lib.hid hk0
     clear hk0
     go_enter Tryz.func30,Tryz.ntmps30
     go_upto_region 1 with fail
     refine wp_new1 fun W0 hA hB=>?_
     obtain ⟨⟨y0,y1,y2,y3,y4,y5,y6,y7,y8⟩,_⟩:=hA.all9
     have hlt0:=hA.lt
     have HA:=Lib.hid hA
     have HB:=Lib.hid hB
     clear hA hB
     have HF2:=Lib.hid (Below.call HB.out (below_new W0 (.cells #[.string ⟨#[97,108,108,40]⟩,.string ⟨#[97,110,121,40]⟩] 9)))
     go_wp2
     go_returns
     refine ⟨?_,HF2.out⟩
     rw [HV.out,HK1.out,Qy.texts]
     exact congrArg (fun t=>Ending.returned (.string t)) (str_eq (by simp [str_cat]))
  ·
   have HV:Hid (T=[110,111,116,32]++(Qy.texts kids true).headD []):=Lib.hid (by rw [← HT.out];simp)
   obtain rfl:=e2 rfl
   obtain ⟨R0,hR0⟩:∃ R,kids[0]?=some R:=⟨_,List.getElem?_eq_getElem (by have:=HM.out;omega)⟩
   have hk1:kids=[R0]:=by
    have h1:=HM.out
    match kids,h1,hR0 with
    | [x],_,hR0=>simp only [List.getElem?_cons_zero,Option.some.injEq] at hR0;rw [hR0]
   have HK1:=Lib.hid hk1
   obtain ⟨g,off,n0,s1,n2,n3,n4,n5,n6,n7,A8,l8,c8,rfl,_,hgl,⟨e0,e1,e2,e3,e4,e5,e6,e7,e8⟩,hR⟩:=HK.out.lit hR0
   simp only [Nat.zero_mul,Nat.add_zero] at e0 e1 e2 e3 e4 e5 e6 e7 e8
   go_enter Tryz.func30,Tryz.ntmps30
   go_upto_region 1 with fail
   refine wp_new1 fun W0 hA hB=>?_
   obtain ⟨⟨y0,y1,y2,y3,y4,y5,y6,y7,y8⟩,_⟩:=hA.all9
   have hlt0:=hA.lt
   have HA:=Lib.hid hA
   have HB:=Lib.hid hB
   clear hA hB
   have ce:∀ o,W0.cell? ⟨g,o,none⟩=w.cell? ⟨g,o,none⟩:=fun o=>World.cell?_of_block (a:=⟨g,o,none⟩) (HB.out.block g hgl)
   rw [← ce] at e0 e1 e2 e3 e4 e5 e6 e7 e8
   have HC:=Lib.hid (HIH.out R0 (List.mem_of_getElem? hR0) true _ _ (hR.on HB.out).isReg)
   clear ce hR hR0 hk1 hgl
   go_wp2_with fail
   refine HC.out.mono ?_
   rintro e w1 ⟨t,ht,htz,rfl,k1⟩
   have HF:=Lib.hid (And.intro (Below.call HB.out k1) ht)
   clear k1 ht y0 y1 y2 y3 y4 y5 y6 y7 y8 e0 e1 e2 e3 e4 e5 e6 e7 e8
   go_wp2
   go_returns
   refine ⟨?_,HF.out.1⟩
   rw [HV.out,HK1.out,Qy.texts,HF.out.2]
   exact congrArg (fun t=>Ending.returned (.string t)) (txt_cat [110,111,116,32] _)
end Go.Proofs.YtmlpibdincfgbaaGreatDoor
namespace Go.Proofs.YtmlpibdincfgbaaGreatDoor
open Go.RowKit
set_option linter.unusedSimpArgs false
set_option linter.unusedVariables false
theorem view_parts {k:Int} {l:List Int} (h:Qy.viewOK k l=true):((k=0∧l.length=1)∨(k=1∧1≤l.length∧l.length≤8)∨(k=2∧l.length=0))∧(∀ n∈l,0≤n∧n≤63)∧l.Nodup:=by
 unfold Qy.viewOK at h
 simp only [Bool.and_eq_true,Bool.or_eq_true,decide_eq_true_eq] at h
 obtain ⟨(h1 | h1) | h1,h2,h3⟩:=h
 ·exact ⟨.inl h1,h2,h3⟩
 ·exact ⟨.inr (.inl h1),h2,h3⟩
 ·exact ⟨.inr (.inr h1),h2,h3⟩
theorem IntsAt.get {w:World} {S:Nat→Prop} {A:Option Addr} {l:List Int} (h:IntsAt w S A l) (h0:0<l.length):∃ g off,A=some ⟨g,off,none⟩∧g<w.heap.size∧∀ (i:Nat) (z:Int),l[i]?=some z→w.cell? ⟨g,off+i,none⟩=some (.int .i64 z):=by
 rcases h with h | ⟨g,off,e,_,hg,hc⟩
 ·rw [h] at h0;cases h0
 ·exact ⟨g,off,e,hg,hc⟩
theorem cat_nil (t:ByteArray):t=t++⟨([]:List UInt8).toArray⟩:=(str_eq (l:=t.data.toList) rfl).trans (str_eq (by simp)).symm
def sWd (k:Nat) (xs:List Value):Spec Bel:=⟨fun v w=>∃ g,v=.pointer (some ⟨g,k,none⟩)∧Own w g 9 xs,fun ⟨g,e,h⟩ k=>⟨g,e,h.on k⟩⟩
end Go.Proofs.YtmlpibdincfgbaaGreatDoor
namespace Go.Proofs.YtmlpibdincfgbaaGreatDoor
open Go.RowKit
set_option linter.unusedSimpArgs false
set_option linter.unusedVariables false
theorem lsz' (l:List UInt8):(⟨l.toArray⟩:ByteArray).size=l.length:=by simp [ByteArray.size]
def TkAt (w:World) (A:Option Addr) (l:List Qy.Tok):Prop:=l=[]∨∃ g off,A=some ⟨g,off,none⟩∧g<w.heap.size∧∀ (j:Nat) (t:Qy.Tok),l[j]?=some t→w.cell? ⟨g,off+j * 2,none⟩=some (.string (bs t.text))∧w.cell? ⟨g,off+j * 2+1,none⟩=some (.int .i64 (t.at_:Int))
theorem TkAt.on {w w':World} {A:Option Addr} {l:List Qy.Tok} (h:TkAt w A l) (k:Below w.heap.size w w'):TkAt w' A l:=by
 rcases h with h | ⟨g,off,h1,h2,h3⟩
 ·exact .inl h
 ·refine .inr ⟨g,off,h1,Nat.lt_of_lt_of_le h2 k.size,fun j t ht=>?_⟩
  have e:∀ o,w'.cell? ⟨g,o,none⟩=w.cell? ⟨g,o,none⟩:=fun o=>World.cell?_of_block (a:=⟨g,o,none⟩) (k.block g h2)
  rw [e,e]
  exact h3 j t ht
theorem TkAt.get {w:World} {A:Option Addr} {l:List Qy.Tok} (h:TkAt w A l) (h0:0<l.length):∃ g off,A=some ⟨g,off,none⟩∧g<w.heap.size∧∀ (j:Nat) (t:Qy.Tok),l[j]?=some t→w.cell? ⟨g,off+j * 2,none⟩=some (.string (bs t.text))∧w.cell? ⟨g,off+j * 2+1,none⟩=some (.int .i64 (t.at_:Int)):=by
 rcases h with h | h
 ·rw [h] at h0;cases h0
 ·exact h
theorem tokens_any (s:Qy.Bs) (hs:s.length≤100000) (w:World):Calls Tryz.prog 33 #[.string (bs s)] w fun e w'=>∃ A c,e=.returned (.slice A (Qy.toks s 0).length c)∧Below w.heap.size w w'∧TkAt w' A (Qy.toks s 0):=
 (rTokensG s hs w).mono fun e w' ⟨h1,A,c,h2,h3,_⟩=>⟨A,c,h2,h1,by
  have h:=tks_of (r:=w'.heap.size) h3 rfl fun g e1 hg=>⟨Nat.ne_of_lt hg,by omega⟩
  rcases h with h | ⟨g,off,k1,k2,k3,k4,k5,k6⟩
  ·exact .inl h
  ·exact .inr ⟨g,off,k1,k4,k6⟩⟩
theorem toks_pos (s:Qy.Bs):0<(Qy.toks s 0).length∧(Qy.toks s 0).length≤s.length+1:=⟨(Qy.toks_good s.length s 0 (Nat.le_refl _)).1.pos,Qy.toks_le s.length s 0 (Nat.le_refl _)⟩
set_option maxRecDepth 100000 in
set_option maxHeartbeats 6400000 in
theorem Wrong_any (s:Qy.Bs) (hs:s.length≤100000) (at_ how:Int) (ha:in64 at_) (hh:in64 how) (w:World) :
 Calls Tryz.prog 11 #[.string (bs s),.int .i64 at_,.int .i64 how] w fun e w'=>∃ t:ByteArray,e=.returned (.string t)∧Below w.heap.size w w'∧t.size≤4 * s.length+100:=by
 have HTk:=Lib.hid (tokens_any s hs)
 have hp:=toks_pos s
 have hin:=Qy.toks_in s.length s 0 (Nat.le_refl _)
 obtain ⟨T,hT⟩:∃ T,Qy.toks s 0=T:=⟨_,rfl⟩
 rw [hT] at HTk hp hin
 obtain ⟨n,hn⟩:∃ n,T.length=n:=⟨_,rfl⟩
 have HN:=Lib.hid hn
 rw [hn] at HTk hp
 have hsz:=bs_size s
 obtain ⟨L,hL⟩:∃ L,s.length=L:=⟨_,rfl⟩
 rw [hL] at hsz hs hp hin
 rw [hL]
 obtain ⟨sd,hsd⟩:∃ sd,bs s=sd:=⟨_,rfl⟩
 rw [hsd] at hsz HTk
 rw [hsd]
 have HIn:=Lib.hid hin
 obtain ⟨x0,hx0⟩:∃ x,around at_ (n:Int)=x:=⟨_,rfl⟩
 have b0:=around_bd at_ (m:=(n:Int)) (by omega)
 have HA0:=Lib.hid fun u=>Around_any at_ (n:Int) u ha.1 ha.2 (by omega) (by omega)
 rw [hx0] at b0 HA0
 obtain ⟨x1,hx1⟩:∃ x,around how 29=x:=⟨_,rfl⟩
 have b1:=around_bd how (m:=29) (by omega)
 have HA1:=Lib.hid fun u=>Around_any how 29 u hh.1 hh.2 (by omega) (by omega)
 rw [hx1] at b1 HA1
 obtain ⟨k,rfl⟩:∃ k:Nat,x0=(k:Int):=⟨x0.toNat,by omega⟩
 obtain ⟨m,rfl⟩:∃ k:Nat,x1=(k:Int):=⟨x1.toNat,by omega⟩
 have hkn:k<n:=by omega
 obtain ⟨t,ht⟩:∃ t,T[k]?=some t:=⟨_,List.getElem?_eq_getElem (by omega)⟩
 have hti:=HIn.out t (List.mem_of_getElem? ht)
 have HT:=Lib.hid ht
 obtain ⟨tx,htx⟩:∃ tx,bs t.text=tx:=⟨_,rfl⟩
 obtain ⟨ta,hta⟩:∃ ta,t.at_=ta:=⟨_,rfl⟩
 have htz:tx.size=t.text.length:=by rw [← htx,bs_size]
 have hq:ta+tx.size≤L:=by rw [← hta,htz];omega
 have HTX:=Lib.hid (And.intro htx hta)
 clear hT hn hL hsd hin hx0 hx1 ht hti htx hta htz ha hh
 go_enter Tryz.func11,Tryz.ntmps11
 go_wp2_with fail
 refine (HTk.out _).mono ?_
 rintro e w1 ⟨A,c,rfl,hB1,hTk⟩
 obtain ⟨g,off,rfl,hgl,hc⟩:=hTk.get (by have:=HN.out;omega)
 have HC:=Lib.hid (And.intro hgl (hc k t HT.out))
 have HB1:=Lib.hid hB1
 clear hTk hgl hc hB1
 go_wp2_with fail
 refine (HA0.out _).mono ?_
 rintro e w2 ⟨rfl,k2⟩
 have e1:=(World.cell?_of_block (a:=⟨g,off+k * 2,none⟩) (k2.block g HC.out.1)).trans (HC.out.2.1.trans (by rw [HTX.out.1]))
 have e2:=(World.cell?_of_block (a:=⟨g,off+k * 2+1,none⟩) (k2.block g HC.out.1)).trans (HC.out.2.2.trans (by rw [HTX.out.2]))
 have hB2:=Below.call HB1.out k2
 clear k2
 go_upto_region 4 with fail
 clear e1 e2
 refine wp_new1 fun W2 h9 kn=>?_
 obtain ⟨g9,hg9⟩:∃ g,w2.heap.size=g:=⟨_,rfl⟩
 rw [hg9] at h9 ⊢
 have hB3:=Below.call hB2 kn
 clear kn hB2 hg9
 go_upto_region 5 with fail
 refine wp_new1 fun W3 hW kn=>?_
 obtain ⟨g10,hg10⟩:∃ g,W2.heap.size=g:=⟨_,rfl⟩
 rw [hg10] at hW ⊢
 have hB4:=Below.call hB3 kn
 have h9b:=h9.on kn
 clear kn hB3 h9 hg10
 go_wp2_with fail
 refine (HA1.out _).mono ?_
 rintro e w4 ⟨rfl,k4⟩
 have hB5:=Below.call hB4 k4
 have h9c:=h9b.on k4
 have hW4:=hW.on k4
 have z0:=h9c.c0
 have z1:=h9c.c1
 have g1:¬ 9223372036854775807<tx.size+1:=by omega
 have g2:¬ 9223372036854775807<tx.size+1+tx.size:=by omega
 have HS:=Lib.hid hB5
 have HW:=Lib.hid hW4
 clear hB4 k4 hB5 h9b h9c hW hW4
 have s0:(0:Int)≤(ta:Int):=by omega
 have s1:(ta:Int)≤(L:Int):=by omega
 have s2:(ta:Int)+(tx.size:Int)≤(L:Int):=by omega
 have s3:(0:Int)≤(ta:Int)+(tx.size:Int):=by omega
 by_cases hm:m<28
 ·
  have hmz:(m:Int)<28:=by omega
  obtain ⟨wd,hwd,hwz⟩:∃ wd:ByteArray,w4.cell? ⟨g10,m,none⟩=some (.string wd)∧wd.size≤20:=by
   rcases (by omega:m=0∨m=1∨m=2∨m=3∨m=4∨m=5∨m=6∨m=7∨m=8∨m=9∨m=10∨m=11∨m=12∨m=13∨m=14∨m=15∨m=16∨m=17∨m=18∨m=19∨m=20∨m=21∨m=22∨m=23∨m=24∨m=25∨m=26∨m=27) with rfl | rfl | rfl | rfl | rfl | rfl | rfl | rfl | rfl | rfl | rfl | rfl | rfl | rfl | rfl | rfl | rfl | rfl | rfl | rfl | rfl | rfl | rfl | rfl | rfl | rfl | rfl | rfl
   ·exact ⟨_,HW.out.cell 0,by decide⟩
   ·exact ⟨_,HW.out.cell 1,by decide⟩
   ·exact ⟨_,HW.out.cell 2,by decide⟩
   ·exact ⟨_,HW.out.cell 3,by decide⟩
   ·exact ⟨_,HW.out.cell 4,by decide⟩
   ·exact ⟨_,HW.out.cell 5,by decide⟩
   ·exact ⟨_,HW.out.cell 6,by decide⟩
   ·exact ⟨_,HW.out.cell 7,by decide⟩
   ·exact ⟨_,HW.out.cell 8,by decide⟩
   ·exact ⟨_,HW.out.cell 9,by decide⟩
   ·exact ⟨_,HW.out.cell 10,by decide⟩
   ·exact ⟨_,HW.out.cell 11,by decide⟩
   ·exact ⟨_,HW.out.cell 12,by decide⟩
   ·exact ⟨_,HW.out.cell 13,by decide⟩
   ·exact ⟨_,HW.out.cell 14,by decide⟩
   ·exact ⟨_,HW.out.cell 15,by decide⟩
   ·exact ⟨_,HW.out.cell 16,by decide⟩
   ·exact ⟨_,HW.out.cell 17,by decide⟩
   ·exact ⟨_,HW.out.cell 18,by decide⟩
   ·exact ⟨_,HW.out.cell 19,by decide⟩
   ·exact ⟨_,HW.out.cell 20,by decide⟩
   ·exact ⟨_,HW.out.cell 21,by decide⟩
   ·exact ⟨_,HW.out.cell 22,by decide⟩
   ·exact ⟨_,HW.out.cell 23,by decide⟩
   ·exact ⟨_,HW.out.cell 24,by decide⟩
   ·exact ⟨_,HW.out.cell 25,by decide⟩
   ·exact ⟨_,HW.out.cell 26,by decide⟩
   ·exact ⟨_,HW.out.cell 27,by decide⟩
  go_wp2_with fail
  clear hwd
  have hsx:∀ a b:Nat,(sd.extract a b).size≤L:=fun a b=>by rw [ByteArray.size_extract];omega
  have h11:(sd.extract 0 ta).size≤L:=hsx _ _
  have h12:(sd.extract (ta+tx.size) L).size≤L:=hsx _ _
  clear hsx
  go_region
  have HF:=Lib.hid (Below.call HS.out (Below.drew (Below.refl w4.heap.size w4)))
  have hfz:(sd.extract 0 ta++⟨#[32]⟩++wd++⟨#[32]⟩++sd.extract (ta+tx.size) L:ByteArray).size≤4 * L+100:=by
   simp only [ByteArray.size_append,lsz',List.length_cons,List.length_nil]
   omega
  clear z0 z1 g1 g2 s0 s1 s2 s3
  go_wp2
  refine bodyPost_ret (v:=.string (sd.extract 0 ta++⟨#[32]⟩++wd++⟨#[32]⟩++sd.extract (ta+tx.size) L)) (by simp [results,Tryz.results11,go_sem]) rfl ?_
  exact ⟨_,rfl,HF.out,hfz⟩
 ·
  have hmz:¬ (m:Int)<28:=by omega
  go_wp2_with fail
  have hsx:∀ a b:Nat,(sd.extract a b).size≤L:=fun a b=>by rw [ByteArray.size_extract];omega
  have h11:(sd.extract 0 ta).size≤L:=hsx _ _
  have h12:(sd.extract (ta+tx.size) L).size≤L:=hsx _ _
  clear hsx
  go_region
  have HF:=Lib.hid (Below.call HS.out (Below.drew (Below.refl w4.heap.size w4)))
  have hfz:(sd.extract 0 ta++⟨#[32]⟩++(tx++⟨#[32]⟩++tx)++⟨#[32]⟩++sd.extract (ta+tx.size) L:ByteArray).size≤4 * L+100:=by
   simp only [ByteArray.size_append,lsz',List.length_cons,List.length_nil]
   omega
  clear z0 z1 g1 g2 s0 s1 s2 s3
  go_wp2
  refine bodyPost_ret (v:=.string (sd.extract 0 ta++⟨#[32]⟩++(tx++⟨#[32]⟩++tx)++⟨#[32]⟩++sd.extract (ta+tx.size) L)) (by simp [results,Tryz.results11,go_sem]) rfl ?_
  exact ⟨_,rfl,HF.out,hfz⟩
end Go.Proofs.YtmlpibdincfgbaaGreatDoor
