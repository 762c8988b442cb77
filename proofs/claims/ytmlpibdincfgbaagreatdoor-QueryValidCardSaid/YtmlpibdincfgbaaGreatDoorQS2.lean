/-
  Chapter 38's reference: a region, a view, a query made of numbers.
  Chapter 38's reference: what is valid; the text of a region.
  Chapter 38's reference: the text of a region.
  Chapter 38's reference: a valid query passes; the text of a query.
  Chapter 38's reference: a text with a token changed; a text with further spaces.
-/
import Derived.Test.YtmlpibdincfgbaaGreatDoorQS1
import Derived.Test.YtmlpibdincfgbaaGreatDoorM10
import Derived.Test.YtmlpibdincfgbaaGreatDoorA4
import Derived.Test.YtmlpibdincfgbaaGreatDoorM9
namespace Go.Proofs.YtmlpibdincfgbaaGreatDoor
open Go.RowKit
set_option linter.unusedSimpArgs false
set_option linter.unusedVariables false
set_option maxRecDepth 100000 in
set_option maxHeartbeats 3200000 in
theorem Made_any {w:World} {A:Option Addr} {l:List Int} {c:Nat} (h:IntsIs w A l c) (d:Nat) (d1:1≤d) (d8:d≤8) :
 Calls Tryz.prog 31 #[.slice A l.length c,.int .i64 (d:Int)] w fun e w'=>∃ (R:Qy.Reg) (y:Nat) (v:Value),e=.returned v∧Below w.heap.size w w'∧regV w R v w'∧Qy.MadeP d 0 R y:=by
 have HR:Hid (∀ (r:Nat) u,Mk r l 0 u→Calls Tryz.prog 62 #[.pointer (some ⟨r,0,none⟩),.int .i64 (d:Int)] u (MadeV r l d 0 u)):=Lib.hid fun r u k=>mkRegion_any r l d d1 d8 0 u k (by omega)
 have HI:=Lib.hid h
 obtain ⟨L,hL⟩:∃ L,l.length=L:=⟨_,rfl⟩
 have HL:=Lib.hid hL
 rw [hL]
 clear h hL
 go_enter Tryz.func31,Tryz.ntmps31
 go_upto_region 1 with fail
 refine wp_new1 fun W0 hO4 hB=>?_
 go_upto_region 2 with fail
 refine wp_new1 fun W1 hR kn=>?_
 obtain ⟨r,hr⟩:∃ r,W0.heap.size=r:=⟨_,rfl⟩
 rw [hr] at hR ⊢
 have hwr:w.heap.size<r:=by have:=hO4.lt;omega
 have hB1:=Below.call hB kn
 have hO41:=hO4.on kn
 have hmk:Mk r l 0 W1:=⟨hR.lt,A,c,by rw [HL.out];exact hR,HI.out.sl.keep_ (Nat.le_of_lt hwr) fun g hg=>hB1.block g hg,HI.out.rg,HI.out.cap,HI.out.mx⟩
 have HS:=Lib.hid (And.intro hmk (And.intro hB1 hO41))
 clear hB kn hO4 hO41 hR hr hB1 hmk
 go_wp2_with fail
 refine (HR.out r _ HS.out.1).mono ?_
 rintro e w2 ⟨R,y,v,rfl,hu,kat,hmk2,hmp⟩
 obtain ⟨n0,s1,n2,n3,n4,n5,n6,n7,A8,l8,c8,rfl,hR1,_⟩:=hu.lit
 have hO:=HS.out.2.2.at1 kat (Nat.ne_of_lt hwr)
 have hB2:=below_put HS.out.2.1 kat (Nat.le_of_lt hwr)
 obtain ⟨⟨z0,z1,z2,z3,z4,z5,z6,z7,z8⟩,f0,f1,f2,f3,f4,f5,f6,f7,f8⟩:=hO.all9
 have HF:=Lib.hid (And.intro hO (And.intro hB2 (And.intro hR1 hmp)))
 have HSZ:=Lib.hid (show r<W1.heap.size from HS.out.1.lt)
 clear hO hB2 hR1 hmp hmk2 kat hu HS
 go_wp2_with fail
 obtain ⟨hO,hk⟩:=HF.out.1.put9 (x0:=.int .i64 n0) (x1:=.string s1) (x2:=.int .i64 n2) (x3:=.int .i64 n3) (x4:=.int .i64 n4) (x5:=.int .i64 n5) (x6:=.int .i64 n6) (x7:=.int .i64 n7) (x8:=.slice A8 l8 c8)
 clear z0 z1 z2 z3 z4 z5 z6 z7 z8 f0 f1 f2 f3 f4 f5 f6 f7 f8
 revert hO hk
 generalize (((((((((World.setCell _ _ _).setCell _ _).setCell _ _).setCell _ _).setCell _ _).setCell _ _).setCell _ _).setCell _ _).setCell _ _)=W9
 intro hO hk
 obtain ⟨⟨q0,q1,q2,q3,q4,q5,q6,q7,q8⟩,_⟩:=hO.all9
 refine bodyPost_ret (v:=.agg #[.int .i64 n0,.string s1,.int .i64 n2,.int .i64 n3,.int .i64 n4,.int .i64 n5,.int .i64 n6,.int .i64 n7,.slice A8 l8 c8]) (by simp [results,Tryz.results31,go_sem,q0,q1,q2,q3,q4,q5,q6,q7,q8]) rfl ?_
 refine ⟨R,y,_,rfl,below_put HF.out.2.1 hk (Nat.le_refl _),⟨_,rfl,?_⟩,HF.out.2.2.2⟩
 exact RegAt.keep hk.size (fun g hg hl=>⟨Nat.le_trans (by have:=HSZ.out;omega) (show W1.heap.size≤g from hg),hk.heap hl (fun e=>by have hg9:W1.heap.size≤g:=hg;have:=HSZ.out;omega)⟩) _ _ HF.out.2.2.1
theorem wp_new7 {P:Program} {Q:Exit→Act→World→Prop} {a:Act} {c:Code} {w:World} {T0 U:TypeId} {x0 x1 x2 x3 x4 x5 x6:List Value} (h:∀ W,Own W (w.heap.size) T0 x0→Own W (w.heap.size+1) T0 x1→Own W (w.heap.size+1+1) T0 x2→Own W (w.heap.size+1+1+1) T0 x3→Own W (w.heap.size+1+1+1+1) T0 x4→Own W (w.heap.size+1+1+1+1+1) T0 x5→Own W (w.heap.size+1+1+1+1+1+1) U x6→Below w.heap.size w W→c.wp P Q a W) :
 c.wp P Q a (((((((w.alloc (.cells x0.toArray T0)).alloc (.cells x1.toArray T0)).alloc (.cells x2.toArray T0)).alloc (.cells x3.toArray T0)).alloc (.cells x4.toArray T0)).alloc (.cells x5.toArray T0)).alloc (.cells x6.toArray U)):=by
 have h0:=Own.new w T0 x0
 have h1:=Own.new (w.alloc (.cells x0.toArray T0)) T0 x1
 rw [show (w.alloc (.cells x0.toArray T0)).heap.size=w.heap.size+1 by simp] at h1
 have h2:=Own.new ((w.alloc (.cells x0.toArray T0)).alloc (.cells x1.toArray T0)) T0 x2
 rw [show ((w.alloc (.cells x0.toArray T0)).alloc (.cells x1.toArray T0)).heap.size=w.heap.size+1+1 by simp] at h2
 have h3:=Own.new (((w.alloc (.cells x0.toArray T0)).alloc (.cells x1.toArray T0)).alloc (.cells x2.toArray T0)) T0 x3
 rw [show (((w.alloc (.cells x0.toArray T0)).alloc (.cells x1.toArray T0)).alloc (.cells x2.toArray T0)).heap.size=w.heap.size+1+1+1 by simp] at h3
 have h4:=Own.new ((((w.alloc (.cells x0.toArray T0)).alloc (.cells x1.toArray T0)).alloc (.cells x2.toArray T0)).alloc (.cells x3.toArray T0)) T0 x4
 rw [show ((((w.alloc (.cells x0.toArray T0)).alloc (.cells x1.toArray T0)).alloc (.cells x2.toArray T0)).alloc (.cells x3.toArray T0)).heap.size=w.heap.size+1+1+1+1 by simp] at h4
 have h5:=Own.new (((((w.alloc (.cells x0.toArray T0)).alloc (.cells x1.toArray T0)).alloc (.cells x2.toArray T0)).alloc (.cells x3.toArray T0)).alloc (.cells x4.toArray T0)) T0 x5
 rw [show (((((w.alloc (.cells x0.toArray T0)).alloc (.cells x1.toArray T0)).alloc (.cells x2.toArray T0)).alloc (.cells x3.toArray T0)).alloc (.cells x4.toArray T0)).heap.size=w.heap.size+1+1+1+1+1 by simp] at h5
 have h6:=Own.new ((((((w.alloc (.cells x0.toArray T0)).alloc (.cells x1.toArray T0)).alloc (.cells x2.toArray T0)).alloc (.cells x3.toArray T0)).alloc (.cells x4.toArray T0)).alloc (.cells x5.toArray T0)) U x6
 rw [show ((((((w.alloc (.cells x0.toArray T0)).alloc (.cells x1.toArray T0)).alloc (.cells x2.toArray T0)).alloc (.cells x3.toArray T0)).alloc (.cells x4.toArray T0)).alloc (.cells x5.toArray T0)).heap.size=w.heap.size+1+1+1+1+1+1 by simp] at h6
 exact h _ (((((((h0.alloc _).alloc _).alloc _).alloc _).alloc _).alloc _)) ((((((h1.alloc _).alloc _).alloc _).alloc _).alloc _)) (((((h2.alloc _).alloc _).alloc _).alloc _)) ((((h3.alloc _).alloc _).alloc _)) (((h4.alloc _).alloc _)) ((h5.alloc _)) h6 (by go_grown)
def ViewM (w:World) (e:Ending) (w':World):Prop:=∃ (k:Int) (o:List Int) (A:Option Addr) (c:Nat),e=.returned (.agg #[.int .i64 k,.slice A o.length c])∧Below w.heap.size w w'∧IntsAt w' (New w) A o∧o.length≤c∧c≤maxLen∧Qy.viewOK k o=true
theorem ints_of {w:World} {g:Nat} {t:TypeId} {l:List Int} {S:Nat→Prop} (h:Own w g t (l.map i64)) (hS:S g):IntsAt w S (some ⟨g,0,none⟩) l:=
 .inr ⟨g,0,rfl,hS,h.lt,fun i z hz=>by
  rw [Nat.zero_add,h.cell,List.getElem?_map,hz]
  rfl⟩
set_option maxRecDepth 100000 in
set_option maxHeartbeats 6400000 in
theorem View_any (n:Int) (hn:-9223372036854775808≤n∧n≤9223372036854775807) (w:World):Calls Tryz.prog 21 #[.int .i64 n] w (ViewM w):=by
 obtain ⟨a,ha⟩:∃ a,around n 1048576=a:=⟨_,rfl⟩
 have hb:=around_bd n (m:=1048576) (by omega)
 have HA:=Lib.hid fun u=>Around_any n 1048576 u (by omega) (by omega) (by omega) (by omega)
 rw [ha] at HA hb
 clear ha
 go_enter Tryz.func21,Tryz.ntmps21
 go_upto_region 1 with fail
 refine wp_new1 fun W0 hO hB=>?_
 go_wp2_with fail
 refine (HA.out _).mono ?_
 rintro e w1 ⟨rfl,k1⟩
 have hO1:=hO.on k1
 have hB1:=Below.call hB k1
 have hz1:=hO1.lt
 clear hO hB k1
 rcases (by omega:a % 5=0∨a % 5=1∨a % 5=2∨a % 5=3∨a % 5=4) with h5 | h5 | h5 | h5 | h5
 ·
  obtain ⟨hOp,hkp⟩:=hO1.put2' (x0:=.int .i64 0) (x1:=.slice (some ⟨w1.heap.size,0,none⟩) 1 1)
  have es:((w1.setCell ⟨w.heap.size,0,none⟩ (.int .i64 0)).setCell ⟨w.heap.size,1,none⟩ (.slice (some ⟨w1.heap.size,0,none⟩) 1 1)).heap.size=w1.heap.size:=by simp
  have hN:Own (((w1.setCell ⟨w.heap.size,0,none⟩ (.int .i64 0)).setCell ⟨w.heap.size,1,none⟩ (.slice (some ⟨w1.heap.size,0,none⟩) 1 1)).alloc (.cells #[.int .i64 (a / 5 % 3)] 3)) ((w1.setCell ⟨w.heap.size,0,none⟩ (.int .i64 0)).setCell ⟨w.heap.size,1,none⟩ (.slice (some ⟨w1.heap.size,0,none⟩) 1 1)).heap.size 3 ([a / 5 % 3].map i64):=Own.new ((w1.setCell ⟨w.heap.size,0,none⟩ (.int .i64 0)).setCell ⟨w.heap.size,1,none⟩ (.slice (some ⟨w1.heap.size,0,none⟩) 1 1)) 3 ([a / 5 % 3].map i64)
  rw [es] at hN
  have hO9:=hOp.alloc (.cells #[.int .i64 (a / 5 % 3)] 3)
  have hB9:=Below.call (below_put hB1 hkp (Nat.le_refl _)) (below_new _ (.cells #[.int .i64 (a / 5 % 3)] 3))
  have z0:=hO1.c0
  have z1:=hO1.c1
  have f0:=hO1.frozen 0
  have f1:=hO1.frozen 1
  have hvk:Qy.viewOK 0 [a / 5 % 3]=true:=by unfold Qy.viewOK;simp;omega
  have HF:=Lib.hid (And.intro hO9 (And.intro hB9 hN))
  clear hO1 hB1 hOp hkp es hN hO9 hB9
  go_wp2_with fail
  obtain ⟨hO9,hB9,hN⟩:=HF.out
  clear z0 z1 f0 f1 HF
  revert hO9 hB9 hN
  generalize World.alloc _ _=W9
  intro hO9 hB9 hN
  have q0:=hO9.c0
  have q1:=hO9.c1
  refine bodyPost_ret (v:=.agg #[.int .i64 0,.slice (some ⟨w1.heap.size,0,none⟩) 1 1]) (by simp [results,Tryz.results21,go_sem,q0,q1]) rfl ?_
  exact ⟨0,[a / 5 % 3],_,_,rfl,hB9,ints_of hN (show w.heap.size≤w1.heap.size by omega),by simp,by unfold maxLen;omega,hvk⟩
 ·
  obtain ⟨hOp,hkp⟩:=hO1.put2' (x0:=.int .i64 0) (x1:=.slice (some ⟨w1.heap.size,0,none⟩) 1 1)
  have es:((w1.setCell ⟨w.heap.size,0,none⟩ (.int .i64 0)).setCell ⟨w.heap.size,1,none⟩ (.slice (some ⟨w1.heap.size,0,none⟩) 1 1)).heap.size=w1.heap.size:=by simp
  have hN:Own (((w1.setCell ⟨w.heap.size,0,none⟩ (.int .i64 0)).setCell ⟨w.heap.size,1,none⟩ (.slice (some ⟨w1.heap.size,0,none⟩) 1 1)).alloc (.cells #[.int .i64 (a / 5 % 3)] 3)) ((w1.setCell ⟨w.heap.size,0,none⟩ (.int .i64 0)).setCell ⟨w.heap.size,1,none⟩ (.slice (some ⟨w1.heap.size,0,none⟩) 1 1)).heap.size 3 ([a / 5 % 3].map i64):=Own.new ((w1.setCell ⟨w.heap.size,0,none⟩ (.int .i64 0)).setCell ⟨w.heap.size,1,none⟩ (.slice (some ⟨w1.heap.size,0,none⟩) 1 1)) 3 ([a / 5 % 3].map i64)
  rw [es] at hN
  have hO9:=hOp.alloc (.cells #[.int .i64 (a / 5 % 3)] 3)
  have hB9:=Below.call (below_put hB1 hkp (Nat.le_refl _)) (below_new _ (.cells #[.int .i64 (a / 5 % 3)] 3))
  have z0:=hO1.c0
  have z1:=hO1.c1
  have f0:=hO1.frozen 0
  have f1:=hO1.frozen 1
  have hvk:Qy.viewOK 0 [a / 5 % 3]=true:=by unfold Qy.viewOK;simp;omega
  have HF:=Lib.hid (And.intro hO9 (And.intro hB9 hN))
  clear hO1 hB1 hOp hkp es hN hO9 hB9
  go_wp2_with fail
  obtain ⟨hO9,hB9,hN⟩:=HF.out
  clear z0 z1 f0 f1 HF
  revert hO9 hB9 hN
  generalize World.alloc _ _=W9
  intro hO9 hB9 hN
  have q0:=hO9.c0
  have q1:=hO9.c1
  refine bodyPost_ret (v:=.agg #[.int .i64 0,.slice (some ⟨w1.heap.size,0,none⟩) 1 1]) (by simp [results,Tryz.results21,go_sem,q0,q1]) rfl ?_
  exact ⟨0,[a / 5 % 3],_,_,rfl,hB9,ints_of hN (show w.heap.size≤w1.heap.size by omega),by simp,by unfold maxLen;omega,hvk⟩
 ·
  have hB2:=hB1
  have z0:=hO1.c0
  have z1:=hO1.c1
  have f0:=hO1.frozen 0
  have f1:=hO1.frozen 1
  have HF:=Lib.hid (And.intro hO1 (And.intro hB2 (show IntsAt w1 (fun g=>w.heap.size<g) none [] from .inl rfl)))
  clear hO1 hB2
  go_wp2_with fail
  obtain ⟨hO,hk⟩:=HF.out.1.put2' (x0:=.int .i64 2) (x1:=.slice none 0 0)
  clear z0 z1 f0 f1
  revert hO hk
  generalize ((World.setCell _ _ _).setCell _ _)=W9
  intro hO hk
  have q0:=hO.c0
  have q1:=hO.c1
  refine bodyPost_ret (v:=.agg #[.int .i64 2,.slice none 0 0]) (by simp [results,Tryz.results21,go_sem,q0,q1]) rfl ?_
  refine ⟨2,[],_,_,rfl,below_put HF.out.2.1 hk (Nat.le_refl _),?_,by simp,by unfold maxLen;omega,by decide⟩
  exact HF.out.2.2.keep hk.size fun g hg hl=>⟨Nat.le_of_lt hg,hk.heap hl (fun e=>by have hg9:w.heap.size<g:=hg;omega)⟩
 ·
  go_upto_region 9 with fail
  refine wp_new7 fun W3 h0 h1 h2 h3 h4 h5 hS kn=>?_
  have hO2:=hO1.on kn
  have hB2:=Below.call hB1 kn
  clear kn hO1 hB1
  rcases (by omega:a / 5 % 6=0∨a / 5 % 6=1∨a / 5 % 6=2∨a / 5 % 6=3∨a / 5 % 6=4∨a / 5 % 6=5) with h6 | h6 | h6 | h6 | h6 | h6
  ·
   have zs:=hS.cell 0
   have HI:=Lib.hid (ints_of (l:=[0,1]) (S:=fun g=>w.heap.size<g) h0 (by show w.heap.size<w1.heap.size;omega))
   clear h0 h1 h2 h3 h4 h5 hS
   have z0:=hO2.c0
   have z1:=hO2.c1
   have f0:=hO2.frozen 0
   have f1:=hO2.frozen 1
   have HF:=Lib.hid (And.intro hO2 (And.intro hB2 HI.out))
   clear hO2 hB2
   go_wp2_with fail
   obtain ⟨hO,hk⟩:=HF.out.1.put2' (x0:=.int .i64 1) (x1:=.slice (some ⟨w1.heap.size,0,none⟩) 2 2)
   clear z0 z1 f0 f1
   revert hO hk
   generalize ((World.setCell _ _ _).setCell _ _)=W9
   intro hO hk
   have q0:=hO.c0
   have q1:=hO.c1
   refine bodyPost_ret (v:=.agg #[.int .i64 1,.slice (some ⟨w1.heap.size,0,none⟩) 2 2]) (by simp [results,Tryz.results21,go_sem,q0,q1]) rfl ?_
   refine ⟨1,[0,1],_,_,rfl,below_put HF.out.2.1 hk (Nat.le_refl _),?_,by simp,by unfold maxLen;omega,by decide⟩
   exact HF.out.2.2.keep hk.size fun g hg hl=>⟨Nat.le_of_lt hg,hk.heap hl (fun e=>by have hg9:w.heap.size<g:=hg;omega)⟩
  ·
   have zs:=hS.cell 1
   have HI:=Lib.hid (ints_of (l:=[1,0]) (S:=fun g=>w.heap.size<g) h1 (by show w.heap.size<w1.heap.size+1;omega))
   clear h0 h1 h2 h3 h4 h5 hS
   have z0:=hO2.c0
   have z1:=hO2.c1
   have f0:=hO2.frozen 0
   have f1:=hO2.frozen 1
   have HF:=Lib.hid (And.intro hO2 (And.intro hB2 HI.out))
   clear hO2 hB2
   go_wp2_with fail
   obtain ⟨hO,hk⟩:=HF.out.1.put2' (x0:=.int .i64 1) (x1:=.slice (some ⟨w1.heap.size+1,0,none⟩) 2 2)
   clear z0 z1 f0 f1
   revert hO hk
   generalize ((World.setCell _ _ _).setCell _ _)=W9
   intro hO hk
   have q0:=hO.c0
   have q1:=hO.c1
   refine bodyPost_ret (v:=.agg #[.int .i64 1,.slice (some ⟨w1.heap.size+1,0,none⟩) 2 2]) (by simp [results,Tryz.results21,go_sem,q0,q1]) rfl ?_
   refine ⟨1,[1,0],_,_,rfl,below_put HF.out.2.1 hk (Nat.le_refl _),?_,by simp,by unfold maxLen;omega,by decide⟩
   exact HF.out.2.2.keep hk.size fun g hg hl=>⟨Nat.le_of_lt hg,hk.heap hl (fun e=>by have hg9:w.heap.size<g:=hg;omega)⟩
  ·
   have zs:=hS.cell 2
   have HI:=Lib.hid (ints_of (l:=[0,1,2]) (S:=fun g=>w.heap.size<g) h2 (by show w.heap.size<w1.heap.size+1+1;omega))
   clear h0 h1 h2 h3 h4 h5 hS
   have z0:=hO2.c0
   have z1:=hO2.c1
   have f0:=hO2.frozen 0
   have f1:=hO2.frozen 1
   have HF:=Lib.hid (And.intro hO2 (And.intro hB2 HI.out))
   clear hO2 hB2
   go_wp2_with fail
   obtain ⟨hO,hk⟩:=HF.out.1.put2' (x0:=.int .i64 1) (x1:=.slice (some ⟨w1.heap.size+1+1,0,none⟩) 3 3)
   clear z0 z1 f0 f1
   revert hO hk
   generalize ((World.setCell _ _ _).setCell _ _)=W9
   intro hO hk
   have q0:=hO.c0
   have q1:=hO.c1
   refine bodyPost_ret (v:=.agg #[.int .i64 1,.slice (some ⟨w1.heap.size+1+1,0,none⟩) 3 3]) (by simp [results,Tryz.results21,go_sem,q0,q1]) rfl ?_
   refine ⟨1,[0,1,2],_,_,rfl,below_put HF.out.2.1 hk (Nat.le_refl _),?_,by simp,by unfold maxLen;omega,by decide⟩
   exact HF.out.2.2.keep hk.size fun g hg hl=>⟨Nat.le_of_lt hg,hk.heap hl (fun e=>by have hg9:w.heap.size<g:=hg;omega)⟩
  ·
   have zs:=hS.cell 3
   have HI:=Lib.hid (ints_of (l:=[2,1,0]) (S:=fun g=>w.heap.size<g) h3 (by show w.heap.size<w1.heap.size+1+1+1;omega))
   clear h0 h1 h2 h3 h4 h5 hS
   have z0:=hO2.c0
   have z1:=hO2.c1
   have f0:=hO2.frozen 0
   have f1:=hO2.frozen 1
   have HF:=Lib.hid (And.intro hO2 (And.intro hB2 HI.out))
   clear hO2 hB2
   go_wp2_with fail
   obtain ⟨hO,hk⟩:=HF.out.1.put2' (x0:=.int .i64 1) (x1:=.slice (some ⟨w1.heap.size+1+1+1,0,none⟩) 3 3)
   clear z0 z1 f0 f1
   revert hO hk
   generalize ((World.setCell _ _ _).setCell _ _)=W9
   intro hO hk
   have q0:=hO.c0
   have q1:=hO.c1
   refine bodyPost_ret (v:=.agg #[.int .i64 1,.slice (some ⟨w1.heap.size+1+1+1,0,none⟩) 3 3]) (by simp [results,Tryz.results21,go_sem,q0,q1]) rfl ?_
   refine ⟨1,[2,1,0],_,_,rfl,below_put HF.out.2.1 hk (Nat.le_refl _),?_,by simp,by unfold maxLen;omega,by decide⟩
   exact HF.out.2.2.keep hk.size fun g hg hl=>⟨Nat.le_of_lt hg,hk.heap hl (fun e=>by have hg9:w.heap.size<g:=hg;omega)⟩
  ·
   have zs:=hS.cell 4
   have HI:=Lib.hid (ints_of (l:=[1]) (S:=fun g=>w.heap.size<g) h4 (by show w.heap.size<w1.heap.size+1+1+1+1;omega))
   clear h0 h1 h2 h3 h4 h5 hS
   have z0:=hO2.c0
   have z1:=hO2.c1
   have f0:=hO2.frozen 0
   have f1:=hO2.frozen 1
   have HF:=Lib.hid (And.intro hO2 (And.intro hB2 HI.out))
   clear hO2 hB2
   go_wp2_with fail
   obtain ⟨hO,hk⟩:=HF.out.1.put2' (x0:=.int .i64 1) (x1:=.slice (some ⟨w1.heap.size+1+1+1+1,0,none⟩) 1 1)
   clear z0 z1 f0 f1
   revert hO hk
   generalize ((World.setCell _ _ _).setCell _ _)=W9
   intro hO hk
   have q0:=hO.c0
   have q1:=hO.c1
   refine bodyPost_ret (v:=.agg #[.int .i64 1,.slice (some ⟨w1.heap.size+1+1+1+1,0,none⟩) 1 1]) (by simp [results,Tryz.results21,go_sem,q0,q1]) rfl ?_
   refine ⟨1,[1],_,_,rfl,below_put HF.out.2.1 hk (Nat.le_refl _),?_,by simp,by unfold maxLen;omega,by decide⟩
   exact HF.out.2.2.keep hk.size fun g hg hl=>⟨Nat.le_of_lt hg,hk.heap hl (fun e=>by have hg9:w.heap.size<g:=hg;omega)⟩
  ·
   have zs:=hS.cell 5
   have HI:=Lib.hid (ints_of (l:=[2,0]) (S:=fun g=>w.heap.size<g) h5 (by show w.heap.size<w1.heap.size+1+1+1+1+1;omega))
   clear h0 h1 h2 h3 h4 h5 hS
   have z0:=hO2.c0
   have z1:=hO2.c1
   have f0:=hO2.frozen 0
   have f1:=hO2.frozen 1
   have HF:=Lib.hid (And.intro hO2 (And.intro hB2 HI.out))
   clear hO2 hB2
   go_wp2_with fail
   obtain ⟨hO,hk⟩:=HF.out.1.put2' (x0:=.int .i64 1) (x1:=.slice (some ⟨w1.heap.size+1+1+1+1+1,0,none⟩) 2 2)
   clear z0 z1 f0 f1
   revert hO hk
   generalize ((World.setCell _ _ _).setCell _ _)=W9
   intro hO hk
   have q0:=hO.c0
   have q1:=hO.c1
   refine bodyPost_ret (v:=.agg #[.int .i64 1,.slice (some ⟨w1.heap.size+1+1+1+1+1,0,none⟩) 2 2]) (by simp [results,Tryz.results21,go_sem,q0,q1]) rfl ?_
   refine ⟨1,[2,0],_,_,rfl,below_put HF.out.2.1 hk (Nat.le_refl _),?_,by simp,by unfold maxLen;omega,by decide⟩
   exact HF.out.2.2.keep hk.size fun g hg hl=>⟨Nat.le_of_lt hg,hk.heap hl (fun e=>by have hg9:w.heap.size<g:=hg;omega)⟩
 ·
  go_upto_region 9 with fail
  refine wp_new7 fun W3 h0 h1 h2 h3 h4 h5 hS kn=>?_
  have hO2:=hO1.on kn
  have hB2:=Below.call hB1 kn
  clear kn hO1 hB1
  rcases (by omega:a / 5 % 6=0∨a / 5 % 6=1∨a / 5 % 6=2∨a / 5 % 6=3∨a / 5 % 6=4∨a / 5 % 6=5) with h6 | h6 | h6 | h6 | h6 | h6
  ·
   have zs:=hS.cell 0
   have HI:=Lib.hid (ints_of (l:=[0,1]) (S:=fun g=>w.heap.size<g) h0 (by show w.heap.size<w1.heap.size;omega))
   clear h0 h1 h2 h3 h4 h5 hS
   have z0:=hO2.c0
   have z1:=hO2.c1
   have f0:=hO2.frozen 0
   have f1:=hO2.frozen 1
   have HF:=Lib.hid (And.intro hO2 (And.intro hB2 HI.out))
   clear hO2 hB2
   go_wp2_with fail
   obtain ⟨hO,hk⟩:=HF.out.1.put2' (x0:=.int .i64 1) (x1:=.slice (some ⟨w1.heap.size,0,none⟩) 2 2)
   clear z0 z1 f0 f1
   revert hO hk
   generalize ((World.setCell _ _ _).setCell _ _)=W9
   intro hO hk
   have q0:=hO.c0
   have q1:=hO.c1
   refine bodyPost_ret (v:=.agg #[.int .i64 1,.slice (some ⟨w1.heap.size,0,none⟩) 2 2]) (by simp [results,Tryz.results21,go_sem,q0,q1]) rfl ?_
   refine ⟨1,[0,1],_,_,rfl,below_put HF.out.2.1 hk (Nat.le_refl _),?_,by simp,by unfold maxLen;omega,by decide⟩
   exact HF.out.2.2.keep hk.size fun g hg hl=>⟨Nat.le_of_lt hg,hk.heap hl (fun e=>by have hg9:w.heap.size<g:=hg;omega)⟩
  ·
   have zs:=hS.cell 1
   have HI:=Lib.hid (ints_of (l:=[1,0]) (S:=fun g=>w.heap.size<g) h1 (by show w.heap.size<w1.heap.size+1;omega))
   clear h0 h1 h2 h3 h4 h5 hS
   have z0:=hO2.c0
   have z1:=hO2.c1
   have f0:=hO2.frozen 0
   have f1:=hO2.frozen 1
   have HF:=Lib.hid (And.intro hO2 (And.intro hB2 HI.out))
   clear hO2 hB2
   go_wp2_with fail
   obtain ⟨hO,hk⟩:=HF.out.1.put2' (x0:=.int .i64 1) (x1:=.slice (some ⟨w1.heap.size+1,0,none⟩) 2 2)
   clear z0 z1 f0 f1
   revert hO hk
   generalize ((World.setCell _ _ _).setCell _ _)=W9
   intro hO hk
   have q0:=hO.c0
   have q1:=hO.c1
   refine bodyPost_ret (v:=.agg #[.int .i64 1,.slice (some ⟨w1.heap.size+1,0,none⟩) 2 2]) (by simp [results,Tryz.results21,go_sem,q0,q1]) rfl ?_
   refine ⟨1,[1,0],_,_,rfl,below_put HF.out.2.1 hk (Nat.le_refl _),?_,by simp,by unfold maxLen;omega,by decide⟩
   exact HF.out.2.2.keep hk.size fun g hg hl=>⟨Nat.le_of_lt hg,hk.heap hl (fun e=>by have hg9:w.heap.size<g:=hg;omega)⟩
  ·
   have zs:=hS.cell 2
   have HI:=Lib.hid (ints_of (l:=[0,1,2]) (S:=fun g=>w.heap.size<g) h2 (by show w.heap.size<w1.heap.size+1+1;omega))
   clear h0 h1 h2 h3 h4 h5 hS
   have z0:=hO2.c0
   have z1:=hO2.c1
   have f0:=hO2.frozen 0
   have f1:=hO2.frozen 1
   have HF:=Lib.hid (And.intro hO2 (And.intro hB2 HI.out))
   clear hO2 hB2
   go_wp2_with fail
   obtain ⟨hO,hk⟩:=HF.out.1.put2' (x0:=.int .i64 1) (x1:=.slice (some ⟨w1.heap.size+1+1,0,none⟩) 3 3)
   clear z0 z1 f0 f1
   revert hO hk
   generalize ((World.setCell _ _ _).setCell _ _)=W9
   intro hO hk
   have q0:=hO.c0
   have q1:=hO.c1
   refine bodyPost_ret (v:=.agg #[.int .i64 1,.slice (some ⟨w1.heap.size+1+1,0,none⟩) 3 3]) (by simp [results,Tryz.results21,go_sem,q0,q1]) rfl ?_
   refine ⟨1,[0,1,2],_,_,rfl,below_put HF.out.2.1 hk (Nat.le_refl _),?_,by simp,by unfold maxLen;omega,by decide⟩
   exact HF.out.2.2.keep hk.size fun g hg hl=>⟨Nat.le_of_lt hg,hk.heap hl (fun e=>by have hg9:w.heap.size<g:=hg;omega)⟩
  ·
   have zs:=hS.cell 3
   have HI:=Lib.hid (ints_of (l:=[2,1,0]) (S:=fun g=>w.heap.size<g) h3 (by show w.heap.size<w1.heap.size+1+1+1;omega))
   clear h0 h1 h2 h3 h4 h5 hS
   have z0:=hO2.c0
   have z1:=hO2.c1
   have f0:=hO2.frozen 0
   have f1:=hO2.frozen 1
   have HF:=Lib.hid (And.intro hO2 (And.intro hB2 HI.out))
   clear hO2 hB2
   go_wp2_with fail
   obtain ⟨hO,hk⟩:=HF.out.1.put2' (x0:=.int .i64 1) (x1:=.slice (some ⟨w1.heap.size+1+1+1,0,none⟩) 3 3)
   clear z0 z1 f0 f1
   revert hO hk
   generalize ((World.setCell _ _ _).setCell _ _)=W9
   intro hO hk
   have q0:=hO.c0
   have q1:=hO.c1
   refine bodyPost_ret (v:=.agg #[.int .i64 1,.slice (some ⟨w1.heap.size+1+1+1,0,none⟩) 3 3]) (by simp [results,Tryz.results21,go_sem,q0,q1]) rfl ?_
   refine ⟨1,[2,1,0],_,_,rfl,below_put HF.out.2.1 hk (Nat.le_refl _),?_,by simp,by unfold maxLen;omega,by decide⟩
   exact HF.out.2.2.keep hk.size fun g hg hl=>⟨Nat.le_of_lt hg,hk.heap hl (fun e=>by have hg9:w.heap.size<g:=hg;omega)⟩
  ·
   have zs:=hS.cell 4
   have HI:=Lib.hid (ints_of (l:=[1]) (S:=fun g=>w.heap.size<g) h4 (by show w.heap.size<w1.heap.size+1+1+1+1;omega))
   clear h0 h1 h2 h3 h4 h5 hS
   have z0:=hO2.c0
   have z1:=hO2.c1
   have f0:=hO2.frozen 0
   have f1:=hO2.frozen 1
   have HF:=Lib.hid (And.intro hO2 (And.intro hB2 HI.out))
   clear hO2 hB2
   go_wp2_with fail
   obtain ⟨hO,hk⟩:=HF.out.1.put2' (x0:=.int .i64 1) (x1:=.slice (some ⟨w1.heap.size+1+1+1+1,0,none⟩) 1 1)
   clear z0 z1 f0 f1
   revert hO hk
   generalize ((World.setCell _ _ _).setCell _ _)=W9
   intro hO hk
   have q0:=hO.c0
   have q1:=hO.c1
   refine bodyPost_ret (v:=.agg #[.int .i64 1,.slice (some ⟨w1.heap.size+1+1+1+1,0,none⟩) 1 1]) (by simp [results,Tryz.results21,go_sem,q0,q1]) rfl ?_
   refine ⟨1,[1],_,_,rfl,below_put HF.out.2.1 hk (Nat.le_refl _),?_,by simp,by unfold maxLen;omega,by decide⟩
   exact HF.out.2.2.keep hk.size fun g hg hl=>⟨Nat.le_of_lt hg,hk.heap hl (fun e=>by have hg9:w.heap.size<g:=hg;omega)⟩
  ·
   have zs:=hS.cell 5
   have HI:=Lib.hid (ints_of (l:=[2,0]) (S:=fun g=>w.heap.size<g) h5 (by show w.heap.size<w1.heap.size+1+1+1+1+1;omega))
   clear h0 h1 h2 h3 h4 h5 hS
   have z0:=hO2.c0
   have z1:=hO2.c1
   have f0:=hO2.frozen 0
   have f1:=hO2.frozen 1
   have HF:=Lib.hid (And.intro hO2 (And.intro hB2 HI.out))
   clear hO2 hB2
   go_wp2_with fail
   obtain ⟨hO,hk⟩:=HF.out.1.put2' (x0:=.int .i64 1) (x1:=.slice (some ⟨w1.heap.size+1+1+1+1+1,0,none⟩) 2 2)
   clear z0 z1 f0 f1
   revert hO hk
   generalize ((World.setCell _ _ _).setCell _ _)=W9
   intro hO hk
   have q0:=hO.c0
   have q1:=hO.c1
   refine bodyPost_ret (v:=.agg #[.int .i64 1,.slice (some ⟨w1.heap.size+1+1+1+1+1,0,none⟩) 2 2]) (by simp [results,Tryz.results21,go_sem,q0,q1]) rfl ?_
   refine ⟨1,[2,0],_,_,rfl,below_put HF.out.2.1 hk (Nat.le_refl _),?_,by simp,by unfold maxLen;omega,by decide⟩
   exact HF.out.2.2.keep hk.size fun g hg hl=>⟨Nat.le_of_lt hg,hk.heap hl (fun e=>by have hg9:w.heap.size<g:=hg;omega)⟩
def GoodQ (q:Qy.Qry):Prop:=(∃ y,Qy.MadeP 5 0 q.reg y)∧(0≤q.kind∧q.kind≤255)∧(0≤q.day∧q.day≤73048)∧(0≤q.scale∧q.scale≤23)∧Qy.viewOK q.vkind q.offs=true
set_option maxRecDepth 100000 in
set_option maxHeartbeats 6400000 in
theorem Some_any {w:World} {A:Option Addr} {l:List Int} {c:Nat} (h:IntsIs w A l c) :
 Calls Tryz.prog 8 #[.slice A l.length c] w fun e w'=>∃ (q:Qy.Qry) (v:Value),e=.returned v∧Below w.heap.size w w'∧qryV w q v w'∧GoodQ q:=by
 obtain ⟨pk,hpk⟩:∃ x,pick l 0 256=x:=⟨_,rfl⟩
 obtain ⟨pd,hpd⟩:∃ x,pick l 1 73049=x:=⟨_,rfl⟩
 obtain ⟨ps,hps⟩:∃ x,pick l 2 24=x:=⟨_,rfl⟩
 obtain ⟨pv,hpv⟩:∃ x,pick l 3 1048576=x:=⟨_,rfl⟩
 have b0:=pick_bd l 0 (m:=256) (by omega)
 have b1:=pick_bd l 1 (m:=73049) (by omega)
 have b2:=pick_bd l 2 (m:=24) (by omega)
 have b3:=pick_bd l 3 (m:=1048576) (by omega)
 rw [hpk] at b0
 rw [hpd] at b1
 rw [hps] at b2
 rw [hpv] at b3
 have HB:=Lib.hid (And.intro b0 (And.intro b1 b2))
 have HM:Hid (∀ u,Below w.heap.size w u→Calls Tryz.prog 31 #[.slice A l.length c,.int .i64 5] u fun e w'=>∃ (R:Qy.Reg) (y:Nat) (v:Value),e=.returned v∧Below u.heap.size u w'∧regV u R v w'∧Qy.MadeP 5 0 R y):=Lib.hid fun u k=>Made_any (h.on k) 5 (by omega) (by omega)
 have HP0:Hid (∀ u,Below w.heap.size w u→Calls Tryz.prog 32 #[.slice A l.length c,.int .i64 0,.int .i64 256] u (RetInt u pk)):=Lib.hid fun u k=>hpk▸Pick_any (h.on k) 0 256 (by omega) (by omega)
 have HP1:Hid (∀ u,Below w.heap.size w u→Calls Tryz.prog 32 #[.slice A l.length c,.int .i64 1,.int .i64 73049] u (RetInt u pd)):=Lib.hid fun u k=>hpd▸Pick_any (h.on k) 1 73049 (by omega) (by omega)
 have HP2:Hid (∀ u,Below w.heap.size w u→Calls Tryz.prog 32 #[.slice A l.length c,.int .i64 2,.int .i64 24] u (RetInt u ps)):=Lib.hid fun u k=>hps▸Pick_any (h.on k) 2 24 (by omega) (by omega)
 have HP3:Hid (∀ u,Below w.heap.size w u→Calls Tryz.prog 32 #[.slice A l.length c,.int .i64 3,.int .i64 1048576] u (RetInt u pv)):=Lib.hid fun u k=>hpv▸Pick_any (h.on k) 3 1048576 (by omega) (by omega)
 have HV:=Lib.hid fun u=>View_any pv (by omega) u
 obtain ⟨L,hL⟩:∃ L,l.length=L:=⟨_,rfl⟩
 rw [hL] at HM HP0 HP1 HP2 HP3
 rw [hL]
 clear hpk hpd hps hpv b0 b1 b2 b3 h hL
 go_enter Tryz.func8,Tryz.ntmps8
 go_upto_region 1 with fail
 refine wp_new1 fun W0 hO hB0=>?_
 go_wp2_with fail
 refine (HM.out _ hB0).mono ?_
 rintro e w1 ⟨R,y,v,rfl,k1,hu,hmp⟩
 obtain ⟨n0,s1,n2,n3,n4,n5,n6,n7,A8,l8,c8,rfl,hR1,_⟩:=hu.lit
 have hB1:=Below.call hB0 k1
 go_wp2_with fail
 refine (HP0.out _ hB1).mono ?_
 rintro e w2 ⟨rfl,k2⟩
 have hB2:=Below.call hB1 k2
 go_wp2_with fail
 refine (HP1.out _ hB2).mono ?_
 rintro e w3 ⟨rfl,k3⟩
 have hB3:=Below.call hB2 k3
 go_wp2_with fail
 refine (HP2.out _ hB3).mono ?_
 rintro e w4 ⟨rfl,k4⟩
 have hB4:=Below.call hB3 k4
 have k14:=Below.call (Below.call k2 (by simpa using k3)) k4
 go_upto_region 2 with fail
 refine wp_new1 fun W5 hQ kn=>?_
 obtain ⟨g3,hg3⟩:∃ g,w4.heap.size=g:=⟨_,rfl⟩
 rw [hg3] at hQ ⊢
 have hB5:=Below.call hB4 kn
 have k15:=Below.call k14 kn
 have kk:=Below.call k1 k15
 have hO5:=hO.on kk
 have hzw:=hO.lt
 have hz14:=k14.size
 have hR5:=RegAt.keep (S':=fun g=>w.heap.size<g∧g<g3) k15.size (fun g hg hl=>⟨⟨Nat.lt_of_lt_of_le hzw hg,by omega⟩,k15.block g hl⟩) _ _ hR1
 have hg23:w.heap.size<g3:=by have:=(hO.on (Below.call k1 k14)).lt;omega
 have HS:=Lib.hid (And.intro hR5 hmp)
 clear hB0 hB1 hB2 hB3 hB4 k1 k2 k3 k4 k14 k15 kk kn hO hR1 hu hmp hg3
 go_wp2_with fail
 refine (HP3.out _ hB5).mono ?_
 rintro e w6 ⟨rfl,k6⟩
 have hB6:=Below.call hB5 k6
 have hQ6:=hQ.on k6
 have hO6:=hO5.on k6
 have HR6:=Lib.hid (HS.out.1.on k6)
 clear hB5 k6 hQ hO5
 go_wp2_with fail
 refine (HV.out _).mono ?_
 rintro e w7 ⟨vk,vo,vA,vc,rfl,k7,hI,hv1,hv2,hvk⟩
 have hB7:=Below.call hB6 k7
 have hQ7:=hQ6.on k7
 have hO7:=hO6.on k7
 have HR7:=Lib.hid (HR6.out.on k7)
 have hz6:=hQ6.lt
 have HV7:=Lib.hid (And.intro hI (And.intro hv1 (And.intro hv2 hvk)))
 clear hB6 hQ6 hO6 k7 hI hv1 hv2 hvk
 have z0:=hQ7.cell 10
 have f0:=hQ7.frozen 10
 have z1:=hQ7.cell 11
 have f1:=hQ7.frozen 11
 go_upto_region 3 with fail
 clear z0 f0 z1 f1
 have hk:=(At1.set_ (r:=g3) w7 (p:=⟨g3,10,none⟩) rfl (.int .i64 vk)).trans (At1.set_ _ (p:=⟨g3,11,none⟩) rfl (.slice vA vo.length vc))
 have hQ8:=(hQ7.set_ 10 (.int .i64 vk)).set_ 11 (.slice vA vo.length vc)
 have hO8:=hO7.at1 hk (Nat.ne_of_lt hg23)
 have hB8:=below_put hB7 hk (Nat.le_of_lt hg23)
 have hgw:=hQ7.lt
 clear hQ7 hO7 hB7
 revert hk hQ8 hO8 hB8
 generalize ((World.setCell _ _ _).setCell _ _)=W8
 intro hk hQ8 hO8 hB8
 have hQ:Own W8 g3 36 [.int .i64 pk,.int .i64 n0,.string s1,.int .i64 n2,.int .i64 n3,.int .i64 n4,.int .i64 n5,.int .i64 n6,.int .i64 n7,.slice A8 l8 c8,.int .i64 vk,.slice vA vo.length vc,.int .i64 pd,.int .i64 ps]:=hQ8
 obtain ⟨⟨y0,y1,y2,y3,y4,y5,y6,y7,y8,y9,y10,y11,y12,y13⟩,_⟩:=hQ.all14
 obtain ⟨⟨z0,z1,z2,z3,z4,z5,z6,z7,z8,z9,z10,z11,z12,z13⟩,f0,f1,f2,f3,f4,f5,f6,f7,f8,f9,f10,f11,f12,f13⟩:=hO8.all14
 have HF:=Lib.hid (And.intro hO8 (And.intro hB8 hk))
 clear hQ hQ8 hO8 hB8 hk
 go_wp2_with fail
 obtain ⟨hO,hk9⟩:=HF.out.1.put14 (x0:=.int .i64 pk) (x1:=.int .i64 n0) (x2:=.string s1) (x3:=.int .i64 n2) (x4:=.int .i64 n3) (x5:=.int .i64 n4) (x6:=.int .i64 n5) (x7:=.int .i64 n6) (x8:=.int .i64 n7) (x9:=.slice A8 l8 c8) (x10:=.int .i64 vk) (x11:=.slice vA vo.length vc) (x12:=.int .i64 pd) (x13:=.int .i64 ps)
 clear z0 z1 z2 z3 z4 z5 z6 z7 z8 z9 z10 z11 z12 z13 f0 f1 f2 f3 f4 f5 f6 f7 f8 f9 f10 f11 f12 f13 y0 y1 y2 y3 y4 y5 y6 y7 y8 y9 y10 y11 y12 y13
 revert hO hk9
 generalize (((((((((((((World.setCell _ _ _).setCell _ _).setCell _ _).setCell _ _).setCell _ _).setCell _ _).setCell _ _).setCell _ _).setCell _ _).setCell _ _).setCell _ _).setCell _ _).setCell _ _).setCell _ _=W9
 intro hO hk9
 obtain ⟨⟨q0,q1,q2,q3,q4,q5,q6,q7,q8,q9,q10,q11,q12,q13⟩,_⟩:=hO.all14
 refine bodyPost_ret (v:=.agg #[.int .i64 pk,.int .i64 n0,.string s1,.int .i64 n2,.int .i64 n3,.int .i64 n4,.int .i64 n5,.int .i64 n6,.int .i64 n7,.slice A8 l8 c8,.int .i64 vk,.slice vA vo.length vc,.int .i64 pd,.int .i64 ps]) (by simp [results,Tryz.results8,go_sem,q0,q1,q2,q3,q4,q5,q6,q7,q8,q9,q10,q11,q12,q13]) rfl ?_
 refine ⟨⟨pk,R,vk,vo,pd,ps⟩,_,rfl,below_put HF.out.2.1 hk9 (Nat.le_refl _),⟨[.int .i64 n0,.string s1,.int .i64 n2,.int .i64 n3,.int .i64 n4,.int .i64 n5,.int .i64 n6,.int .i64 n7,.slice A8 l8 c8],vA,vc,rfl,rfl,?_,?_,HV7.out.2.1,HV7.out.2.2.1⟩,⟨y,HS.out.2⟩,⟨HB.out.1.1,by have:=HB.out.1.2;show pk≤255;omega⟩,⟨HB.out.2.1.1,by have:=HB.out.2.1.2;show pd≤73048;omega⟩,⟨HB.out.2.2.1,by have:=HB.out.2.2.2;show ps≤23;omega⟩,HV7.out.2.2.2⟩
 ·have h8:=RegAt.keep (S':=fun g=>w.heap.size<g∧g<g3) HF.out.2.2.size (fun g hg hl=>⟨hg,HF.out.2.2.heap hl (Nat.ne_of_lt hg.2)⟩) _ _ HR7.out
  exact RegAt.keep hk9.size (fun g hg hl=>⟨Nat.le_of_lt hg.1,hk9.heap hl (Nat.ne_of_gt hg.1)⟩) _ _ h8
 ·have h8:=HV7.out.1.keep (S':=fun g=>w6.heap.size≤g) HF.out.2.2.size (fun g hg hl=>⟨hg,HF.out.2.2.heap hl (fun e=>by have hg9:w6.heap.size≤g:=hg;omega)⟩)
  exact h8.keep hk9.size (fun g hg hl=>⟨by have hg9:w6.heap.size≤g:=hg;show w.heap.size≤g;omega,hk9.heap hl (fun e=>by have hg9:w6.heap.size≤g:=hg;omega)⟩)
end Go.Proofs.YtmlpibdincfgbaaGreatDoor
namespace Go.Proofs.YtmlpibdincfgbaaGreatDoor
open Go.RowKit
set_option linter.unusedSimpArgs false
set_option linter.unusedVariables false
theorem goodV_pt (x y:Int):goodV x y=if Qy.ptOK x y=true then 0 else 5:=by unfold goodV goodC Qy.ptOK;simp [Bool.and_assoc]
theorem fine_parts {k:Int} {nm:Qy.Bs} {ax ay b0 b1 b2 b3:Int} {kids:List Qy.Reg} (h:Qy.nodeE (.mk k nm ax ay b0 b1 b2 b3 kids)=0) :
 (0≤k∧k≤6)∧(k<4→kids=[])∧(k=6→kids.length=1)∧(k≠1→nm=[])∧(k≠2→ax=0∧ay=0)∧(k≠3→b0=0∧b1=0∧b2=0∧b3=0)∧(k=1→Qy.nameOK nm=true)∧Qy.ptOK ax ay=true∧Qy.boxOK b0 b1 b2 b3=true∧∀ r∈kids,Qy.nodeE r=0:=by
 rw [Qy.nodeE] at h
 split at h
 ·cases h
 rename_i h1
 split at h
 ·cases h
 rename_i h2
 split at h
 ·cases h
 rename_i h3
 split at h
 ·cases h
 rename_i h4
 simp only [not_or] at h1 h2 h4
 obtain ⟨h11,h12,h13,h14⟩:=h1
 obtain ⟨h21,h22,h23⟩:=h2
 refine ⟨⟨by omega,by omega⟩,fun e=>Classical.byContradiction fun x=>h13 ⟨e,x⟩,fun e=>Classical.byContradiction fun x=>h14 ⟨e,x⟩,fun e=>Classical.byContradiction fun x=>h21 ⟨e,x⟩,fun e=>Classical.byContradiction fun x=>h22 ⟨e,x⟩,fun e=>Classical.byContradiction fun x=>h23 ⟨e,x⟩,fun e=>?_,?_,?_,Qy.nodesE_of h⟩
 ·cases hx:Qy.nameOK nm
  ·exact absurd ⟨e,hx⟩ h3
  ·rfl
 ·cases hx:Qy.ptOK ax ay
  ·exact absurd hx h4.1
  ·rfl
 ·cases hx:Qy.boxOK b0 b1 b2 b3
  ·exact absurd hx h4.2
  ·rfl
end Go.Proofs.YtmlpibdincfgbaaGreatDoor
namespace Go.Proofs.YtmlpibdincfgbaaGreatDoor
open Go.RowKit
set_option linter.unusedSimpArgs false
set_option linter.unusedVariables false
theorem lsz (l:List UInt8):(⟨l.toArray⟩:ByteArray).size=l.length:=by simp [ByteArray.size]
theorem txt_cat (a b:Qy.Bs):(⟨a.toArray⟩:ByteArray)++⟨b.toArray⟩=⟨(a++b).toArray⟩:=str_eq (by rw [str_cat])
theorem ptOK_in {x y:Int} (h:Qy.ptOK x y=true):in64 x∧in64 y:=by
 unfold Qy.ptOK at h
 simp only [Bool.and_eq_true,decide_eq_true_eq] at h
 unfold in64
 omega
theorem boxOK_in {a b c d:Int} (h:Qy.boxOK a b c d=true):Qy.ptOK a b=true∧Qy.ptOK c d=true:=by
 unfold Qy.boxOK at h
 simp only [Bool.and_eq_true] at h
 exact ⟨h.1.1.1,h.1.1.2⟩
end Go.Proofs.YtmlpibdincfgbaaGreatDoor
namespace Go.Proofs.YtmlpibdincfgbaaGreatDoor
open Go.RowKit
set_option linter.unusedSimpArgs false
set_option linter.unusedVariables false
theorem view_parts {k:Int} {l:List Int} (h:Qy.viewOK k l=true):((k=0∧l.length=1)∨(k=1∧1≤l.length∧l.length≤8)∨(k=2∧l.length=0))∧(∀ n∈l,0≤n∧n≤63)∧l.Nodup:=by
 unfold Qy.viewOK at h
 simp only [Bool.and_eq_true,Bool.or_eq_true,decide_eq_true_eq] at h
 obtain ⟨(h1 | h1) | h1,h2,h3⟩:=h
 ·exact ⟨.inl h1,h2,h3⟩
 ·exact ⟨.inr (.inl h1),h2,h3⟩
 ·exact ⟨.inr (.inr h1),h2,h3⟩
theorem IntsAt.get {w:World} {S:Nat→Prop} {A:Option Addr} {l:List Int} (h:IntsAt w S A l) (h0:0<l.length):∃ g off,A=some ⟨g,off,none⟩∧g<w.heap.size∧∀ (i:Nat) (z:Int),l[i]? = some z→w.cell? ⟨g,off+i,none⟩=some (.int .i64 z):=by
 rcases h with h | ⟨g,off,e,_,hg,hc⟩
 ·rw [h] at h0;cases h0
 ·exact ⟨g,off,e,hg,hc⟩
def sWd (k:Nat) (xs:List Value):Spec Bel:=⟨fun v w=>∃ g,v=.pointer (some ⟨g,k,none⟩)∧Own w g 9 xs,fun ⟨g,e,h⟩ k=>⟨g,e,h.on k⟩⟩
end Go.Proofs.YtmlpibdincfgbaaGreatDoor
namespace Go.Proofs.YtmlpibdincfgbaaGreatDoor
open Go.RowKit
set_option linter.unusedSimpArgs false
set_option linter.unusedVariables false
end Go.Proofs.YtmlpibdincfgbaaGreatDoor
