/-
  Chapter 38's reference: a region, a view, a query made of numbers.
  Chapter 38's reference: what is valid; the text of a region.
  Chapter 38's reference: the text of a region.
  Chapter 38's reference: a valid query passes; the text of a query.
  Chapter 38's reference: a text with a token changed; a text with further spaces.
-/
import Derived.Test.YtmlpibdincfgbaaDoorQS1
import Derived.Test.YtmlpibdincfgbaaDoorM10
import Derived.Test.YtmlpibdincfgbaaDoorA4
import Derived.Test.YtmlpibdincfgbaaDoorM9
namespace Go.Proofs.YtmlpibdincfgbaaDoor
open Go.RowKit
set_option linter.unusedSimpArgs false
set_option linter.unusedVariables false
set_option maxRecDepth 100000 in
set_option maxHeartbeats 3200000 in
theorem Made_any {w:World} {A:Option Addr} {l:List Int} {c:Nat} (h:IntsIs w A l c) (d:Nat) (d1:1≤d) (d8:d≤8) :
 Calls Tryd.prog 19 #[.slice A l.length c,.int .i64 (d:Int)] w fun e w'=>∃ (R:Qy.Reg) (y:Nat) (v:Value),e=.returned v∧Below w.heap.size w w'∧regV w R v w'∧Qy.MadeP d 0 R y:=by
 have HR:Hid (∀ (r:Nat) u,Mk r l 0 u→Calls Tryd.prog 44 #[.pointer (some ⟨r,0,none⟩),.int .i64 (d:Int)] u (MadeV r l d 0 u)):=Lib.hid fun r u k=>mkRegion_any r l d d1 d8 0 u k (by omega)
 have HI:=Lib.hid h
 obtain ⟨L,hL⟩:∃ L,l.length=L:=⟨_,rfl⟩
 have HL:=Lib.hid hL
 rw [hL]
 clear h hL
 go_enter Tryd.func19,Tryd.ntmps19
 go_upto_region 1 with fail
 refine wp_new1 fun W0 hO4 hB=>?_
 go_upto_region 2 with fail
 refine wp_new1 fun W1 hR kn=>?_
 obtain ⟨r,hr⟩:∃ r,W0.heap.size=r:=⟨_,rfl⟩
 rw [hr] at hR ⊢
 have hwr:w.heap.size<r:=by have:=hO4.lt;omega
 have hB1:=Below.call hB kn
 have hO41:=hO4.on kn
 have hmk:Mk r l 0 W1:=⟨hR.lt,A,c,by rw [HL.out];exact hR,HI.out.sl.keep_ (Nat.le_of_lt hwr) fun g hg=>hB1.block g hg,HI.out.rg,HI.out.cap,HI.out.mx⟩
 have HS:=Lib.hid (And.intro hmk (And.intro hB1 hO41))
 clear hB kn hO4 hO41 hR hr hB1 hmk
 go_wp2_with fail
 refine (HR.out r _ HS.out.1).mono ?_
 rintro e w2 ⟨R,y,v,rfl,hu,kat,hmk2,hmp⟩
 obtain ⟨n0,s1,n2,n3,n4,n5,n6,n7,A8,l8,c8,rfl,hR1,_⟩:=hu.lit
 have hO:=HS.out.2.2.at1 kat (Nat.ne_of_lt hwr)
 have hB2:=below_put HS.out.2.1 kat (Nat.le_of_lt hwr)
 obtain ⟨⟨z0,z1,z2,z3,z4,z5,z6,z7,z8⟩,f0,f1,f2,f3,f4,f5,f6,f7,f8⟩:=hO.all9
 have HF:=Lib.hid (And.intro hO (And.intro hB2 (And.intro hR1 hmp)))
 have HSZ:=Lib.hid (show r<W1.heap.size from HS.out.1.lt)
 clear hO hB2 hR1 hmp hmk2 kat hu HS
 go_wp2_with fail
 obtain ⟨hO,hk⟩:=HF.out.1.put9 (x0:=.int .i64 n0) (x1:=.string s1) (x2:=.int .i64 n2) (x3:=.int .i64 n3) (x4:=.int .i64 n4) (x5:=.int .i64 n5) (x6:=.int .i64 n6) (x7:=.int .i64 n7) (x8:=.slice A8 l8 c8)
 clear z0 z1 z2 z3 z4 z5 z6 z7 z8 f0 f1 f2 f3 f4 f5 f6 f7 f8
 revert hO hk
 generalize (((((((((World.setCell _ _ _).setCell _ _).setCell _ _).setCell _ _).setCell _ _).setCell _ _).setCell _ _).setCell _ _).setCell _ _)=W9
 intro hO hk
 obtain ⟨⟨q0,q1,q2,q3,q4,q5,q6,q7,q8⟩,_⟩:=hO.all9
 refine bodyPost_ret (v:=.agg #[.int .i64 n0,.string s1,.int .i64 n2,.int .i64 n3,.int .i64 n4,.int .i64 n5,.int .i64 n6,.int .i64 n7,.slice A8 l8 c8]) (by simp [results,Tryd.results19,go_sem,q0,q1,q2,q3,q4,q5,q6,q7,q8]) rfl ?_
 refine ⟨R,y,_,rfl,below_put HF.out.2.1 hk (Nat.le_refl _),⟨_,rfl,?_⟩,HF.out.2.2.2⟩
 exact RegAt.keep hk.size (fun g hg hl=>⟨Nat.le_trans (by have:=HSZ.out;omega) (show W1.heap.size≤g from hg),hk.heap hl (fun e=>by have hg9:W1.heap.size≤g:=hg;have:=HSZ.out;omega)⟩) _ _ HF.out.2.2.1
end Go.Proofs.YtmlpibdincfgbaaDoor
namespace Go.Proofs.YtmlpibdincfgbaaDoor
open Go.RowKit
set_option linter.unusedSimpArgs false
set_option linter.unusedVariables false
end Go.Proofs.YtmlpibdincfgbaaDoor
namespace Go.Proofs.YtmlpibdincfgbaaDoor
open Go.RowKit
set_option linter.unusedSimpArgs false
set_option linter.unusedVariables false
end Go.Proofs.YtmlpibdincfgbaaDoor
namespace Go.Proofs.YtmlpibdincfgbaaDoor
open Go.RowKit
set_option linter.unusedSimpArgs false
set_option linter.unusedVariables false
theorem IntsAt.get {w:World} {S:Nat→Prop} {A:Option Addr} {l:List Int} (h:IntsAt w S A l) (h0:0<l.length):∃ g off,A=some ⟨g,off,none⟩∧g<w.heap.size∧∀ (i:Nat) (z:Int),l[i]? = some z→w.cell? ⟨g,off+i,none⟩=some (.int .i64 z):=by
 rcases h with h | ⟨g,off,e,_,hg,hc⟩
 ·rw [h] at h0;cases h0
 ·exact ⟨g,off,e,hg,hc⟩
end Go.Proofs.YtmlpibdincfgbaaDoor
namespace Go.Proofs.YtmlpibdincfgbaaDoor
open Go.RowKit
set_option linter.unusedSimpArgs false
set_option linter.unusedVariables false
end Go.Proofs.YtmlpibdincfgbaaDoor
