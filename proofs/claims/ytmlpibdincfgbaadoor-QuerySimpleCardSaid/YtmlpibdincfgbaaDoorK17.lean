/-
  Package query: a query is read.
-/
import Derived.Test.YtmlpibdincfgbaaDoorK16
namespace Go.Proofs.YtmlpibdincfgbaaDoor
open Go.RowKit
set_option linter.unusedSimpArgs false
set_option linter.unusedVariables false
def qryV (w0:World) (q:Qy.Qry) (v:Value) (w:World):Prop:=∃ (cs:List Value) (A:Option Addr) (c:Nat),v=.agg (.int .i64 q.kind :: (cs++[.int .i64 q.vkind,.slice A q.offs.length c,.int .i64 q.day,.int .i64 q.scale])).toArray∧cs.length=9∧RegAt w (New w0) cs q.reg∧IntsAt w (New w0) A q.offs∧q.offs.length≤c∧c≤maxLen
theorem IntsAt.at1 {w0 w w':World} {r:Nat} {A:Option Addr} {l:List Int} (h:IntsAt w (New w0) A l) (k:At1 r w w') (hr:r<w0.heap.size):IntsAt w' (New w0) A l:=
 h.keep k.size fun g hg hl=>⟨hg,k.heap hl (fun e=>by have hg9:w0.heap.size≤g:=hg;omega)⟩
theorem viewV.lit {w0 w:World} {v:Int × List Int} {x:Value} (h:viewV w0 v x w):∃ A l c,x=.agg #[.int .i64 v.1,.slice A l c]∧l=v.2.length∧IntsAt w (New w0) A v.2∧v.2.length≤c∧c≤maxLen:=by
 obtain ⟨A,c,h1,h2,h3⟩:=h
 exact ⟨A,_,c,h1,rfl,h2,h3⟩
theorem Own.put14 {w:World} {g:Nat} {t:TypeId} {z0 z1 z2 z3 z4 z5 z6 z7 z8 z9 z10 z11 z12 z13 x0 x1 x2 x3 x4 x5 x6 x7 x8 x9 x10 x11 x12 x13:Value} (h:Own w g t [z0,z1,z2,z3,z4,z5,z6,z7,z8,z9,z10,z11,z12,z13]):Own ((((((((((((((w.setCell ⟨g,0,none⟩ x0).setCell ⟨g,1,none⟩ x1).setCell ⟨g,2,none⟩ x2).setCell ⟨g,3,none⟩ x3).setCell ⟨g,4,none⟩ x4).setCell ⟨g,5,none⟩ x5).setCell ⟨g,6,none⟩ x6).setCell ⟨g,7,none⟩ x7).setCell ⟨g,8,none⟩ x8).setCell ⟨g,9,none⟩ x9).setCell ⟨g,10,none⟩ x10).setCell ⟨g,11,none⟩ x11).setCell ⟨g,12,none⟩ x12).setCell ⟨g,13,none⟩ x13) g t [x0,x1,x2,x3,x4,x5,x6,x7,x8,x9,x10,x11,x12,x13]∧At1 g w ((((((((((((((w.setCell ⟨g,0,none⟩ x0).setCell ⟨g,1,none⟩ x1).setCell ⟨g,2,none⟩ x2).setCell ⟨g,3,none⟩ x3).setCell ⟨g,4,none⟩ x4).setCell ⟨g,5,none⟩ x5).setCell ⟨g,6,none⟩ x6).setCell ⟨g,7,none⟩ x7).setCell ⟨g,8,none⟩ x8).setCell ⟨g,9,none⟩ x9).setCell ⟨g,10,none⟩ x10).setCell ⟨g,11,none⟩ x11).setCell ⟨g,12,none⟩ x12).setCell ⟨g,13,none⟩ x13):=
 ⟨((((((((((((((h.set_ 0 x0).set_ 1 x1).set_ 2 x2).set_ 3 x3).set_ 4 x4).set_ 5 x5).set_ 6 x6).set_ 7 x7).set_ 8 x8).set_ 9 x9).set_ 10 x10).set_ 11 x11).set_ 12 x12).set_ 13 x13),((((((((((((((At1.set_ w (p:=⟨g,0,none⟩) rfl x0).trans (At1.set_ _ (p:=⟨g,1,none⟩) rfl x1)).trans (At1.set_ _ (p:=⟨g,2,none⟩) rfl x2)).trans (At1.set_ _ (p:=⟨g,3,none⟩) rfl x3)).trans (At1.set_ _ (p:=⟨g,4,none⟩) rfl x4)).trans (At1.set_ _ (p:=⟨g,5,none⟩) rfl x5)).trans (At1.set_ _ (p:=⟨g,6,none⟩) rfl x6)).trans (At1.set_ _ (p:=⟨g,7,none⟩) rfl x7)).trans (At1.set_ _ (p:=⟨g,8,none⟩) rfl x8)).trans (At1.set_ _ (p:=⟨g,9,none⟩) rfl x9)).trans (At1.set_ _ (p:=⟨g,10,none⟩) rfl x10)).trans (At1.set_ _ (p:=⟨g,11,none⟩) rfl x11)).trans (At1.set_ _ (p:=⟨g,12,none⟩) rfl x12)).trans (At1.set_ _ (p:=⟨g,13,none⟩) rfl x13))⟩
theorem Own.all14 {w:World} {g:Nat} {t:TypeId} {z0 z1 z2 z3 z4 z5 z6 z7 z8 z9 z10 z11 z12 z13:Value} (h:Own w g t [z0,z1,z2,z3,z4,z5,z6,z7,z8,z9,z10,z11,z12,z13]):(w.cell? ⟨g,0,none⟩=some z0∧w.cell? ⟨g,1,none⟩=some z1∧w.cell? ⟨g,2,none⟩=some z2∧w.cell? ⟨g,3,none⟩=some z3∧w.cell? ⟨g,4,none⟩=some z4∧w.cell? ⟨g,5,none⟩=some z5∧w.cell? ⟨g,6,none⟩=some z6∧w.cell? ⟨g,7,none⟩=some z7∧w.cell? ⟨g,8,none⟩=some z8∧w.cell? ⟨g,9,none⟩=some z9∧w.cell? ⟨g,10,none⟩=some z10∧w.cell? ⟨g,11,none⟩=some z11∧w.cell? ⟨g,12,none⟩=some z12∧w.cell? ⟨g,13,none⟩=some z13)∧(w.frozen? ⟨g,0,none⟩=false∧w.frozen? ⟨g,1,none⟩=false∧w.frozen? ⟨g,2,none⟩=false∧w.frozen? ⟨g,3,none⟩=false∧w.frozen? ⟨g,4,none⟩=false∧w.frozen? ⟨g,5,none⟩=false∧w.frozen? ⟨g,6,none⟩=false∧w.frozen? ⟨g,7,none⟩=false∧w.frozen? ⟨g,8,none⟩=false∧w.frozen? ⟨g,9,none⟩=false∧w.frozen? ⟨g,10,none⟩=false∧w.frozen? ⟨g,11,none⟩=false∧w.frozen? ⟨g,12,none⟩=false∧w.frozen? ⟨g,13,none⟩=false):=
 ⟨⟨h.cell 0,h.cell 1,h.cell 2,h.cell 3,h.cell 4,h.cell 5,h.cell 6,h.cell 7,h.cell 8,h.cell 9,h.cell 10,h.cell 11,h.cell 12,h.cell 13⟩,h.frozen 0,h.frozen 1,h.frozen 2,h.frozen 3,h.frozen 4,h.frozen 5,h.frozen 6,h.frozen 7,h.frozen 8,h.frozen 9,h.frozen 10,h.frozen 11,h.frozen 12,h.frozen 13⟩
set_option maxRecDepth 100000 in
set_option maxHeartbeats 3200000 in
theorem qQuery (B r:Nat) (l:List Qy.Tok) (w:World) (h:RdAt B r l w) (hg:Qy.Good l) (hl:l.length≤5000):Calls Tryd.prog 32 #[.pointer (some ⟨r,0,none⟩)] w (Ends B r w (Qy.pQuery Qy.FU l) (qryV w)):=by
 have hrw:=h.lt
 have hBw:=h.2.1
 have HG:=Lib.hid hg
 have hf:3 * l.length+10≤Qy.FU:=by unfold Qy.FU;omega
 obtain ⟨F,hF⟩:∃ F,Qy.FU=F:=⟨_,rfl⟩
 rw [hF] at hf ⊢
 clear hF
 have HF1:=Lib.hid (And.intro hf hl)
 have HS:Hid (∀ l,Qy.Good l→Shaped l):=Lib.hid fun l hg t ht=>hg.shaped t ht
 obtain ⟨RES,hRES⟩:∃ RES,Qy.pQuery F l=RES:=⟨_,rfl⟩
 rw [hRES]
 unfold Qy.pQuery at hRES
 have HRES:=Lib.hid hRES
 clear hg hf hl hRES
 go_enter Tryd.func32,Tryd.ntmps32
 go_upto_region 2 with fail
 refine wp_new2 fun W0 hA hQ hB=>?_
 obtain ⟨g3,hg3⟩:∃ g3,w.heap.size+1=g3:=⟨_,rfl⟩
 rw [hg3] at hQ ⊢
 have gA:w.heap.size≠r:=by omega
 have gQ:g3≠r:=by omega
 have g23:w.heap.size<g3:=by omega
 have zq0:=hQ.lt
 have hrd0:=h.on hB
 have hat:=At1.of_below (r:=r) hB
 clear hB h hg3
 have HN1:Hid (∀ u,RdAt B r l u→Calls Tryd.prog 52 #[.pointer (some ⟨r,0,none⟩),.string ⟨#[99,111,117,110,116]⟩] u (Ends B r u (Qy.need [99,111,117,110,116] l) unitV)):=Lib.hid fun u k=>qNeed B r l _ u k
 go_wp2_with fail
 refine (HN1.out _ hrd0).mono ?_
 rintro e2 w1 hE_
 rcases hE_.cases with ⟨un1,l1,v,hr_,rfl,hv_,hrd2,k_⟩ | ⟨x_,er_,hr_,rfl,k_⟩
 rotate_left
 ·have hpan_:=HRES.out
  rw [hr_] at hpan_
  simp only [Qy.Res.on] at hpan_
  subst hpan_
  have HG_:=Lib.hid (hat.trans k_)
  clear k_ hE_ hr_ hrd0 
  go_wp2
  exact ⟨rfl,HG_.out,rfl⟩
 have hres_:=HRES.out
 rw [hr_] at hres_
 simp only [Qy.Res.on] at hres_
 replace HRES:=Lib.hid hres_
 have HL1:=Lib.hid (Qy.need_ok HG.out (by simp) hr_)
 replace hat:=hat.trans k_
 replace hA:=hA.at1 k_ gA
 replace hQ:=hQ.at1 k_ gQ
 clear hE_ hres_ hr_ k_ hrd0 
 clear hv_ HN1
 have HN2:Hid (∀ u,RdAt B r l1 u→Calls Tryd.prog 53 #[.pointer (some ⟨r,0,none⟩),.int .i64 0,.int .i64 255] u (Ends B r u (Qy.pNum 0 255 l1) intV)):=Lib.hid fun u k=>qNum B r _ 0 255 u k (HS.out _ HL1.out.1).hd
 go_wp2_with fail
 refine (HN2.out _ hrd2).mono ?_
 rintro e2 w3 hE_
 rcases hE_.cases with ⟨kd,l2,v,hr_,rfl,hv_,hrd4,k_⟩ | ⟨x_,er_,hr_,rfl,k_⟩
 rotate_left
 ·have hpan_:=HRES.out
  rw [hr_] at hpan_
  simp only [Qy.Res.on] at hpan_
  subst hpan_
  have HG_:=Lib.hid (hat.trans k_)
  clear k_ hE_ hr_ hrd2 
  go_wp2
  exact ⟨rfl,HG_.out,rfl⟩
 have hres_:=HRES.out
 rw [hr_] at hres_
 simp only [Qy.Res.on] at hres_
 replace HRES:=Lib.hid hres_
 have HL2:=Lib.hid (HL1.out.trans (Qy.pNum_ok HL1.out.1 hr_).1.le)
 replace hat:=hat.trans k_
 replace hA:=hA.at1 k_ gA
 replace hQ:=hQ.at1 k_ gQ
 clear hE_ hres_ hr_ k_ hrd2 
 obtain rfl:=hv_
 clear HN2
 have z0:=hQ.cell 0
 have f0:=hQ.frozen 0
 go_upto_region 4 with fail
 clear z0 f0
 have hk:=At1.set_ (r:=g3) w3 (p:=⟨g3,0,none⟩) rfl (.int .i64 kd)
 have hQ2:=(hQ).set_ 0 (.int .i64 kd)
 replace hA:=hA.at1 hk (Nat.ne_of_lt g23)
 have hrdn:=hrd4.at_ hk (by omega)
 replace hat:=hat.at_ hk (Nat.le_of_lt g23)
 clear hQ hrd4
 revert hk hQ2 hA hrdn hat 
 generalize World.setCell _ _ _=W5
 intro hk hQ2 hA hrdn hat 
 have hQ:Own W5 g3 36 [.int .i64 kd,.int .i64 0,.string ⟨#[]⟩,.int .i64 0,.int .i64 0,.int .i64 0,.int .i64 0,.int .i64 0,.int .i64 0,.slice none 0 0,.int .i64 0,.slice none 0 0,.int .i64 0,.int .i64 0]:=hQ2
 have hrd6:=hrdn
 clear hk hQ2 hrdn
 have HN3:Hid (∀ u,RdAt B r l2 u→Calls Tryd.prog 52 #[.pointer (some ⟨r,0,none⟩),.string ⟨#[111,102]⟩] u (Ends B r u (Qy.need [111,102] l2) unitV)):=Lib.hid fun u k=>qNeed B r l2 _ u k
 go_wp2_with fail
 refine (HN3.out _ hrd6).mono ?_
 rintro e2 w7 hE_
 rcases hE_.cases with ⟨un3,l3,v,hr_,rfl,hv_,hrd8,k_⟩ | ⟨x_,er_,hr_,rfl,k_⟩
 rotate_left
 ·have hpan_:=HRES.out
  rw [hr_] at hpan_
  simp only [Qy.Res.on] at hpan_
  subst hpan_
  have HG_:=Lib.hid (hat.trans k_)
  clear k_ hE_ hr_ hrd6 
  go_wp2
  exact ⟨rfl,HG_.out,rfl⟩
 have hres_:=HRES.out
 rw [hr_] at hres_
 simp only [Qy.Res.on] at hres_
 replace HRES:=Lib.hid hres_
 have HL3:=Lib.hid (HL2.out.trans (Qy.need_ok HL2.out.1 (by simp) hr_).le)
 replace hat:=hat.trans k_
 replace hA:=hA.at1 k_ gA
 replace hQ:=hQ.at1 k_ gQ
 clear hE_ hres_ hr_ k_ hrd6 
 clear hv_ HN3
 have HN4:Hid (∀ u,RdAt B r l3 u→Calls Tryd.prog 54 #[.pointer (some ⟨r,0,none⟩)] u (Ends B r u (Qy.pReg F l3) (regV u))):=Lib.hid fun u k=>(reads B r F).2.2 _ u k HL3.out.1 (by have:=HL3.out.2;have:=HF1.out;omega) (by have:=HL3.out.2;have:=HF1.out;omega)
 have zR:=hQ.lt
 go_wp2_with fail
 refine (HN4.out _ hrd8).mono ?_
 rintro e2 w9 hE_
 rcases hE_.cases with ⟨R5,l4,v,hr_,rfl,hv_,hrd10,k_⟩ | ⟨x_,er_,hr_,rfl,k_⟩
 rotate_left
 ·have hpan_:=HRES.out
  rw [hr_] at hpan_
  simp only [Qy.Res.on] at hpan_
  subst hpan_
  have HG_:=Lib.hid (hat.trans k_)
  clear k_ hE_ hr_ hrd8 
  go_wp2
  exact ⟨rfl,HG_.out,rfl⟩
 have hres_:=HRES.out
 rw [hr_] at hres_
 simp only [Qy.Res.on] at hres_
 replace HRES:=Lib.hid hres_
 have HL4:=Lib.hid (HL3.out.trans ((Qy.eats F).reg _ _ _ HL3.out.1 hr_).le)
 replace hat:=hat.trans k_
 replace hA:=hA.at1 k_ gA
 replace hQ:=hQ.at1 k_ gQ
 clear hE_ hres_ hr_ k_ hrd8 
 clear HN4
 obtain ⟨n0,s1,n2,n3,n4,n5,n6,n7,A8,l8,c9,rfl,hR1,hR3⟩:=hv_.lit
 clear hR3
 have gR:r<w7.heap.size:=by omega
 have z0:=hQ.cell 1
 have f0:=hQ.frozen 1
 have z1:=hQ.cell 2
 have f1:=hQ.frozen 2
 have z2:=hQ.cell 3
 have f2:=hQ.frozen 3
 have z3:=hQ.cell 4
 have f3:=hQ.frozen 4
 have z4:=hQ.cell 5
 have f4:=hQ.frozen 5
 have z5:=hQ.cell 6
 have f5:=hQ.frozen 6
 have z6:=hQ.cell 7
 have f6:=hQ.frozen 7
 have z7:=hQ.cell 8
 have f7:=hQ.frozen 8
 have z8:=hQ.cell 9
 have f8:=hQ.frozen 9
 go_upto_region 6 with fail
 clear z0 f0 z1 f1 z2 f2 z3 f3 z4 f4 z5 f5 z6 f6 z7 f7 z8 f8
 have hk:=((((((((At1.set_ (r:=g3) w9 (p:=⟨g3,1,none⟩) rfl (.int .i64 n0)).trans (At1.set_ _ (p:=⟨g3,2,none⟩) rfl (.string s1))).trans (At1.set_ _ (p:=⟨g3,3,none⟩) rfl (.int .i64 n2))).trans (At1.set_ _ (p:=⟨g3,4,none⟩) rfl (.int .i64 n3))).trans (At1.set_ _ (p:=⟨g3,5,none⟩) rfl (.int .i64 n4))).trans (At1.set_ _ (p:=⟨g3,6,none⟩) rfl (.int .i64 n5))).trans (At1.set_ _ (p:=⟨g3,7,none⟩) rfl (.int .i64 n6))).trans (At1.set_ _ (p:=⟨g3,8,none⟩) rfl (.int .i64 n7))).trans (At1.set_ _ (p:=⟨g3,9,none⟩) rfl (.slice A8 l8 c9))
 have hQ2:=(((((((((hQ).set_ 1 (.int .i64 n0)).set_ 2 (.string s1)).set_ 3 (.int .i64 n2)).set_ 4 (.int .i64 n3)).set_ 5 (.int .i64 n4)).set_ 6 (.int .i64 n5)).set_ 7 (.int .i64 n6)).set_ 8 (.int .i64 n7)).set_ 9 (.slice A8 l8 c9)
 replace hA:=hA.at1 hk (Nat.ne_of_lt g23)
 have hrdn:=hrd10.at_ hk (by omega)
 replace hat:=hat.at_ hk (Nat.le_of_lt g23)
 replace hR1:=hR1.at1 hk (by omega)
 clear hQ hrd10
 revert hk hQ2 hA hrdn hat hR1
 generalize ((((((((World.setCell _ _ _).setCell _ _).setCell _ _).setCell _ _).setCell _ _).setCell _ _).setCell _ _).setCell _ _).setCell _ _=W11
 intro hk hQ2 hA hrdn hat hR1
 have hQ:Own W11 g3 36 [.int .i64 kd,.int .i64 n0,.string s1,.int .i64 n2,.int .i64 n3,.int .i64 n4,.int .i64 n5,.int .i64 n6,.int .i64 n7,.slice A8 l8 c9,.int .i64 0,.slice none 0 0,.int .i64 0,.int .i64 0]:=hQ2
 have hrd12:=hrdn
 clear hk hQ2 hrdn
 have HN5:Hid (∀ u,RdAt B r l4 u→Calls Tryd.prog 52 #[.pointer (some ⟨r,0,none⟩),.string ⟨#[105,110]⟩] u (Ends B r u (Qy.need [105,110] l4) unitV)):=Lib.hid fun u k=>qNeed B r l4 _ u k
 go_wp2_with fail
 refine (HN5.out _ hrd12).mono ?_
 rintro e2 w13 hE_
 rcases hE_.cases with ⟨un5,l5,v,hr_,rfl,hv_,hrd14,k_⟩ | ⟨x_,er_,hr_,rfl,k_⟩
 rotate_left
 ·have hpan_:=HRES.out
  rw [hr_] at hpan_
  simp only [Qy.Res.on] at hpan_
  subst hpan_
  have HG_:=Lib.hid (hat.trans k_)
  clear k_ hE_ hr_ hrd12 
  go_wp2
  exact ⟨rfl,HG_.out,rfl⟩
 have hres_:=HRES.out
 rw [hr_] at hres_
 simp only [Qy.Res.on] at hres_
 replace HRES:=Lib.hid hres_
 have HL5:=Lib.hid (HL4.out.trans (Qy.need_ok HL4.out.1 (by simp) hr_).le)
 replace hat:=hat.trans k_
 replace hA:=hA.at1 k_ gA
 replace hQ:=hQ.at1 k_ gQ
 replace hR1:=hR1.at1 k_ gR
 clear hE_ hres_ hr_ k_ hrd12 
 clear hv_ HN5
 have HN6:Hid (∀ u,RdAt B r l5 u→Calls Tryd.prog 55 #[.pointer (some ⟨r,0,none⟩)] u (Ends B r u (Qy.pView F l5) (viewV u))):=Lib.hid fun u k=>qView B r F _ u k HL5.out.1 (by have:=HL5.out.2;have:=HF1.out;omega)
 have zV:=hQ.lt
 go_wp2_with fail
 refine (HN6.out _ hrd14).mono ?_
 rintro e2 w15 hE_
 rcases hE_.cases with ⟨vw,l6,v,hr_,rfl,hv_,hrd16,k_⟩ | ⟨x_,er_,hr_,rfl,k_⟩
 rotate_left
 ·have hpan_:=HRES.out
  rw [hr_] at hpan_
  simp only [Qy.Res.on] at hpan_
  subst hpan_
  have HG_:=Lib.hid (hat.trans k_)
  clear k_ hE_ hr_ hrd14 
  go_wp2
  exact ⟨rfl,HG_.out,rfl⟩
 have hres_:=HRES.out
 rw [hr_] at hres_
 simp only [Qy.Res.on] at hres_
 replace HRES:=Lib.hid hres_
 have HL6:=Lib.hid (HL5.out.trans (Qy.pView_ok HL5.out.1 hr_).le)
 replace hat:=hat.trans k_
 replace hA:=hA.at1 k_ gA
 replace hQ:=hQ.at1 k_ gQ
 replace hR1:=hR1.at1 k_ gR
 clear hE_ hres_ hr_ k_ hrd14 
 clear HN6
 obtain ⟨vA,vl,vc,rfl,hvl,hI1,hI2⟩:=hv_.lit
 obtain ⟨vk,vo⟩:=vw
 simp only at HRES hvl hI1 hI2 ⊢
 have HV:=Lib.hid (And.intro hvl hI2)
 clear hvl hI2 hv_
 have gV:r<w13.heap.size:=by omega
 have z0:=hQ.cell 10
 have f0:=hQ.frozen 10
 have z1:=hQ.cell 11
 have f1:=hQ.frozen 11
 go_upto_region 8 with fail
 clear z0 f0 z1 f1
 have hk:=(At1.set_ (r:=g3) w15 (p:=⟨g3,10,none⟩) rfl (.int .i64 vk)).trans (At1.set_ _ (p:=⟨g3,11,none⟩) rfl (.slice vA vl vc))
 have hQ2:=((hQ).set_ 10 (.int .i64 vk)).set_ 11 (.slice vA vl vc)
 replace hA:=hA.at1 hk (Nat.ne_of_lt g23)
 have hrdn:=hrd16.at_ hk (by omega)
 replace hat:=hat.at_ hk (Nat.le_of_lt g23)
 replace hR1:=hR1.at1 hk (by omega)
 replace hI1:=hI1.at1 hk (by omega)
 clear hQ hrd16
 revert hk hQ2 hA hrdn hat hR1 hI1
 generalize (World.setCell _ _ _).setCell _ _=W17
 intro hk hQ2 hA hrdn hat hR1 hI1
 have hQ:Own W17 g3 36 [.int .i64 kd,.int .i64 n0,.string s1,.int .i64 n2,.int .i64 n3,.int .i64 n4,.int .i64 n5,.int .i64 n6,.int .i64 n7,.slice A8 l8 c9,.int .i64 vk,.slice vA vl vc,.int .i64 0,.int .i64 0]:=hQ2
 have hrd18:=hrdn
 clear hk hQ2 hrdn
 have HN7:Hid (∀ u,RdAt B r l6 u→Calls Tryd.prog 52 #[.pointer (some ⟨r,0,none⟩),.string ⟨#[111,110]⟩] u (Ends B r u (Qy.need [111,110] l6) unitV)):=Lib.hid fun u k=>qNeed B r l6 _ u k
 go_wp2_with fail
 refine (HN7.out _ hrd18).mono ?_
 rintro e2 w19 hE_
 rcases hE_.cases with ⟨un7,l7,v,hr_,rfl,hv_,hrd20,k_⟩ | ⟨x_,er_,hr_,rfl,k_⟩
 rotate_left
 ·have hpan_:=HRES.out
  rw [hr_] at hpan_
  simp only [Qy.Res.on] at hpan_
  subst hpan_
  have HG_:=Lib.hid (hat.trans k_)
  clear k_ hE_ hr_ hrd18 
  go_wp2
  exact ⟨rfl,HG_.out,rfl⟩
 have hres_:=HRES.out
 rw [hr_] at hres_
 simp only [Qy.Res.on] at hres_
 replace HRES:=Lib.hid hres_
 have HL7:=Lib.hid (HL6.out.trans (Qy.need_ok HL6.out.1 (by simp) hr_).le)
 replace hat:=hat.trans k_
 replace hA:=hA.at1 k_ gA
 replace hQ:=hQ.at1 k_ gQ
 replace hR1:=hR1.at1 k_ gR
 replace hI1:=hI1.at1 k_ gV
 clear hE_ hres_ hr_ k_ hrd18 
 clear hv_ HN7
 have HN8:Hid (∀ u,RdAt B r l7 u→Calls Tryd.prog 53 #[.pointer (some ⟨r,0,none⟩),.int .i64 0,.int .i64 73048] u (Ends B r u (Qy.pNum 0 73048 l7) intV)):=Lib.hid fun u k=>qNum B r _ 0 73048 u k (HS.out _ HL7.out.1).hd
 go_wp2_with fail
 refine (HN8.out _ hrd20).mono ?_
 rintro e2 w21 hE_
 rcases hE_.cases with ⟨dy,l8_,v,hr_,rfl,hv_,hrd22,k_⟩ | ⟨x_,er_,hr_,rfl,k_⟩
 rotate_left
 ·have hpan_:=HRES.out
  rw [hr_] at hpan_
  simp only [Qy.Res.on] at hpan_
  subst hpan_
  have HG_:=Lib.hid (hat.trans k_)
  clear k_ hE_ hr_ hrd20 
  go_wp2
  exact ⟨rfl,HG_.out,rfl⟩
 have hres_:=HRES.out
 rw [hr_] at hres_
 simp only [Qy.Res.on] at hres_
 replace HRES:=Lib.hid hres_
 have HL8:=Lib.hid (HL7.out.trans (Qy.pNum_ok HL7.out.1 hr_).1.le)
 replace hat:=hat.trans k_
 replace hA:=hA.at1 k_ gA
 replace hQ:=hQ.at1 k_ gQ
 replace hR1:=hR1.at1 k_ gR
 replace hI1:=hI1.at1 k_ gV
 clear hE_ hres_ hr_ k_ hrd20 
 obtain rfl:=hv_
 clear HN8
 have z0:=hQ.cell 12
 have f0:=hQ.frozen 12
 go_upto_region 10 with fail
 clear z0 f0
 have hk:=At1.set_ (r:=g3) w21 (p:=⟨g3,12,none⟩) rfl (.int .i64 dy)
 have hQ2:=(hQ).set_ 12 (.int .i64 dy)
 replace hA:=hA.at1 hk (Nat.ne_of_lt g23)
 have hrdn:=hrd22.at_ hk (by omega)
 replace hat:=hat.at_ hk (Nat.le_of_lt g23)
 replace hR1:=hR1.at1 hk (by omega)
 replace hI1:=hI1.at1 hk (by omega)
 clear hQ hrd22
 revert hk hQ2 hA hrdn hat hR1 hI1
 generalize World.setCell _ _ _=W23
 intro hk hQ2 hA hrdn hat hR1 hI1
 have hQ:Own W23 g3 36 [.int .i64 kd,.int .i64 n0,.string s1,.int .i64 n2,.int .i64 n3,.int .i64 n4,.int .i64 n5,.int .i64 n6,.int .i64 n7,.slice A8 l8 c9,.int .i64 vk,.slice vA vl vc,.int .i64 dy,.int .i64 0]:=hQ2
 have hrd24:=hrdn
 clear hk hQ2 hrdn
 have HN9:Hid (∀ u,RdAt B r l8_ u→Calls Tryd.prog 52 #[.pointer (some ⟨r,0,none⟩),.string ⟨#[97,116]⟩] u (Ends B r u (Qy.need [97,116] l8_) unitV)):=Lib.hid fun u k=>qNeed B r l8_ _ u k
 go_wp2_with fail
 refine (HN9.out _ hrd24).mono ?_
 rintro e2 w25 hE_
 rcases hE_.cases with ⟨un9,l9,v,hr_,rfl,hv_,hrd26,k_⟩ | ⟨x_,er_,hr_,rfl,k_⟩
 rotate_left
 ·have hpan_:=HRES.out
  rw [hr_] at hpan_
  simp only [Qy.Res.on] at hpan_
  subst hpan_
  have HG_:=Lib.hid (hat.trans k_)
  clear k_ hE_ hr_ hrd24 
  go_wp2
  exact ⟨rfl,HG_.out,rfl⟩
 have hres_:=HRES.out
 rw [hr_] at hres_
 simp only [Qy.Res.on] at hres_
 replace HRES:=Lib.hid hres_
 have HL9:=Lib.hid (HL8.out.trans (Qy.need_ok HL8.out.1 (by simp) hr_).le)
 replace hat:=hat.trans k_
 replace hA:=hA.at1 k_ gA
 replace hQ:=hQ.at1 k_ gQ
 replace hR1:=hR1.at1 k_ gR
 replace hI1:=hI1.at1 k_ gV
 clear hE_ hres_ hr_ k_ hrd24 
 clear hv_ HN9
 have HN10:Hid (∀ u,RdAt B r l9 u→Calls Tryd.prog 53 #[.pointer (some ⟨r,0,none⟩),.int .i64 0,.int .i64 23] u (Ends B r u (Qy.pNum 0 23 l9) intV)):=Lib.hid fun u k=>qNum B r _ 0 23 u k (HS.out _ HL9.out.1).hd
 go_wp2_with fail
 refine (HN10.out _ hrd26).mono ?_
 rintro e2 w27 hE_
 rcases hE_.cases with ⟨sc,l10,v,hr_,rfl,hv_,hrd28,k_⟩ | ⟨x_,er_,hr_,rfl,k_⟩
 rotate_left
 ·have hpan_:=HRES.out
  rw [hr_] at hpan_
  simp only [Qy.Res.on] at hpan_
  subst hpan_
  have HG_:=Lib.hid (hat.trans k_)
  clear k_ hE_ hr_ hrd26 
  go_wp2
  exact ⟨rfl,HG_.out,rfl⟩
 have hres_:=HRES.out
 rw [hr_] at hres_
 simp only [Qy.Res.on] at hres_
 replace HRES:=Lib.hid hres_
 have HL10:=Lib.hid (HL9.out.trans (Qy.pNum_ok HL9.out.1 hr_).1.le)
 replace hat:=hat.trans k_
 replace hA:=hA.at1 k_ gA
 replace hQ:=hQ.at1 k_ gQ
 replace hR1:=hR1.at1 k_ gR
 replace hI1:=hI1.at1 k_ gV
 clear hE_ hres_ hr_ k_ hrd26 
 obtain rfl:=hv_
 clear HN10
 have z0:=hQ.cell 13
 have f0:=hQ.frozen 13
 go_upto_region 12 with fail
 clear z0 f0
 have hk:=At1.set_ (r:=g3) w27 (p:=⟨g3,13,none⟩) rfl (.int .i64 sc)
 have hQ2:=(hQ).set_ 13 (.int .i64 sc)
 replace hA:=hA.at1 hk (Nat.ne_of_lt g23)
 have hrdn:=hrd28.at_ hk (by omega)
 replace hat:=hat.at_ hk (Nat.le_of_lt g23)
 replace hR1:=hR1.at1 hk (by omega)
 replace hI1:=hI1.at1 hk (by omega)
 clear hQ hrd28
 revert hk hQ2 hA hrdn hat hR1 hI1
 generalize World.setCell _ _ _=W29
 intro hk hQ2 hA hrdn hat hR1 hI1
 have hQ:Own W29 g3 36 [.int .i64 kd,.int .i64 n0,.string s1,.int .i64 n2,.int .i64 n3,.int .i64 n4,.int .i64 n5,.int .i64 n6,.int .i64 n7,.slice A8 l8 c9,.int .i64 vk,.slice vA vl vc,.int .i64 dy,.int .i64 sc]:=hQ2
 have hrd30:=hrdn
 clear hk hQ2 hrdn
 have HN11:Hid (∀ u,RdAt B r l10 u→Calls Tryd.prog 52 #[.pointer (some ⟨r,0,none⟩),.string ⟨#[]⟩] u (Ends B r u (Qy.need [] l10) unitV)):=Lib.hid fun u k=>qNeed B r l10 _ u k
 go_wp2_with fail
 refine (HN11.out _ hrd30).mono ?_
 rintro e2 w31 hE_
 rcases hE_.cases with ⟨un11,l11,v,hr_,rfl,hv_,hrd32,k_⟩ | ⟨x_,er_,hr_,rfl,k_⟩
 rotate_left
 ·have hpan_:=HRES.out
  rw [hr_] at hpan_
  simp only [Qy.Res.on] at hpan_
  subst hpan_
  have HG_:=Lib.hid (hat.trans k_)
  clear k_ hE_ hr_ hrd30 
  go_wp2
  exact ⟨rfl,HG_.out,rfl⟩
 have hres_:=HRES.out
 rw [hr_] at hres_
 simp only [Qy.Res.on] at hres_
 replace HRES:=Lib.hid hres_
 replace hat:=hat.trans k_
 replace hA:=hA.at1 k_ gA
 replace hQ:=hQ.at1 k_ gQ
 replace hR1:=hR1.at1 k_ gR
 replace hI1:=hI1.at1 k_ gV
 clear hE_ hres_ hr_ k_ hrd30 
 clear hv_ HN11
 obtain ⟨⟨z0,z1,z2,z3,z4,z5,z6,z7,z8,z9,z10,z11,z12,z13⟩,f0,f1,f2,f3,f4,f5,f6,f7,f8,f9,f10,f11,f12,f13⟩:=hA.all14
 obtain ⟨⟨y0,y1,y2,y3,y4,y5,y6,y7,y8,y9,y10,y11,y12,y13⟩,_⟩:=hQ.all14
 have hI3:IntsAt w31 (New w) vA vo:=hI1.keep (Nat.le_refl _) (fun g hg _=>⟨Nat.le_trans (by omega) (show w13.heap.size≤g from hg),rfl⟩)
 have HF:=Lib.hid (And.intro hA (And.intro hat (And.intro hrd32 (And.intro hR1 hI1))))
 clear hA hat hrd32 hQ hR1 hI1 hI3
 go_wp2_with fail
 clear y0 y1 y2 y3 y4 y5 y6 y7 y8 y9 y10 y11 y12 y13
 obtain ⟨hO,hk⟩:=HF.out.1.put14 (x0:=.int .i64 kd) (x1:=.int .i64 n0) (x2:=.string s1) (x3:=.int .i64 n2) (x4:=.int .i64 n3) (x5:=.int .i64 n4) (x6:=.int .i64 n5) (x7:=.int .i64 n6) (x8:=.int .i64 n7) (x9:=.slice A8 l8 c9) (x10:=.int .i64 vk) (x11:=.slice vA vl vc) (x12:=.int .i64 dy) (x13:=.int .i64 sc)
 clear z0 f0 z1 f1 z2 f2 z3 f3 z4 f4 z5 f5 z6 f6 z7 f7 z8 f8 z9 f9 z10 f10 z11 f11 z12 f12 z13 f13
 revert hO hk
 generalize (((((((((((((World.setCell _ _ _).setCell _ _).setCell _ _).setCell _ _).setCell _ _).setCell _ _).setCell _ _).setCell _ _).setCell _ _).setCell _ _).setCell _ _).setCell _ _).setCell _ _).setCell _ _=W9
 intro hO hk
 obtain ⟨⟨q0,q1,q2,q3,q4,q5,q6,q7,q8,q9,q10,q11,q12,q13⟩,_⟩:=hO.all14
 refine bodyPost_ret (v:=.agg #[.int .i64 kd,.int .i64 n0,.string s1,.int .i64 n2,.int .i64 n3,.int .i64 n4,.int .i64 n5,.int .i64 n6,.int .i64 n7,.slice A8 l8 c9,.int .i64 vk,.slice vA vl vc,.int .i64 dy,.int .i64 sc]) (by simp [results,Tryd.results32,go_sem,q0,q1,q2,q3,q4,q5,q6,q7,q8,q9,q10,q11,q12,q13]) rfl ?_
 have hres9:=HRES.out
 subst hres9
 obtain ⟨hvl,hv1,hv2⟩:=HV.out
 subst hvl
 refine ⟨HF.out.2.1.at_ hk (Nat.le_refl _),⟨_,rfl,[.int .i64 n0,.string s1,.int .i64 n2,.int .i64 n3,.int .i64 n4,.int .i64 n5,.int .i64 n6,.int .i64 n7,.slice A8 l8 c9],vA,vc,rfl,rfl,?_,?_,hv1,hv2⟩,HF.out.2.2.1.at_ hk hBw⟩
 ·exact RegAt.keep hk.size (fun g hg hl=>⟨Nat.le_trans (by omega) (show w7.heap.size≤g from hg),hk.heap hl (fun e=>by have hg9:w7.heap.size≤g:=hg;omega)⟩) _ _ HF.out.2.2.2.1
 ·exact IntsAt.keep HF.out.2.2.2.2 hk.size (fun g hg hl=>⟨Nat.le_trans (by omega) (show w13.heap.size≤g from hg),hk.heap hl (fun e=>by have hg9:w13.heap.size≤g:=hg;omega)⟩)
end Go.Proofs.YtmlpibdincfgbaaDoor
