/-
  Package query: the readers of regions together; ints in memory; Contains; views.
-/
import Derived.Test.YtmlpibdincfgbaaDoorK15
import Derived.Test.YtmlpibdincfgbaaDoorA4
namespace Go.Proofs.YtmlpibdincfgbaaDoor
open Go.RowKit
set_option linter.unusedSimpArgs false
set_option linter.unusedVariables false
theorem reads (B r:Nat):∀ f,ItemW B r f∧ListW B r f∧RegW B r f:=by
 intro f
 induction f using Nat.strongRecOn with
 | ind f ih=>exact ⟨qItem B r f (fun g h=>(ih g h).1) (fun g h=>(ih g h).2.1) (fun g h=>(ih g h).2.2),qList B r f fun g h=>(ih g h).2.2,qReg B r f fun g h=>(ih g h).1⟩
def IntsAt (w:World) (S:Nat→Prop) (A:Option Addr) (l:List Int):Prop:=l=[]∨∃ g off,A=some ⟨g,off,none⟩∧S g∧g<w.heap.size∧∀ (i:Nat) (z:Int),l[i]? = some z→w.cell? ⟨g,off+i,none⟩=some (.int .i64 z)
theorem IntsAt.keep {w w':World} {S S':Nat→Prop} {A:Option Addr} {l:List Int} (h:IntsAt w S A l) (hz:w.heap.size≤w'.heap.size) (hS:∀ g,S g→g<w.heap.size→S' g∧w'.heap[g]? = w.heap[g]?):IntsAt w' S' A l:=by
 rcases h with h | ⟨g,off,h1,h2,h3,h4⟩
 ·exact .inl h
 ·obtain ⟨k1,k2⟩:=hS g h2 h3
  exact .inr ⟨g,off,h1,k1,Nat.lt_of_lt_of_le h3 hz,fun i z hz=>(World.cell?_of_block (a:=⟨g,_,none⟩) k2).trans (h4 i z hz)⟩
theorem owns_ints {w:World} {B:Nat} {v:Value} {n:Nat} {l:List Int} (h:w.ownsRow B 3 1 v n (l.map i64)):∃ A c,v=.slice A l.length c∧n=l.length∧l.length≤c∧c≤maxLen∧IntsAt w (fun g=>B≤g) A l:=by
 have hn:n=l.length:=by have:=h.1;simp at this;omega
 rcases h.2 with ⟨rfl,h0⟩ | ⟨g,cap,cur,rfl,hb,hg,hnc,hcm,hcs,htake⟩
 ·have:l=[]:=List.eq_nil_of_length_eq_zero (by omega)
  subst this
  exact ⟨none,0,rfl,hn,Nat.le_refl _,by unfold maxLen;omega,.inl rfl⟩
 ·subst hn
  refine ⟨_,cap,rfl,rfl,hnc,hcm,.inr ⟨g,0,rfl,hb,heap_lt hg,fun i z hz=>?_⟩⟩
  have hi:=(List.getElem?_eq_some_iff.1 hz).1
  have e:(l.map i64)[i]? = some (.int .i64 z):=by rw [List.getElem?_map,hz];rfl
  rw [← htake,List.getElem?_take_of_lt (by omega)] at e
  simpa [World.cell?,hg] using e
theorem owns_at1 {w w':World} {B r:Nat} {v:Value} {n:Nat} {e:TypeId} {sz:Nat} {xs:List Value} (h:w.ownsRow B e sz v n xs) (k:At1 r w w') (hr:r<B):w'.ownsRow B e sz v n xs:=by
 refine ⟨h.1,?_⟩
 rcases h.2 with h | ⟨g,cap,cur,e,k2,k3,k4⟩
 ·exact .inl h
 ·exact .inr ⟨g,cap,cur,e,k2,(k.heap (heap_lt k3) (by omega)).trans k3,k4⟩
set_option maxRecDepth 100000 in
set_option maxHeartbeats 1600000 in
theorem Index_any {w:World} {S:Nat→Prop} {A:Option Addr} {c:Nat} {l:List Int} (h:IntsAt w S A l) (n:Int) (hl:l.length≤4000000000000000000):Calls Tryd.prog 96 #[.slice A l.length c,.int .i64 n] w fun e w'=>∃ i:Int,e=.returned (.int .i64 i)∧w'=w∧decide (0≤i)=decide (n∈l):=by
 obtain ⟨m,hm⟩:∃ m,l.length=m:=⟨_,rfl⟩
 have HM:=Lib.hid hm
 have HA:Hid (∀ i z,l[i]? = some z→∃ g off,A=some ⟨g,off,none⟩∧w.cell? ⟨g,off+i,none⟩=some (.int .i64 z)):=Lib.hid fun i z hz=>by
  rcases h with h | ⟨g,off,h1,h2,h3,h4⟩
  ·subst h;simp at hz
  ·exact ⟨g,off,h1,h4 i z hz⟩
 rw [hm] at hl ⊢
 clear hm h
 go_enter Tryd.func96,Tryd.ntmps96
 go_wp2_with fail
 go_loopw [8] (fun s wr=>∃ i:Nat,i≤m∧s=.int .i64 (i:Int)∧n ∉ l.take i∧wr=w) (fun s _=>m - (intOf s).toNat)
 case atStart=>exact ⟨0,by omega,rfl,by simp,rfl⟩
 case round=>
  obtain ⟨i,hi,rfl,hno,rfl⟩:=hrel
  rcases Nat.lt_or_eq_of_le hi with hlt | heq
  ·have i0:(0:Int)≤(i:Int):=by omega
   have i1:(i:Int)<(m:Int):=by omega
   have hlm:=HM.out
   obtain ⟨z,hz⟩:∃ z,l[i]? = some z:=⟨_,List.getElem?_eq_getElem (by omega)⟩
   obtain ⟨g,off,rfl,hc⟩:=HA.out i z hz
   have HZ:=Lib.hid hz
   have HN:=Lib.hid hno
   have HI:=Lib.hid (show n=z→n∈l from fun e=>e▸List.mem_of_getElem? hz)
   clear hz hno hlm
   by_cases e:n=z
   ·have hmem:=HI.out e
    have HE:=Lib.hid (show decide ((0:Int)≤(i:Int))=decide (n∈l) by rw [decide_eq_true hmem,decide_eq_true i0])
    clear hmem
    go_wp2
    go_returns
    exact ⟨_,rfl,rfl,HE.out⟩
   ·have HT:Hid (n ∉ l.take (i+1)):=Lib.hid (by
     rw [List.take_add_one,HZ.out]
     simp only [Option.toList_some,List.mem_append,List.mem_singleton,not_or]
     exact ⟨HN.out,e⟩)
    go_wp2_with fail
    go_roundw
    case rel=>exact ⟨i+1,by omega,by go_num,HT.out,by first | rfl | trivial⟩
    case measure=>simp [intOf];omega
  ·subst heq
   have hlm:=HM.out
   rw [List.take_of_length_le (by omega)] at hno
   have HE:=Lib.hid (show decide ((0:Int)≤-1)=decide (n∈l) by rw [decide_eq_false hno];rfl)
   clear hlm hno
   go_wp2
   go_returns
   exact ⟨_,rfl,rfl,HE.out⟩
set_option maxRecDepth 100000 in
theorem Contains_any {w:World} {S:Nat→Prop} {A:Option Addr} {c:Nat} {l:List Int} (h:IntsAt w S A l) (n:Int) (hl:l.length≤4000000000000000000):Calls Tryd.prog 81 #[.slice A l.length c,.int .i64 n] w fun e w'=>e=.returned (.bool (decide (n∈l)))∧w'=w:=by
 have HI:=Lib.hid (Index_any (c:=c) h n hl)
 clear h hl
 go_enter Tryd.func81,Tryd.ntmps81
 go_wp2_with fail
 refine HI.out.mono ?_
 rintro e w1 ⟨i,rfl,e_,hd⟩
 subst e_
 have HD:=Lib.hid hd
 clear hd
 go_wp2
 go_returns
 exact ⟨by rw [← HD.out];rfl,rfl⟩
set_option maxRecDepth 100000 in
theorem qFail2 (g a:Nat) (er:Int) (w:World) (c1:w.cell? ⟨g,1,none⟩=some (.int .i64 (a:Int))):Calls Tryd.prog 76 #[.pointer (some ⟨g,0,none⟩),.int .i64 er] w fun e w'=>e=.panicked (prob a er)∧w'=w:=by
 go_enter Tryd.func76,Tryd.ntmps76
 go_wp2
 exact ⟨rfl,rfl,rfl⟩
def viewV (w0:World) (v:Int × List Int) (x:Value) (w:World):Prop:=∃ A c,x=.agg #[.int .i64 v.1,.slice A v.2.length c]∧IntsAt w (New w0) A v.2∧v.2.length≤c∧c≤maxLen
theorem RdAt.cells {B r:Nat} {l:List Qy.Tok} {w:World} (h:RdAt B r l w):∃ A n c,w.cell? ⟨r,0,none⟩=some (.string (bs (Qy.hd l)))∧w.cell? ⟨r,1,none⟩=some (.int .i64 (Qy.hdAt l:Int))∧w.cell? ⟨r,2,none⟩=some (.slice A n c):=by
 obtain ⟨_,_,t,rest,A,c,rfl,hO,_⟩:=h
 exact ⟨_,_,_,hO.c0,hO.c1,hO.c2⟩
theorem Own.put2' {w:World} {g:Nat} {t:TypeId} {z0 z1 x0 x1:Value} (h:Own w g t [z0,z1]):Own ((w.setCell ⟨g,0,none⟩ x0).setCell ⟨g,1,none⟩ x1) g t [x0,x1]∧At1 g w ((w.setCell ⟨g,0,none⟩ x0).setCell ⟨g,1,none⟩ x1):=
 ⟨(h.set_ 0 x0).set_ 1 x1,(At1.set_ w (p:=⟨g,0,none⟩) rfl x0).trans (At1.set_ _ (p:=⟨g,1,none⟩) rfl x1)⟩
theorem vint_info:(Tryd.prog.info? 3).map (fun i=>(i.zero,i.size,i.bytes))=some (some (.int .i64 0),1,8):=by kernel_rfl
set_option maxRecDepth 100000 in
set_option maxHeartbeats 1600000 in
theorem qView (B r f:Nat) (l:List Qy.Tok) (w:World) (h:RdAt B r l w) (hg:Qy.Good l) (hf:l.length<f):Calls Tryd.prog 55 #[.pointer (some ⟨r,0,none⟩)] w (Ends B r w (Qy.pView f l) (viewV w)):=by
 have hrw:=h.lt
 have hBw:=h.2.1
 have HG:=Lib.hid hg
 have HF1:=Lib.hid hf
 have HS:Hid (∀ l,Qy.Good l→Shaped l):=Lib.hid fun l hg t ht=>hg.shaped t ht
 obtain ⟨RES,hRES⟩:∃ RES,Qy.pView f l=RES:=⟨_,rfl⟩
 rw [hRES]
 unfold Qy.pView at hRES
 have HRES:=Lib.hid hRES
 clear hg hf hRES
 go_enter Tryd.func55,Tryd.ntmps55
 go_upto_region 1 with fail
 refine wp_new1 fun W0 hA hB=>?_
 have gA:w.heap.size≠r:=by omega
 have hrd0:=h.on hB
 have hat:=At1.of_below (r:=r) hB
 clear hB h
 by_cases c0:Qy.hd l=[99,111,110,116,114,111,108]
 ·
  replace HRES:=Lib.hid (by have:=HRES.out;rwa [if_pos c0] at this)
  have HT1:Hid (∀ u,RdAt B r l u→Calls Tryd.prog 75 #[.pointer (some ⟨r,0,none⟩),.string (bs [99,111,110,116,114,111,108])] u fun e w'=>e=.returned (.bool true)∧RdAt B r (Qy.stp l) w'∧At1 r u w'):=Lib.hid fun u k=>by
   have:=qTake B r l [99,111,110,116,114,111,108] u k
   rwa [decide_eq_true c0,if_pos c0] at this
  go_wp2_with fail
  refine (HT1.out _ hrd0).mono ?_
  rintro e2 w2 ⟨rfl,hrd3,k_⟩
  replace hat:=hat.trans k_
  replace hA:=hA.at1 k_ gA
  clear k_ hrd0 HT1
  clear c0
  obtain ⟨z0,z1,f0,f1⟩:=hA.all2
  have HF:=Lib.hid (And.intro hA (And.intro hat hrd3))
  clear hA hat hrd3
  go_wp2_with fail
  obtain ⟨hO,hk⟩:=HF.out.1.put2' (x0:=.int .i64 2) (x1:=.slice none 0 0)
  clear z0 z1 f0 f1
  revert hO hk
  generalize ((World.setCell _ _ _).setCell _ _)=W9
  intro hO hk
  obtain ⟨q0,q1,_⟩:=hO.all2
  refine bodyPost_ret (v:=.agg #[.int .i64 2,.slice none 0 0]) (by simp [results,Tryd.results55,go_sem,q0,q1]) rfl ?_
  have hres9:=HRES.out
  subst hres9
  exact ⟨HF.out.2.1.at_ hk (Nat.le_refl _),⟨_,rfl,_,_,rfl,.inl rfl,Nat.le_refl _,Nat.zero_le _⟩,HF.out.2.2.at_ hk hBw⟩
 replace HRES:=Lib.hid (by have:=HRES.out;rwa [if_neg c0] at this)
 have HT1:Hid (∀ u,RdAt B r l u→Calls Tryd.prog 75 #[.pointer (some ⟨r,0,none⟩),.string (bs [99,111,110,116,114,111,108])] u fun e w'=>e=.returned (.bool false)∧RdAt B r l w'∧At1 r u w'):=Lib.hid fun u k=>by
  have:=qTake B r l [99,111,110,116,114,111,108] u k
  rwa [decide_eq_false c0,if_neg c0] at this
 go_wp2_with fail
 refine (HT1.out _ hrd0).mono ?_
 rintro e2 w2 ⟨rfl,hrd3,k_⟩
 replace hat:=hat.trans k_
 replace hA:=hA.at1 k_ gA
 clear k_ hrd0 HT1
 clear c0
 by_cases c0:Qy.hd l=[111,102,102,105,99,101]
 ·
  replace HRES:=Lib.hid (by have:=HRES.out;rwa [if_pos c0] at this)
  have HT4:Hid (∀ u,RdAt B r l u→Calls Tryd.prog 75 #[.pointer (some ⟨r,0,none⟩),.string (bs [111,102,102,105,99,101])] u fun e w'=>e=.returned (.bool true)∧RdAt B r (Qy.stp l) w'∧At1 r u w'):=Lib.hid fun u k=>by
   have:=qTake B r l [111,102,102,105,99,101] u k
   rwa [decide_eq_true c0,if_pos c0] at this
  go_wp2_with fail
  refine (HT4.out _ hrd3).mono ?_
  rintro e2 w5 ⟨rfl,hrd6,k_⟩
  replace hat:=hat.trans k_
  replace hA:=hA.at1 k_ gA
  clear k_ hrd3 HT4
  clear c0
  have H1:Hid (∀ u,RdAt B r (Qy.stp l) u→Calls Tryd.prog 53 #[.pointer (some ⟨r,0,none⟩),.int .i64 0,.int .i64 63] u (Ends B r u (Qy.pNum 0 63 (Qy.stp l)) intV)):=Lib.hid fun u k=>qNum B r _ 0 63 u k (HS.out _ HG.out.stp).hd
  go_wp2_with fail
  refine (H1.out _ hrd6).mono ?_
  rintro e2 w7 hE_
  rcases hE_.cases with ⟨n,l3,v,hr_,rfl,hv_,hrd8,k_⟩ | ⟨x_,er_,hr_,rfl,k_⟩
  rotate_left
  ·have hpan_:=HRES.out
   rw [hr_] at hpan_
   simp only [Qy.Res.on] at hpan_
   subst hpan_
   have HG_:=Lib.hid (hat.trans k_)
   clear k_ hE_ hr_ hrd6 
   go_wp2
   exact ⟨rfl,HG_.out,rfl⟩
  have hres_:=HRES.out
  rw [hr_] at hres_
  simp only [Qy.Res.on] at hres_
  replace HRES:=Lib.hid hres_
  replace hat:=hat.trans k_
  replace hA:=hA.at1 k_ gA
  clear hE_ hres_ hr_ k_ hrd6 
  obtain rfl:=hv_
  have hsz6:=hA.lt
  have kn:=below_new w7 (.cells #[.int .i64 n] 3)
  have hQ:=Own.new w7 3 [.int .i64 n]
  have hA2:=hA.on kn
  have hrd2:=hrd8.on kn
  have hat2:=hat.trans (At1.of_below kn)
  clear hA hrd8 hat kn
  go_wp2_with (refine wpList_new1 ?_)
  intro W5 eW
  change W5=w7.alloc (.cells #[.int .i64 n] 3) at eW
  change Own (w7.alloc (.cells #[.int .i64 n] 3)) _ _ _ at hQ
  rw [← eW] at hA2 hrd2 hat2 hQ
  clear eW
  obtain ⟨z0,z1,f0,f1⟩:=hA2.all2
  have HF:=Lib.hid (And.intro hA2 (And.intro hat2 (And.intro hrd2 hQ)))
  clear hA2 hat2 hrd2 hQ
  go_wp2_with fail
  obtain ⟨hO,hk⟩:=HF.out.1.put2' (x0:=.int .i64 0) (x1:=.slice (some ⟨w7.heap.size,0,none⟩) 1 1)
  clear z0 z1 f0 f1
  revert hO hk
  generalize ((World.setCell _ _ _).setCell _ _)=W9
  intro hO hk
  obtain ⟨q0,q1,_⟩:=hO.all2
  refine bodyPost_ret (v:=.agg #[.int .i64 0,.slice (some ⟨w7.heap.size,0,none⟩) 1 1]) (by simp [results,Tryd.results55,go_sem,q0,q1]) rfl ?_
  have hres9:=HRES.out
  subst hres9
  exact ⟨HF.out.2.1.at_ hk (Nat.le_refl _),⟨_,rfl,_,_,rfl,.inr ⟨_,0,rfl,Nat.le_of_lt hsz6,(HF.out.2.2.2.at1 hk (Nat.ne_of_gt hsz6)).lt,fun i z hz=>by match i,hz with | 0,hz=>(simp only [List.getElem?_cons_zero,Option.some.injEq] at hz;subst hz;exact (HF.out.2.2.2.at1 hk (Nat.ne_of_gt hsz6)).c0) | i+1,hz=>simp at hz⟩,Nat.le_refl _,by unfold maxLen;simp⟩,HF.out.2.2.1.at_ hk hBw⟩
 replace HRES:=Lib.hid (by have:=HRES.out;rwa [if_neg c0] at this)
 have HT4:Hid (∀ u,RdAt B r l u→Calls Tryd.prog 75 #[.pointer (some ⟨r,0,none⟩),.string (bs [111,102,102,105,99,101])] u fun e w'=>e=.returned (.bool false)∧RdAt B r l w'∧At1 r u w'):=Lib.hid fun u k=>by
  have:=qTake B r l [111,102,102,105,99,101] u k
  rwa [decide_eq_false c0,if_neg c0] at this
 go_wp2_with fail
 refine (HT4.out _ hrd3).mono ?_
 rintro e2 w5 ⟨rfl,hrd6,k_⟩
 replace hat:=hat.trans k_
 replace hA:=hA.at1 k_ gA
 clear k_ hrd3 HT4
 clear c0
 have H1:Hid (∀ u,RdAt B r l u→Calls Tryd.prog 52 #[.pointer (some ⟨r,0,none⟩),.string ⟨#[99,111,97,108,105,116,105,111,110]⟩] u (Ends B r u (Qy.need [99,111,97,108,105,116,105,111,110] l) unitV)):=Lib.hid fun u k=>qNeed B r l _ u k
 go_wp2_with fail
 refine (H1.out _ hrd6).mono ?_
 rintro e2 w7 hE_
 rcases hE_.cases with ⟨un,l1,v,hr_,rfl,hv_,hrd8,k_⟩ | ⟨x_,er_,hr_,rfl,k_⟩
 rotate_left
 ·have hpan_:=HRES.out
  rw [hr_] at hpan_
  simp only [Qy.Res.on] at hpan_
  subst hpan_
  have HG_:=Lib.hid (hat.trans k_)
  clear k_ hE_ hr_ hrd6 
  go_wp2
  exact ⟨rfl,HG_.out,rfl⟩
 have hres_:=HRES.out
 rw [hr_] at hres_
 simp only [Qy.Res.on] at hres_
 replace HRES:=Lib.hid hres_
 have HL1:=Lib.hid (Qy.need_ok HG.out (by simp) hr_)
 replace hat:=hat.trans k_
 replace hA:=hA.at1 k_ gA
 clear hE_ hres_ hr_ k_ hrd6 
 obtain rfl:=hv_
 go_upto_region 7 with fail
 refine wp_new1 fun W1 hO3 kn=>?_
 obtain ⟨g3,hg3⟩:∃ g3,w7.heap.size=g3:=⟨_,rfl⟩
 rw [hg3] at hO3 ⊢
 have hsz6:=hA.lt
 have g23:w.heap.size<g3:=by omega
 have g3r:g3≠r:=by omega
 have hrd1:=hrd8.on kn
 replace hA:=hA.on kn
 replace hat:=hat.trans (At1.of_below kn)
 clear kn hrd8 hg3 hsz6
 have HST:=Lib.hid (And.intro hA (And.intro hat (And.intro hO3 hrd1)))
 have f1:l1.length<f:=by have:=HL1.out.2;have:=HF1.out;omega
 clear hA hat hO3 hrd1
 go_wp2_with fail
 go_loopw [4] (fun s wr=>∃ (mb:Bool) (f':Nat) (acc:List Int) (l':List Qy.Tok) (A:Option Addr) (c:Nat),s=.bool mb∧At1 r w wr∧Own wr w.heap.size 34 [.int .i64 0,.slice none 0 0]∧Own wr g3 34 [.int .i64 1,.slice A acc.length c]∧wr.ownsRow (g3+1) 3 1 (.slice A acc.length c) acc.length (acc.map i64)∧RdAt B r l' wr∧Qy.Good l'∧acc.length≤8∧l'.length<f'∧(if mb=true then (Qy.pOff f' acc l').on (fun o l=>.ok (1,o) l) else .ok (1,acc) l')=RES) (fun _ wr=>restLen r wr)
 case atStart=>exact ⟨true,f,[],l1,none,0,rfl,HST.out.2.1,HST.out.1,HST.out.2.2.1,World.ownsRow_nil _ _ _ 1,HST.out.2.2.2,HL1.out.1,Nat.zero_le _,f1,HRES.out⟩
 case round=>
  obtain ⟨mb,f',acc,l',A,c,rfl,hat,hA,hO3,hrow,hrd,hg,ha8,hfl,hres⟩:=hrel
  replace HRES:=Lib.hid hres
  clear hres
  have HGr:=Lib.hid hg
  have hlen:=hrd.len
  cases mb
  ·
   obtain ⟨q0,q1,_⟩:=hO3.all2
   obtain ⟨A3,c3,hsl,_,h3a,h3b,hints⟩:=owns_ints hrow
   cases hsl
   have HI:=Lib.hid (And.intro hints (And.intro h3a h3b))
   replace HRES:=Lib.hid (by have:=HRES.out;rwa [if_neg (by simp)] at this)
   obtain ⟨z0,z1,f0,f1_⟩:=hA.all2
   have HF:=Lib.hid (And.intro hA (And.intro hat hrd))
   clear hA hat hrd hO3 hrow hg hlen hints h3a h3b
   go_wp2_with fail
   clear q0 q1
   obtain ⟨hO,hk⟩:=HF.out.1.put2' (x0:=.int .i64 1) (x1:=.slice A acc.length c)
   clear z0 z1 f0 f1
   revert hO hk
   generalize ((World.setCell _ _ _).setCell _ _)=W9
   intro hO hk
   obtain ⟨q0,q1,_⟩:=hO.all2
   refine bodyPost_ret (v:=.agg #[.int .i64 1,.slice A acc.length c]) (by simp [results,Tryd.results55,go_sem,q0,q1]) rfl ?_
   have hres9:=HRES.out
   subst hres9
   exact ⟨HF.out.2.1.at_ hk (Nat.le_refl _),⟨_,rfl,_,_,rfl,IntsAt.keep HI.out.1 hk.size (fun g hg hl=>⟨Nat.le_trans (Nat.le_of_lt g23) (Nat.le_of_succ_le hg),hk.heap hl (fun e=>by have hg9:g3+1≤g:=hg;omega)⟩),HI.out.2.1,HI.out.2.2⟩,HF.out.2.2.at_ hk hBw⟩
  replace HRES:=Lib.hid (by have:=HRES.out;rwa [if_pos rfl] at this)
  obtain ⟨f',rfl⟩:∃ f9,f'=f9+1:=⟨f' - 1,by omega⟩
  obtain ⟨A9,n9,c9,e0,e1,e2⟩:=hrd.cells
  have HST2:=Lib.hid (And.intro hA (And.intro hat (And.intro hO3 (And.intro hrd hrow))))
  have hszr:=(And.intro hA.lt hO3.lt)
  clear hA hat hO3 hrd hrow hg
  go_upto_region 11 with fail
  refine wp_new1 fun W5 hQ kn=>?_
  obtain ⟨g5,hg5⟩:∃ g5,wr.heap.size=g5:=⟨_,rfl⟩
  rw [hg5] at hQ hszr ⊢
  have g5r:g5≠r:=by have:=hszr.1;omega
  have g3r1:r<g3+1:=by omega
  have hA:=HST2.out.1.on kn
  have hat:=HST2.out.2.1.trans (At1.of_below kn)
  have hO3:=HST2.out.2.2.1.on kn
  have hrd:=HST2.out.2.2.2.1.on kn
  have hrow:=owns_at1 HST2.out.2.2.2.2 (At1.of_below (r:=r) kn) g3r1
  clear kn e0 e1 e2 HST2 hg5
  replace HRES:=Lib.hid (by have:=HRES.out;rwa [Qy.pOff] at this)
  have H2:Hid (∀ u,RdAt B r l' u→Calls Tryd.prog 53 #[.pointer (some ⟨r,0,none⟩),.int .i64 0,.int .i64 63] u (Ends B r u (Qy.pNum 0 63 l') intV)):=Lib.hid fun u k=>qNum B r _ 0 63 u k (HS.out _ HGr.out).hd
  go_wp2_with fail
  refine (H2.out _ hrd).mono ?_
  rintro e2 w9 hE_
  rcases hE_.cases with ⟨n,l3,v,hr_,rfl,hv_,hrd10,k_⟩ | ⟨x_,er_,hr_,rfl,k_⟩
  rotate_left
  ·have hpan_:=HRES.out
   rw [hr_] at hpan_
   simp only [Qy.Res.on] at hpan_
   subst hpan_
   have HG_:=Lib.hid (hat.trans k_)
   clear k_ hE_ hr_ hrd 
   go_wp2
   exact ⟨rfl,HG_.out,rfl⟩
  have hres_:=HRES.out
  rw [hr_] at hres_
  simp only [Qy.Res.on] at hres_
  replace HRES:=Lib.hid hres_
  have HL3:=Lib.hid (Qy.pNum_ok HGr.out hr_)
  replace hat:=hat.trans k_
  replace hA:=hA.at1 k_ gA
  replace hO3:=hO3.at1 k_ g3r
  replace hQ:=hQ.at1 k_ g5r
  replace hrow:=owns_at1 hrow k_ g3r1
  clear hE_ hres_ hr_ k_ hrd 
  obtain rfl:=hv_
  clear H2
  obtain ⟨A3,c3,hsl,_,h3a,h3b,hints⟩:=owns_ints hrow
  cases hsl
  have HC:=Lib.hid (Contains_any (c:=c) hints n (by omega))
  clear hints h3a h3b
  have q1:=hO3.c1
  by_cases hm:n∈acc
  ·
   rw [decide_eq_true hm] at HC
   replace HRES:=Lib.hid (by have:=HRES.out;rwa [if_pos hm] at this)
   have hpan_:=HRES.out
   simp only at hpan_
   subst hpan_
   have y1:=hQ.c1
   have HF:=Lib.hid (qFail2 g5 (Qy.hdAt l') 8 _ y1)
   have HG_:=Lib.hid hat
   clear hA hat hO3 hrd10 hrow y1 hQ hm
   go_wp2_with fail
   refine HC.out.mono ?_
   rintro e2 w5 ⟨rfl,e_⟩
   subst e_
   clear q1
   go_wp2_with fail
   refine HF.out.mono ?_
   rintro e2 w5 ⟨rfl,e_⟩
   subst e_
   go_wp2
   exact ⟨rfl,HG_.out,rfl⟩
  rw [decide_eq_false hm] at HC
  replace HRES:=Lib.hid (by have:=HRES.out;rwa [if_neg hm] at this)
  by_cases h8:acc.length=8
  ·
   replace HRES:=Lib.hid (by have:=HRES.out;rwa [if_pos h8] at this)
   have hpan_:=HRES.out
   simp only at hpan_
   subst hpan_
   have y1:=hQ.c1
   have HF:=Lib.hid (qFail2 g5 (Qy.hdAt l') 4 _ y1)
   have HG_:=Lib.hid hat
   obtain ⟨n8,hn8⟩:∃ n8,acc.length=n8:=⟨_,rfl⟩
   rw [hn8] at HC q1 h8
   subst h8
   clear hA hat hO3 hrd10 hrow y1 hQ hm hn8
   go_wp2_with fail
   refine HC.out.mono ?_
   rintro e2 w5 ⟨rfl,e_⟩
   subst e_
   go_wp2_with fail
   refine HF.out.mono ?_
   rintro e2 w5 ⟨rfl,e_⟩
   subst e_
   clear q1
   go_wp2
   exact ⟨rfl,HG_.out,rfl⟩
  replace HRES:=Lib.hid (by have:=HRES.out;rwa [if_neg h8] at this)
  have h8z:¬ (acc.length:Int)=8:=by omega
  have HST3:=Lib.hid (And.intro hA (And.intro hat (And.intro hO3 (And.intro hrd10 (And.intro hrow hQ)))))
  clear hA hat hrd10 hrow hQ hm
  go_wp2_with fail
  refine HC.out.mono ?_
  rintro e2 w6 ⟨rfl,e_⟩
  subst e_
  clear hO3 h8z
  have q2:=owns_at1 HST3.out.2.2.2.2.1 (At1.of_below (r:=r) (below_new w6 (.cells #[.int .i64 n] 3))) g3r1
  have HO:=own_news (Own.new w6 3 [.int .i64 n])
  have one1:∀ u∈[Value.int .i64 n],u.oneCell'=true:=by simp [Value.oneCell']
  obtain ⟨i0_,hi_,hz0,hz1,hz2⟩:=info_parts vint_info
  go_wp2_with (at_builtin;refine wpList_pushO _ rfl _ _ 24 rfl 3 i0_ (.int .i64 0) 1 8 Tryd.underlying24 hi_ hz0 hz1 hz2 rfl (by decide) (g3+1) _ _ _ rfl q2 ⟨w6.heap.size,0,none⟩ 1 [.int .i64 n] rfl rfl HO one1 ?c4 ?c5 ?c6 ?_)
  case c4=>unfold maxLen;omega
  case c5=>omega
  case c6=>have:=HST3.out.2.2.1.lt;simp;omega
  intro v' w7 hrow3 hgrow hv'
  rw [show acc.map i64++[.int .i64 n]=(acc++[n]).map i64 by simp [i64]] at hrow3
  obtain ⟨A7,c7,hv7,hlen7,h7a,h7b,hints7⟩:=owns_ints hrow3
  subst hv7
  have kn:=below_new w6 (.cells #[.int .i64 n] 3)
  have hob:∀ g,(Value.slice A acc.length c).ownBlock=some g→g3+1≤g:=fun g e=>by
   rcases HST3.out.2.2.2.2.1.2 with ⟨e1,_⟩ | ⟨g9,_,_,e1,e2,_⟩
   ·rw [e1] at e;cases e
   ·rw [e1] at e;cases e;exact e2
  have hat7:=(HST3.out.2.1.trans (At1.of_below (r:=r) kn)).row hgrow (fun g e=>by have:=hob g e;omega)
  have hrd7:=(HST3.out.2.2.2.1.on kn).row hgrow (fun g e=>by have:=hob g e;omega)
  have hA7:=(HST3.out.1.on kn).grown hgrow (fun e=>by have:=hob _ e.symm;omega)
  have hO7:=(HST3.out.2.2.1.on kn).grown hgrow (fun e=>by have:=hob _ e.symm;omega)
  obtain ⟨n9_,hn9⟩:∃ n9_,(acc++[n]).length=n9_:=⟨_,rfl⟩
  have hla:n9_=acc.length+1:=by rw [← hn9];simp
  rw [hn9] at hrow3 h7a ⊢
  have HLA:=Lib.hid (And.intro hlen7 (And.intro hn9 hla))
  clear hlen7 hn9 hla
  have q3:=hO7.c1
  have q4:=hO7.frozen 1
  have HST4:=Lib.hid (And.intro hat7 (And.intro hrd7 (And.intro hA7 (And.intro hO7 hrow3))))
  clear hat7 hrd7 hA7 hO7 hrow3 hgrow hv' HST3 q1 q2 HO one1 hi_ hz0 hz1 hz2 kn hob hints7 HC
  clear i0_
  go_upto_region 9 with fail
  have hk:=At1.set_ (r:=g3) w7 (p:=⟨g3,1,none⟩) rfl (.slice A7 n9_ c7)
  have hO9:=HST4.out.2.2.2.1.set_ 1 (.slice A7 n9_ c7)
  have hA:=HST4.out.2.2.1.at1 hk (Nat.ne_of_lt g23)
  have hrd:=HST4.out.2.1.at_ hk (by omega)
  have hat:=HST4.out.1.at_ hk (Nat.le_of_lt g23)
  have hrow:=owns_at1 HST4.out.2.2.2.2 hk (Nat.lt_succ_self _)
  clear q3 q4 HST4
  revert hk hO9 hA hrd hat hrow
  generalize w7.setCell _ _=W8
  intro hk hO9 hA hrd hat hrow
  clear hk
  change Own W8 g3 34 [.int .i64 1,.slice A7 n9_ c7] at hO9
  by_cases hc:Qy.hd l3=[44]
  ·
   replace HRES:=Lib.hid (by have:=HRES.out;rwa [if_pos hc] at this)
   have hlt2:=HL3.out.1.1.stp_lt (by rw [hc];simp)
   have HT11:Hid (∀ u,RdAt B r l3 u→Calls Tryd.prog 75 #[.pointer (some ⟨r,0,none⟩),.string (bs [44])] u fun e w'=>e=.returned (.bool true)∧RdAt B r (Qy.stp l3) w'∧At1 r u w'):=Lib.hid fun u k=>by
    have:=qTake B r l3 [44] u k
    rwa [decide_eq_true hc,if_pos hc] at this
   go_wp2_with fail
   refine (HT11.out _ hrd).mono ?_
   rintro e2 w12 ⟨rfl,hrd13,k_⟩
   replace hat:=hat.trans k_
   replace hA:=hA.at1 k_ gA
   replace hO9:=hO9.at1 k_ g3r
   replace hrow:=owns_at1 hrow k_ g3r1
   clear k_ hrd HT11
   have HFS:=Lib.hid (And.intro hat (And.intro hA (And.intro hO9 (And.intro hrow hrd13))))
   clear hat hA hO9 hrow hrd13 hc
   go_wp2_with fail
   go_roundw
   case rel=>exact ⟨true,f',acc++[n],Qy.stp l3,A7,c7,rfl,HFS.out.1,HFS.out.2.1,by rw [HLA.out.2.1];exact HFS.out.2.2.1,by rw [HLA.out.2.1];have h9:=HFS.out.2.2.2.1;rwa [← HLA.out.2.2] at h9,HFS.out.2.2.2.2,HL3.out.1.1.stp,by have:=HLA.out;omega,by have:=HL3.out.1.2;omega,by rw [if_pos rfl];exact HRES.out⟩
   case measure=>have:=HFS.out.2.2.2.2.len;have:=HL3.out.1.2;omega
  replace HRES:=Lib.hid (by have:=HRES.out;rwa [if_neg hc] at this)
  have HT11:Hid (∀ u,RdAt B r l3 u→Calls Tryd.prog 75 #[.pointer (some ⟨r,0,none⟩),.string (bs [44])] u fun e w'=>e=.returned (.bool false)∧RdAt B r l3 w'∧At1 r u w'):=Lib.hid fun u k=>by
   have:=qTake B r l3 [44] u k
   rwa [decide_eq_false hc,if_neg hc] at this
  go_wp2_with fail
  refine (HT11.out _ hrd).mono ?_
  rintro e2 w12 ⟨rfl,hrd13,k_⟩
  replace hat:=hat.trans k_
  replace hA:=hA.at1 k_ gA
  replace hO9:=hO9.at1 k_ g3r
  replace hrow:=owns_at1 hrow k_ g3r1
  clear k_ hrd HT11
  have HFS:=Lib.hid (And.intro hat (And.intro hA (And.intro hO9 (And.intro hrow hrd13))))
  clear hat hA hO9 hrow hrd13 hc
  go_wp2_with fail
  go_roundw
  case rel=>exact ⟨false,f',acc++[n],l3,A7,c7,rfl,HFS.out.1,HFS.out.2.1,by rw [HLA.out.2.1];exact HFS.out.2.2.1,by rw [HLA.out.2.1];have h9:=HFS.out.2.2.2.1;rwa [← HLA.out.2.2] at h9,HFS.out.2.2.2.2,HL3.out.1.1,by have:=HLA.out;omega,by have:=HL3.out.1.2;omega,by rw [if_neg (by simp)];exact HRES.out⟩
  case measure=>have:=HFS.out.2.2.2.2.len;have:=HL3.out.1.2;omega
end Go.Proofs.YtmlpibdincfgbaaDoor
