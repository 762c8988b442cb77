/-
  Chapter 38's reference: the reader in memory; see, fail, take, need.
-/
import Derived.Test.YtmlpibdincfgbaaDoorK16
import Derived.Test.YtmlpibdincfgbaaDoorL30
namespace Go.Proofs.YtmlpibdincfgbaaDoor
open Go.RowKit
set_option linter.unusedSimpArgs false
set_option linter.unusedVariables false
def RfAt (B r:Nat) (s:Qy.St) (w:World):Prop:=
 r<B∧B≤w.heap.size∧Qy.Good s.1∧∃ (all:List Qy.Tok) (i:Nat) (A:Option Addr) (c a:Nat) (b:Int),all.drop i=s.1∧all.length≤5000∧Own w r 91 [.slice A all.length c,.int .i64 (i:Int),.int .i64 (a:Int),.int .i64 b]∧TksAt w B r A c all∧
  (match s.2 with | none=>b=0 | some (x,e)=>a=x∧b=e∧e≠0)
theorem RfAt.lt {B r:Nat} {s:Qy.St} {w:World} (h:RfAt B r s w):r<w.heap.size:=Nat.lt_of_lt_of_le h.1 h.2.1
theorem RfAt.keep {B r:Nat} {s:Qy.St} {w w':World} (h:RfAt B r s w) (hz:w.heap.size≤w'.heap.size) (k:∀ g,g<B→w'.heap[g]? = w.heap[g]?):RfAt B r s w':=by
 obtain ⟨b1,b2,bg,all,i,A,c,a,b,e1,hl,h1,h3,h4⟩:=h
 refine ⟨b1,Nat.le_trans b2 hz,bg,all,i,A,c,a,b,e1,hl,(k r b1).trans h1,?_,h4⟩
 rcases h3 with h | ⟨g,off,e,k1,kb,k2,k3,k4⟩
 ·exact .inl h
 ·refine .inr ⟨g,off,e,k1,kb,Nat.lt_of_lt_of_le k2 hz,k3,fun j t ht=>?_⟩
  have e2:∀ o,w'.cell? ⟨g,o,none⟩=w.cell? ⟨g,o,none⟩:=fun o=>World.cell?_of_block (a:=⟨g,o,none⟩) (k g kb)
  rw [e2,e2]
  exact k4 j t ht
theorem RfAt.on {B r:Nat} {s:Qy.St} {w w':World} (h:RfAt B r s w) (k:Below w.heap.size w w'):RfAt B r s w':=h.keep k.size fun g hg=>k.block g (Nat.lt_of_lt_of_le hg h.2.1)
theorem RfAt.at_ {B r g:Nat} {s:Qy.St} {w w':World} (h:RfAt B r s w) (k:At1 g w w') (hg:B≤g):RfAt B r s w':=
 h.keep k.size fun j hj=>k.heap (by have:=h.2.1;omega) (by omega)
theorem RfAt.row {B r:Nat} {s:Qy.St} {w w':World} {v:Value} (h:RfAt B r s w) (k:w.grownBy w' v.ownBlock) (hv:∀ g,v.ownBlock=some g→B≤g):RfAt B r s w':=
 h.keep k.size fun g hg=>k.block g (by have:=h.2.1;omega) (fun e=>by have:=hv g e.symm;omega)
def aheadF (r:Nat) (w:World):Nat:=match w.cell? ⟨r,0,none⟩,w.cell? ⟨r,1,none⟩ with
 | some (.slice _ n _),some (.int _ i)=>n - i.toNat
 | _,_=>0
theorem RfAt.len {B r:Nat} {s:Qy.St} {w:World} (h:RfAt B r s w):aheadF r w=s.1.length:=by
 obtain ⟨_,_,bg,all,i,A,c,a,b,e1,hl,h1,h3,h4⟩:=h
 unfold aheadF
 have c0:=h1.cell 0
 have c1:=h1.cell 1
 rw [show w.cell? ⟨r,0,none⟩=some (.slice A all.length c) from c0,show w.cell? ⟨r,1,none⟩=some (.int .i64 (i:Int)) from c1]
 simp only [Int.toNat_natCast]
 rw [← e1,List.length_drop]
theorem hd_head {l:List Qy.Tok} {t:Qy.Tok} (h:l.head? = some t):Qy.hd l=t.text∧Qy.hdAt l=t.at_:=by
 cases l with
 | nil=>cases h
 | cons x l=>cases h;exact ⟨rfl,rfl⟩
theorem RfAt.good {B r:Nat} {s:Qy.St} {w:World} (h:RfAt B r s w):Qy.Good s.1:=h.2.2.1
theorem RfAt.cells {B r:Nat} {s:Qy.St} {w:World} (h:RfAt B r s w):∃ (n i g off c a:Nat) (b:Int),n≤5000∧i<n∧g≠r∧g<w.heap.size∧Own w r 91 [.slice (some ⟨g,off,none⟩) n c,.int .i64 (i:Int),.int .i64 (a:Int),.int .i64 b]∧
 w.cell? ⟨g,off+i * 2,none⟩=some (.string (bs (Qy.hd s.1)))∧w.cell? ⟨g,off+i * 2+1,none⟩=some (.int .i64 (Qy.hdAt s.1:Int))∧(match s.2 with | none=>b=0 | some (x,e)=>a=x∧b=e∧e≠0)∧
 (Qy.hd s.1≠[]→RfAt B r (Qy.adv s) (w.setCell ⟨r,1,none⟩ (.int .i64 ((i:Int)+1))))∧
 ∀ er:Int,er≠0→s.2=none→RfAt B r (Qy.failS er s) ((w.setCell ⟨r,3,none⟩ (.int .i64 er)).setCell ⟨r,2,none⟩ (.int .i64 (Qy.hdAt s.1:Int))):=by
 obtain ⟨b1,b2,bg,all,i,A,c,a,b,e1,hl,h1,h3,h4⟩:=h
 have hne:=bg.ne
 have hi:i<all.length:=by
  rcases Nat.lt_or_ge i all.length with h | h
  ·exact h
  ·exact absurd (e1.symm.trans (List.drop_of_length_le h)) hne
 rcases h3 with h | ⟨g,off,rfl,k1,kb,k2,k3,k4⟩
 ·rw [h] at hi;simp at hi
 ·obtain ⟨c1,c2⟩:=k4 i all[i] (List.getElem?_eq_getElem hi)
  have hh:s.1.head? = some all[i]:=by rw [← e1,List.head?_drop,List.getElem?_eq_getElem hi]
  obtain ⟨ht1,ht2⟩:=hd_head hh
  have hT:TksAt w B r (some ⟨g,off,none⟩) c all:=.inr ⟨g,off,rfl,k1,kb,k2,k3,k4⟩
  refine ⟨all.length,i,g,off,c,a,b,hl,hi,k1,k2,h1,by rw [ht1];exact c1,by rw [ht2];exact c2,h4,fun hd=>?_,fun er he hs=>?_⟩
  ·have hk:=At1.set_ (r:=r) w (p:=⟨r,1,none⟩) rfl (.int .i64 ((i:Int)+1))
   refine ⟨b1,Nat.le_trans b2 hk.size,bg.stp,all,i+1,_,c,a,b,?_,hl,?_,hT.at1 hk,h4⟩
   ·have h5:=bg.stp_lt hd
    show all.drop (i+1)=Qy.stp s.1
    rw [← List.drop_drop,e1]
    obtain ⟨l,o⟩:=s
    simp only at h5 hne ⊢
    match l,hne,h5 with
    | [t],_,h5=>exact absurd h5 (by simp [Qy.stp])
    | _ :: u :: l,_,_=>rfl
   ·have h6:=h1.set_ 1 (.int .i64 ((i:Int)+1))
    rw [show ((i+1:Nat):Int)=(i:Int)+1 by omega]
    exact h6
  ·have hk:=(At1.set_ (r:=r) w (p:=⟨r,3,none⟩) rfl (.int .i64 er)).trans (At1.set_ (r:=r) _ (p:=⟨r,2,none⟩) rfl (.int .i64 (Qy.hdAt s.1:Int)))
   have e:Qy.failS er s=(s.1,some (Qy.hdAt s.1,er)):=by unfold Qy.failS;rw [hs]
   rw [e]
   exact ⟨b1,Nat.le_trans b2 hk.size,bg,all,i,_,c,Qy.hdAt s.1,er,e1,hl,(h1.set_ 3 (.int .i64 er)).set_ 2 (.int .i64 (Qy.hdAt s.1:Int)),hT.at1 hk,rfl,rfl,he⟩
set_option maxRecDepth 100000 in
set_option maxHeartbeats 1600000 in
theorem rSee (B r:Nat) (s:Qy.St) (w:World) (h:RfAt B r s w):Calls Tryd.prog 61 #[.pointer (some ⟨r,0,none⟩)] w fun e w'=>e=.returned (.string (bs (Qy.see s)))∧Below w.heap.size w w':=by
 obtain ⟨n,i,g,off,c,a,b,hl,hi,hgr,hgl,hO,c8,c9,hb,_,_⟩:=h.cells
 have q0:w.cell? ⟨r,0,none⟩=some (.slice (some ⟨g,off,none⟩) n c):=hO.cell 0
 have q1:w.cell? ⟨r,1,none⟩=some (.int .i64 (i:Int)):=hO.cell 1
 have q3:w.cell? ⟨r,3,none⟩=some (.int .i64 b):=hO.cell 3
 obtain ⟨l,o⟩:=s
 cases o with
 | some y=>
  obtain ⟨x,er⟩:=y
  obtain ⟨rfl,rfl,hb0⟩:=hb
  have hs:Qy.see (l,some (a,b))=[32]:=Qy.see_bad
  rw [hs]
  clear hs h hO c8 c9
  go_enter Tryd.func61,Tryd.ntmps61
  go_wp2
  go_returns
  exact ⟨rfl,by go_grown⟩
 | none=>
  obtain rfl:b=0:=hb
  have hs:Qy.see (l,none)=Qy.hd l:=rfl
  rw [hs]
  have i0:(0:Int)≤(i:Int):=by omega
  have i1:(i:Int)<(n:Int):=by omega
  clear hs h hO hgl
  go_enter Tryd.func61,Tryd.ntmps61
  go_wp2
  go_quiet (fail)
  go_wp2
  go_returns
  exact ⟨rfl,⟨rfl,rfl,rfl,Nat.le_refl _,fun _ _=>rfl⟩⟩
set_option maxRecDepth 100000 in
set_option maxHeartbeats 1600000 in
theorem rFail (B r:Nat) (s:Qy.St) (er:Int) (he:er≠0) (w:World) (h:RfAt B r s w):Calls Tryd.prog 59 #[.pointer (some ⟨r,0,none⟩),.int .i64 er] w fun e w'=>e=.returned (.tuple #[])∧At1 r w w'∧RfAt B r (Qy.failS er s) w':=by
 obtain ⟨n,i,g,off,c,a,b,hl,hi,hgr,hgl,hO,c8,c9,hb,_,hF⟩:=h.cells
 have q0:w.cell? ⟨r,0,none⟩=some (.slice (some ⟨g,off,none⟩) n c):=hO.cell 0
 have q1:w.cell? ⟨r,1,none⟩=some (.int .i64 (i:Int)):=hO.cell 1
 have q2:w.cell? ⟨r,2,none⟩=some (.int .i64 (a:Int)):=hO.cell 2
 have q3:w.cell? ⟨r,3,none⟩=some (.int .i64 b):=hO.cell 3
 have f2:=hO.frozen 2
 have f3:=hO.frozen 3
 obtain ⟨l,o⟩:=s
 cases o with
 | some y=>
  obtain ⟨x,e2⟩:=y
  obtain ⟨rfl,rfl,hb0⟩:=hb
  have hs:Qy.failS er (l,some (a,b))=(l,some (a,b)):=rfl
  rw [hs]
  have HR:=Lib.hid h
  clear hs h hO c8 c9 hF
  go_enter Tryd.func59,Tryd.ntmps59
  go_wp2
  exact bodyPost_end (results_none Tryd.results59 _ _ _) rfl ⟨rfl,At1.refl _ _,HR.out⟩
 | none=>
  obtain rfl:b=0:=hb
  have i0:(0:Int)≤(i:Int):=by omega
  have i1:(i:Int)<(n:Int):=by omega
  have HR:=Lib.hid (hF er he rfl)
  have HK:=Lib.hid ((At1.set_ (r:=r) w (p:=⟨r,3,none⟩) rfl (.int .i64 er)).trans (At1.set_ (r:=r) _ (p:=⟨r,2,none⟩) rfl (.int .i64 (Qy.hdAt l:Int))))
  clear h hO hgl hF
  go_enter Tryd.func59,Tryd.ntmps59
  go_wp2
  go_region
  go_wp2
  have k:=Below.drew (Below.refl ((w.setCell ⟨r,3,none⟩ (.int .i64 er)).setCell ⟨r,2,none⟩ (.int .i64 (Qy.hdAt l:Int))).heap.size ((w.setCell ⟨r,3,none⟩ (.int .i64 er)).setCell ⟨r,2,none⟩ (.int .i64 (Qy.hdAt l:Int))))
  exact bodyPost_end (results_none Tryd.results59 _ _ _) rfl ⟨rfl,HK.out.drew,HR.out.on k⟩
set_option maxRecDepth 100000 in
set_option maxHeartbeats 1600000 in
theorem rTake (B r:Nat) (s:Qy.St) (t:Qy.Bs) (ht:t≠[32]) (w:World) (h:RfAt B r s w):Calls Tryd.prog 58 #[.pointer (some ⟨r,0,none⟩),.string (bs t)] w fun e w'=>
 e=.returned (.bool (decide (Qy.see s=t)))∧RfAt B r (Qy.takeS t s) w'∧At1 r w w':=by
 have HS:=Lib.hid (rSee B r s w h)
 obtain ⟨b,hb⟩:∃ b,decide (Qy.see s=t)=b:=⟨_,rfl⟩
 obtain ⟨s2,hs2⟩:∃ s2,Qy.takeS t s=s2:=⟨_,rfl⟩
 have hcmp:((bs (Qy.see s)).toList==(bs t).toList)=b:=by
  rw [bs_toList,bs_toList,← hb]
  by_cases e:Qy.see s=t <;> simp [e]
 rw [hb,hs2]
 cases b
 ·have hne:((bs (Qy.see s)).toList != (bs t).toList)=true:=by rw [bne,hcmp];rfl
  have h1:=of_decide_eq_false hb
  rw [Qy.takeS,if_neg h1] at hs2
  subst hs2
  have HR:=Lib.hid h
  clear hb h1 h
  go_enter Tryd.func58,Tryd.ntmps58
  go_wp2_with fail
  refine HS.out.mono ?_
  rintro e w1 ⟨rfl,k1⟩
  have HF:=Lib.hid (And.intro (HR.out.on k1) (At1.of_below (r:=r) k1))
  clear k1
  go_wp2
  go_returns
  exact ⟨rfl,HF.out.1,HF.out.2⟩
 ·have hne:((bs (Qy.see s)).toList != (bs t).toList)=false:=by rw [bne,hcmp];rfl
  have h1:=of_decide_eq_true hb
  rw [Qy.takeS,if_pos h1] at hs2
  have hnone:s.2=none:=by
   obtain ⟨l,o⟩:=s
   cases o with
   | none=>rfl
   | some y=>exact absurd (Qy.see_bad.symm.trans h1) (fun e=>ht e.symm)
  have hsee:Qy.hd s.1=t:=by rw [← h1];unfold Qy.see;rw [hnone]
  have HR:=Lib.hid h
  by_cases h0:t=[]
  ·rw [if_pos h0] at hs2
   subst hs2
   have h0':((bs t).toList==([]:List UInt8))=true:=by rw [bs_toList,h0];rfl
   have h0'':((bs t).toList != ([]:List UInt8))=false:=by rw [bne,h0'];rfl
   clear hb h1 h hnone hsee h0
   go_enter Tryd.func58,Tryd.ntmps58
   go_wp2_with fail
   refine HS.out.mono ?_
   rintro e w1 ⟨rfl,k1⟩
   have HF:=Lib.hid (And.intro (HR.out.on k1) (At1.of_below (r:=r) k1))
   clear k1
   go_wp2
   go_returns
   exact ⟨rfl,HF.out.1,HF.out.2⟩
  ·rw [if_neg h0] at hs2
   subst hs2
   have h0':((bs t).toList==([]:List UInt8))=false:=by rw [bs_toList];simpa using h0
   have h0'':((bs t).toList != ([]:List UInt8))=true:=by rw [bne,h0'];rfl
   have hd0:Qy.hd s.1≠[]:=by rw [hsee];exact h0
   clear hb h1 hnone hsee h0
   go_enter Tryd.func58,Tryd.ntmps58
   go_wp2_with fail
   refine HS.out.mono ?_
   rintro e w1 ⟨rfl,k1⟩
   obtain ⟨n,i,g,off,c,a,b,hl,hi,hgr,hgl,hO,c8,c9,hb,hA,_⟩:=(HR.out.on k1).cells
   have q1:w1.cell? ⟨r,1,none⟩=some (.int .i64 (i:Int)):=hO.cell 1
   have f1:=hO.frozen 1
   have i0:(0:Int)≤(i:Int):=by omega
   have i1:(i:Int)≤5000:=by omega
   have HF:=Lib.hid (And.intro (hA hd0) ((At1.of_below (r:=r) k1).trans (At1.set_ (r:=r) w1 (p:=⟨r,1,none⟩) rfl (.int .i64 ((i:Int)+1)))))
   clear k1 hO c8 c9 hb hA hd0 hi hl hgl h
   go_wp2
   go_returns
   exact ⟨rfl,HF.out.1,HF.out.2⟩
set_option maxRecDepth 100000 in
set_option maxHeartbeats 1600000 in
theorem rNeed (B r:Nat) (s:Qy.St) (t:Qy.Bs) (ht:t≠[32]) (w:World) (h:RfAt B r s w):Calls Tryd.prog 34 #[.pointer (some ⟨r,0,none⟩),.string (bs t)] w fun e w'=>
 e=.returned (.tuple #[])∧At1 r w w'∧RfAt B r (Qy.needS t s) w':=by
 have HT:=Lib.hid (rTake B r s t ht w h)
 by_cases e:Qy.see s=t
 ·have hn:Qy.needS t s=Qy.takeS t s:=by unfold Qy.needS Qy.takeS;rw [if_pos e,if_pos e]
  rw [hn]
  rw [decide_eq_true e] at HT
  clear hn e h
  go_enter Tryd.func34,Tryd.ntmps34
  go_wp2_with fail
  refine HT.out.mono ?_
  rintro e w1 ⟨rfl,h1,h2⟩
  have HF:=Lib.hid (And.intro h2 h1)
  clear h1 h2
  go_wp2
  exact bodyPost_end (results_none Tryd.results34 _ _ _) rfl ⟨rfl,HF.out⟩
 ·have hn:Qy.needS t s=Qy.failS 2 s:=if_neg e
  have hk:Qy.takeS t s=s:=if_neg e
  rw [hn]
  rw [decide_eq_false e,hk] at HT
  clear hn hk e h
  go_enter Tryd.func34,Tryd.ntmps34
  go_wp2_with fail
  refine HT.out.mono ?_
  rintro e w1 ⟨rfl,h1,h2⟩
  have H2:=Lib.hid h2
  clear h2
  go_wp2_with fail
  refine (rFail B r s 2 (by decide) w1 h1).mono ?_
  rintro e w2 ⟨rfl,k1,k2⟩
  have HF:=Lib.hid (And.intro (H2.out.trans k1) k2)
  clear h1 k1 k2
  go_wp2
  exact bodyPost_end (results_none Tryd.results34 _ _ _) rfl ⟨rfl,HF.out⟩
end Go.Proofs.YtmlpibdincfgbaaDoor
