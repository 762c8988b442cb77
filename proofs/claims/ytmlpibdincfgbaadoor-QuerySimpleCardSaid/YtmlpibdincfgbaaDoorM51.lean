/-
  Chapter 38's reference: Leaves.
-/
import Derived.Test.YtmlpibdincfgbaaDoorM48
namespace Go.Proofs.YtmlpibdincfgbaaDoor
open Go.RowKit
set_option linter.unusedSimpArgs false
set_option linter.unusedVariables false
def LvP (S:Nat→Prop) (n b:Nat) (w:World) (e:Ending) (w':World):Prop:=
 ∃ (L:List Qy.Reg) (A:Option Addr) (c:Nat),e=.returned (.slice A L.length c)∧Below w.heap.size w w'∧KidsAt w' (fun g=>S g∨w.heap.size≤g) A 0 L∧L.length≤n∧∀ x∈L,Qy.nodes x≤b
theorem putL_len {l:List Qy.Reg} {R:Qy.Reg} {n b:Nat} (h:l.length≤n∧∀ x∈l,Qy.nodes x≤b) (hR:Qy.nodes R≤b):(putL l R).length≤n+1∧∀ x∈putL l R,Qy.nodes x≤b:=by
 unfold putL
 split
 ·exact ⟨by omega,h.2⟩
 ·refine ⟨by simp;exact h.1,fun x hx=>?_⟩
  rcases List.mem_append.1 hx with h1 | h1
  ·exact h.2 x h1
  ·rw [List.mem_singleton.1 h1]
   exact hR
theorem kids_wider {w:World} {S S':Nat→Prop} {A:Option Addr} {i:Nat} {l:List Qy.Reg} (h:KidsAt w S A i l) (k:∀ g,S g→g<w.heap.size→S' g):KidsAt w S' A i l:=KidsAt.keep (Nat.le_refl _) (fun g hg hl=>⟨k g hg hl,rfl⟩) _ _ _ h
set_option maxRecDepth 100000 in
set_option maxHeartbeats 6400000 in
theorem leaves_any:∀ (n:Nat),n≤900000→∀ (R:Qy.Reg),Qy.nodes R≤n→∀ (S:Nat→Prop) (cs:List Value) (w:World),RegAt w S cs R→Calls Tryd.prog 27 #[.agg cs.toArray] w (LvP S (Qy.nodes R) n w):=by
 intro n
 induction n with
 | zero=>intro _ R h;have:=Qy.nodes_pos R;omega
 | succ n ih=>
  intro hN R hn S cs w h
  have HR:=Lib.hid h
  obtain ⟨s1,n2,n3,n4,n5,n6,n7,A,c,rfl,hK⟩:=h.litk
  obtain ⟨K,hKK⟩:∃ k,R.kind=k:=⟨_,rfl⟩
  obtain ⟨m,hm⟩:∃ k,R.kids.length=k:=⟨_,rfl⟩
  rw [hKK,hm] at HR ⊢
  have HM:=Lib.hid hm
  have HK:=Lib.hid hK
  have hnp:=Qy.nodes_pos R
  have hnk:=Qy.nodes_of_kids R
  have hml:=Qy.len_nodesL R.kids
  obtain ⟨kids,hkids⟩:∃ l,R.kids=l:=⟨_,rfl⟩
  rw [hkids] at HM HK hnk hml
  have hmb:m≤900000:=by have:=HM.out;omega
  have HIH:Hid (∀ x∈kids,∀ (cs:List Value) (u:World),RegAt u (fun g=>S g∧g<w.heap.size) cs x→Calls Tryd.prog 27 #[.agg cs.toArray] u (LvP (fun g=>S g∧g<w.heap.size) (Qy.nodes x) n u)):=Lib.hid fun x hx cs u h=>ih (by omega) x (by have:=Qy.nodes_in1 hx;omega) _ cs u h
  have HNk:=Lib.hid (And.intro hnk (And.intro hn hN))
  clear h hK hKK hm hkids ih hml hnk
  go_enter Tryd.func27,Tryd.ntmps27
  go_upto_region 1 with fail
  refine wp_new1 fun W0 hO kn=>?_
  obtain ⟨gb,hgb⟩:∃ g,w.heap.size=g:=⟨_,rfl⟩
  rw [hgb] at hO ⊢
  have HO:=Lib.hid (And.intro hO (And.intro kn hgb))
  obtain ⟨⟨y0,y1,y2,y3,y4,y5,y6,y7,y8⟩,_⟩:=HO.out.1.all9
  clear hO kn hgb
  by_cases h0:K=0
  ·subst h0
   go_wp2
   go_returns
   exact ⟨[],none,0,by simp,HO.out.2.1,by rw [KidsAt];trivial,by simp,by simp⟩
  by_cases h4:K<4
  ·have HKn:=HO.out.2.1
   have kn:=below_new W0 (.cells #[.int .i64 K,.string s1,.int .i64 n2,.int .i64 n3,.int .i64 n4,.int .i64 n5,.int .i64 n6,.int .i64 n7,.slice A m c] 42)
   have HF:=Lib.hid (And.intro (Below.call HO.out.2.1 kn) (kids_one (N:=fun g=>S g∨w.heap.size≤g) (T:=42) ((HR.out.on HO.out.2.1).wider fun g hg _=>.inl hg) (.inr HO.out.2.1.size)))
   clear kn
   go_wp2
   go_returns
   exact ⟨[R],_,1,by simp,HF.out.1,HF.out.2,by simp;omega,fun x hx=>by rw [List.mem_singleton.1 hx];omega⟩
  have HG:=Lib.hid HO.out.2.2
  obtain ⟨N,hN2⟩:∃ N:Nat→Prop,N=fun g=>(S g∧g<gb)∨gb<g:=⟨_,rfl⟩
  have HNN:Hid (∀ g,N g↔(S g∧g<gb)∨gb<g):=Lib.hid fun g=>by rw [hN2]
  have hz0:=HO.out.1.lt
  have HZ:=Lib.hid hz0
  clear hN2 hz0
  go_wp2_with fail
  go_loopw [3,4] (fun s3 s4 wr=>∃ (i:Nat) (acc:List Qy.Reg),i≤m∧s4=.int .i64 (i:Int)∧Below w.heap.size w wr∧Own wr gb 42 [.int .i64 K,.string s1,.int .i64 n2,.int .i64 n3,.int .i64 n4,.int .i64 n5,.int .i64 n6,.int .i64 n7,.slice A m c]∧KRow 42 N wr s3 acc∧(∀ b,s3.ownBlock=some b→gb<b)∧acc.length≤Qy.nodesL (kids.take i)∧∀ x∈acc,Qy.nodes x≤n+1) (fun _ s _=>m - (intOf s).toNat)
  case atStart=>exact ⟨0,[],Nat.zero_le _,rfl,HO.out.2.1,HO.out.1,KRow.nil _ _,(fun b hb=>by cases hb),by simp,by simp⟩
  case round=>
   obtain ⟨i,acc,hi,rfl,hB,hA,hrow,hrv,hal,han⟩:=hrel
   clear y0 y1 y2 y3 y4 y5 y6 y7 y8
   have y8:=hA.cell 8
   rcases Nat.lt_or_eq_of_le hi with hlt | heq
   ·have i0:(0:Int)≤(i:Int):=Int.natCast_nonneg i
    have i1:(i:Int)<(m:Int):=by omega
    obtain ⟨Ri,hRi⟩:∃ R,kids[i]? = some R:=⟨_,List.getElem?_eq_getElem (by have:=HM.out;omega)⟩
    obtain ⟨gk,off,d0,t1,d2,d3,d4,d5,d6,d7,B8,l8,c8,rfl,hSg,hgl,⟨a0,a1,a2,a3,a4,a5,a6,a7,a8⟩,hR⟩:=HK.out.lit hRi
    have ce:∀ o,wr.cell? ⟨gk,o,none⟩=w.cell? ⟨gk,o,none⟩:=fun o=>World.cell?_of_block (a:=⟨gk,o,none⟩) (hB.block gk hgl)
    rw [← ce] at a0 a1 a2 a3 a4 a5 a6 a7 a8
    have hmem:=List.mem_of_getElem? hRi
    have HC:=Lib.hid (HIH.out Ri hmem [.int .i64 d0,.string t1,.int .i64 d2,.int .i64 d3,.int .i64 d4,.int .i64 d5,.int .i64 d6,.int .i64 d7,.slice B8 l8 c8] wr ((hR.wider fun g h1 h2=>⟨h1,h2⟩).on hB))
    have hT1:Qy.nodesL (kids.take (i+1))=Qy.nodesL (kids.take i)+Qy.nodes Ri:=by rw [List.take_add_one,hRi];show Qy.nodesL (kids.take i++[Ri])=_;rw [Qy.nodesL_append,Qy.nodesL_one]
    have hT2:=Qy.nodesL_take_le kids (i+1)
    have HT:=Lib.hid (And.intro hT1 hT2)
    have HS:=Lib.hid (And.intro hB (And.intro hA (And.intro hrow (And.intro hrv (And.intro hal han)))))
    have hgr:=hA.lt
    clear ce hRi hR hSg hgl hmem hB hA hrow hrv hal han hT1 hT2
    go_wp2_with fail
    refine HC.out.mono ?_
    rintro e w1 ⟨L,A5,c5,rfl,k1,hL,hLn,hLb⟩
    obtain ⟨B0,hB0⟩:∃ B,wr.heap.size=B:=⟨_,rfl⟩
    rw [hB0] at hL hgr
    have hk1:B0≤w1.heap.size:=by rw [← hB0];exact k1.size
    obtain ⟨nl,hnl⟩:∃ k,L.length=k:=⟨_,rfl⟩
    have HNL:=Lib.hid (And.intro hnl (And.intro hLn hLb))
    rw [hnl]
    have hnlb:nl≤1000000:=by have h1:=HNL.out.1;have h2:=HNL.out.2.1;have h3:=HT.out;have h4:=HNk.out;omega
    have HE:Hid (∀ wz,Below w1.heap.size w1 wz→KidsAt wz (fun g=>((S g∧g<gb)∨B0≤g)∧g<w1.heap.size) A5 0 L):=Lib.hid fun wz k=>KidsAt.keep k.size (fun g hg hl=>⟨⟨hg.imp (fun h=>⟨h.1,by have:=HG.out;omega⟩) id,hl⟩,k.block g hl⟩) _ _ _ hL
    have HS1:=Lib.hid (And.intro (Below.call HS.out.1 k1) (And.intro (HS.out.2.1.on k1) (HS.out.2.2.1.on k1)))
    have HU:Hid (∀ b,u3.ownBlock=some b→b<B0):=Lib.hid fun b hb=>by rw [← hB0];exact (HS.out.2.2.1.own b hb).2
    clear k1 hL hLn hLb hnl hB0 a0 a1 a2 a3 a4 a5 a6 a7 a8 y8
    go_wp2_with fail
    go_loopw [3,6] (fun s3 s6 wz=>∃ (k:Nat) (acc2:List Qy.Reg),k≤nl∧s6=.int .i64 (k:Int)∧Below w.heap.size w wz∧Own wz gb 42 [.int .i64 K,.string s1,.int .i64 n2,.int .i64 n3,.int .i64 n4,.int .i64 n5,.int .i64 n6,.int .i64 n7,.slice (some ⟨gk,off,none⟩) m c]∧KRow 42 N wz s3 acc2∧(∀ b,s3.ownBlock=some b→gb<b∧(b<B0∨w1.heap.size≤b))∧acc2.length≤Qy.nodesL (kids.take i)+k∧(∀ x∈acc2,Qy.nodes x≤n+1)∧KidsAt wz (fun g=>((S g∧g<gb)∨B0≤g)∧g<w1.heap.size) A5 0 L∧w1.heap.size≤wz.heap.size) (fun _ s _=>nl - (intOf s).toNat)
    case atStart=>exact ⟨0,acc,Nat.zero_le _,rfl,HS1.out.1,HS1.out.2.1,HS1.out.2.2,fun b hb=>⟨HS.out.2.2.2.1 b hb,.inl (HU.out b hb)⟩,HS.out.2.2.2.2.1,HS.out.2.2.2.2.2,HE.out _ (Below.refl _ _),Nat.le_refl _⟩
    case round=>
     obtain ⟨k,acc2,hk,rfl,hB,hA,hrow,hrv,hal,han,hL,hz⟩:=hrel
     rcases Nat.lt_or_eq_of_le hk with hlt2 | heq2
     ·have j0:(0:Int)≤(k:Int):=Int.natCast_nonneg k
      have j1:(k:Int)<(nl:Int):=by omega
      obtain ⟨x,hx⟩:∃ R,L[k]? = some R:=⟨_,List.getElem?_eq_getElem (by have:=HNL.out.1;omega)⟩
      obtain ⟨gk,off,d0,t1,d2,d3,d4,d5,d6,d7,B8,l8,c8,rfl,_,hgl,⟨a0,a1,a2,a3,a4,a5,a6,a7,a8⟩,hR⟩:=hL.lit hx
      have hxb:Qy.nodes x≤n:=HNL.out.2.2 x (List.mem_of_getElem? hx)
      have hsm:acc2.length≤1000000:=by
       have h1:=HT.out
       have h2:=HNk.out
       have h3:=HNL.out.1
       have h4:=HNL.out.2.1
       omega
      have HPut:=Lib.hid (put_any u3 acc2 x [.int .i64 d0,.string t1,.int .i64 d2,.int .i64 d3,.int .i64 d4,.int .i64 d5,.int .i64 d6,.int .i64 d7,.slice B8 l8 c8] wr hrow (hR.wider fun g hg _=>⟨(HNN.out g).2 (hg.1.imp id fun h=>by omega),fun e=>by
       have h1:=hrv g e
       have h2:=hg.2
       rcases hg.1 with h3 | h3 <;> omega⟩) (fun g hg=>(HNN.out g).2 (.inr (by have:=hA.lt;omega))) hsm (fun y hy=>by have h1:=han y hy;have h2:=HNk.out;omega) (by have h2:=HNk.out;omega))
      have HS2:=Lib.hid (And.intro hB (And.intro hA (And.intro hrv (And.intro (putL_len ⟨hal,han⟩ (by omega:Qy.nodes x≤n+1)) (And.intro hL hz)))))
      clear hx hR hxb hsm hB hA hrow hrv hal han hL hz hgl
      go_wp2_with fail
      refine HPut.out.mono ?_
      rintro e w7 ⟨v7,rfl,hrow7,hg7,hv7⟩
      have hne:∀ b,u3.ownBlock=some b→gb<b∧(b<B0∨w1.heap.size≤b):=HS2.out.2.2.1
      have HF:=Lib.hid (And.intro (Below.grown HS2.out.1 hg7 HS2.out.1.size (fun j hj=>by have h1:=hne j hj;have h2:=HG.out;omega)) (And.intro (HS2.out.2.1.grown hg7 (fun e=>by have h1:=hne _ e.symm;omega)) (And.intro hrow7 (And.intro (fun b hb=>by
       rcases hv7 b hb with h1 | h1
       ·exact hne b h1
       ·have h2:=HS2.out.2.1.lt
        have h3:=HS2.out.2.2.2.2.2
        exact ⟨by omega,.inr (by omega)⟩:∀ b,v7.ownBlock=some b→gb<b∧(b<B0∨w1.heap.size≤b)) (And.intro HS2.out.2.2.2.1 (And.intro (KidsAt.keep hg7.size (fun g hg hl=>⟨hg,hg7.block g hl (fun e=>by
        have h1:=hne g e.symm
        have h2:=hg.2
        rcases hg.1 with h3 | h3 <;> omega)⟩) _ _ _ HS2.out.2.2.2.2.1) (Nat.le_trans HS2.out.2.2.2.2.2 hg7.size)))))))
      clear hrow7 hg7 hv7 hne a0 a1 a2 a3 a4 a5 a6 a7 a8
      go_wp2_with fail
      go_roundw
      case rel=>exact ⟨k+1,_,by omega,by go_num,HF.out.1,HF.out.2.1,HF.out.2.2.1,HF.out.2.2.2.1,HF.out.2.2.2.2.1.1,HF.out.2.2.2.2.1.2,HF.out.2.2.2.2.2.1,HF.out.2.2.2.2.2.2⟩
      case measure=>simp [intOf];omega
     ·have j1:¬ (k:Int)<(nl:Int):=by omega
      have hal2:acc2.length≤Qy.nodesL (kids.take (i+1)):=by
       have h1:=HT.out.1
       have h2:=HNL.out
       omega
      have HF:=Lib.hid (And.intro hB (And.intro hA (And.intro hrow (And.intro (fun b hb=>(hrv b hb).1:∀ b,u3.ownBlock=some b→gb<b) (And.intro hal2 han)))))
      clear hB hA hrow hrv hal han hL hal2
      go_wp2_with fail
      go_roundw
      case rel=>exact ⟨i+1,acc2,by omega,by go_num,HF.out⟩
      case measure=>simp [intOf];omega
   ·have i1:¬ (i:Int)<(m:Int):=by omega
    have hT2:=Qy.nodesL_take_le kids i
    obtain ⟨A3,c3,hv3,hK3⟩:=hrow.kids
    have HF:=Lib.hid (And.intro hB (And.intro (kids_wider hK3 (S':=fun g=>S g∨w.heap.size≤g) fun g hg _=>((HNN.out g).1 hg).imp (fun h=>h.1) fun h=>by have:=HG.out;omega) (And.intro (by have h2:=HNk.out.1;omega:acc.length≤Qy.nodes R) han)))
    subst hv3
    clear hB hA hrow hrv hal han hT2 hK3
    go_wp2
    go_returns
    exact ⟨acc,A3,c3,by simp,HF.out.1,HF.out.2.1,HF.out.2.2.1,HF.out.2.2.2⟩
end Go.Proofs.YtmlpibdincfgbaaDoor
