/-
  Package query: points, names.
-/
import Derived.Test.YtmlpibdincfgbaaDoorK8
namespace Go.Proofs.YtmlpibdincfgbaaDoor
open Go.RowKit
def Shaped (l:List Qy.Tok):Prop:=∀ t∈l,Qy.Shape t.text
theorem Shaped.hd {l:List Qy.Tok} (h:Shaped l):Qy.Shape (Qy.hd l):=by
 match l,h with
 | [],_=>intro c w e;cases e
 | t :: _,h=>exact h t (by simp)
theorem Shaped.stp {l:List Qy.Tok} (h:Shaped l):Shaped (Qy.stp l):=by
 match l,h with
 | [],h=>exact h
 | [_],h=>exact h
 | _ :: u :: r,h=>exact fun t ht=>h t (List.mem_cons_of_mem _ ht)
theorem pNum_stp {lo hi n:Int} {l l':List Qy.Tok} (h:Qy.pNum lo hi l=.ok n l'):l'=Qy.stp l:=by
 unfold Qy.pNum at h
 split at h
 ·split at h
  ·injection h with _ h
   exact h.symm
  ·cases h
 ·cases h
theorem need_stp {s:Qy.Bs} {l l':List Qy.Tok} {u:Unit} (h:Qy.need s l=.ok u l'):l'=Qy.stp l:=by
 unfold Qy.need at h
 split at h
 ·injection h with _ h
  exact h.symm
 ·cases h
theorem Own.at1 {r g:Nat} {w w':World} {t:TypeId} {xs:List Value} (h:Own w g t xs) (k:At1 r w w') (hg:g≠r):Own w' g t xs:=h.grown k (fun e=>hg (by cases e;rfl))
theorem At1.setNew {r:Nat} {w w':World} (h:At1 r w w') {p:Addr} (hp:w.heap.size≤p.block) (u:Value):At1 r w (w'.setCell p u):=by
 have k:=(Below.refl w.heap.size w').setCell hp u
 exact ⟨k.os.trans h.os,k.tape.trans h.tape,k.output.trans h.output,Nat.le_trans h.size k.size,fun j hj hr=>(k.block j hj).trans (h.block j hj hr)⟩
theorem RdAt.keep {B r:Nat} {l:List Qy.Tok} {w w':World} (h:RdAt B r l w) (hz:w.heap.size≤w'.heap.size) (k:∀ g,g<B→w'.heap[g]? = w.heap[g]?):RdAt B r l w':=by
 obtain ⟨b1,b2,t,rest,A,c,h1,h2,h3⟩:=h
 refine ⟨b1,Nat.le_trans b2 hz,t,rest,A,c,h1,(k r b1).trans h2,?_⟩
 rcases h3 with h | ⟨g,off,e,k1,kb,k2,k3,k4⟩
 ·exact .inl h
 ·refine .inr ⟨g,off,e,k1,kb,Nat.lt_of_lt_of_le k2 hz,k3,fun j t ht=>?_⟩
  have e2:∀ o,w'.cell? ⟨g,o,none⟩=w.cell? ⟨g,o,none⟩:=fun o=>World.cell?_of_block (a:=⟨g,o,none⟩) (k g kb)
  rw [e2,e2]
  exact k4 j t ht
theorem RdAt.far {B r:Nat} {l:List Qy.Tok} {w:World} (h:RdAt B r l w) {g0:Nat} (hg:B≤g0) (i:Nat) (u:Value):RdAt B r l (w.setCell ⟨g0,i,none⟩ u):=
 h.keep ((Below.refl 0 w).setCell (Nat.zero_le _) u).size fun g hgb=>Below.heap_setCell w ⟨g0,i,none⟩ u g (show g≠g0 by omega)
def ptV (p:Int × Int) (v:Value) (_:World):Prop:=v=.agg #[.int .i64 p.1,.int .i64 p.2]
set_option maxRecDepth 100000 in
set_option maxHeartbeats 3200000 in
theorem qPoint (B r:Nat) (l:List Qy.Tok) (lx ly:Int) (w:World) (h:RdAt B r l w) (hs:Shaped l) :
 Calls Tryd.prog 94 #[.pointer (some ⟨r,0,none⟩),.agg #[.int .i64 lx,.int .i64 ly]] w (Ends B r w (Qy.pPoint lx ly l) ptV):=by
 have hr:=h.lt
 have HBw:=Lib.hid h.2.1
 have H1:Hid (∀ u,RdAt B r l u→Calls Tryd.prog 53 #[.pointer (some ⟨r,0,none⟩),.int .i64 lx,.int .i64 1073741824] u (Ends B r u (Qy.pNum lx 1073741824 l) intV)):=Lib.hid fun u k=>qNum B r l lx 1073741824 u k hs.hd
 have H2:Hid (∀ l u,RdAt B r l u→Calls Tryd.prog 52 #[.pointer (some ⟨r,0,none⟩),.string ⟨#[44]⟩] u (Ends B r u (Qy.need [44] l) unitV)):=Lib.hid fun l u k=>qNeed B r l [44] u k
 have H3:Hid (∀ l u,RdAt B r l u→Shaped l→Calls Tryd.prog 53 #[.pointer (some ⟨r,0,none⟩),.int .i64 ly,.int .i64 1073741824] u (Ends B r u (Qy.pNum ly 1073741824 l) intV)):=Lib.hid fun l u k hs=>qNum B r l ly 1073741824 u k hs.hd
 have HS:=Lib.hid hs
 have HP:Qy.pPoint lx ly l=(Qy.pNum lx 1073741824 l).on fun x l=>(Qy.need [44] l).on fun _ l=>(Qy.pNum ly 1073741824 l).on fun y l=>.ok (x,y) l:=rfl
 rw [HP]
 clear HP hs
 cases h1:Qy.pNum lx 1073741824 l with
 | bad a e=>
  rw [h1] at H1
  simp only [Qy.Res.on]
  clear h1
  go_enter Tryd.func94,Tryd.ntmps94
  go_upto_region 1 with fail
  refine wp_new2 fun W hA hO hB=>?_
  have k1:=h.on hB
  obtain ⟨a0,a1,_⟩:=hA.all2
  have K0:=Lib.hid (At1.of_below (r:=r) hB)
  clear hB h
  go_wp2_with fail
  refine (H1.out _ k1).mono ?_
  rintro e2 w1 ⟨k2,rfl⟩
  have HF:=Lib.hid (K0.out.trans k2)
  clear k2 a0 a1
  go_wp2
  exact ⟨rfl,HF.out,rfl⟩
 | ok x l1=>
  have e1:=pNum_stp h1
  rw [h1] at H1
  simp only [Qy.Res.on]
  have HS1:=Lib.hid (e1▸HS.out.stp:Shaped l1)
  clear h1 HS e1
  cases h2:Qy.need [44] l1 with
  | bad a e=>
   have HN2:Hid (∀ u,RdAt B r l1 u→Calls Tryd.prog 52 #[.pointer (some ⟨r,0,none⟩),.string ⟨#[44]⟩] u (Ends B r u (.bad a e) unitV)):=Lib.hid fun u k=>by
    have:=H2.out l1 u k
    rwa [h2] at this
   clear h2 H2
   go_enter Tryd.func94,Tryd.ntmps94
   go_upto_region 1 with fail
   refine wp_new2 fun W hA hO hB=>?_
   have k1:=h.on hB
   obtain ⟨a0,a1,_⟩:=hA.all2
   have K0:=Lib.hid (At1.of_below (r:=r) hB)
   clear hB h
   go_wp2_with fail
   refine (H1.out _ k1).mono ?_
   rintro e2 w1 ⟨k2,⟨v,rfl,rfl⟩,k3⟩
   have K1:=Lib.hid (K0.out.trans k2)
   clear k1 k2 a0 a1
   go_wp2_with fail
   refine (HN2.out _ k3).mono ?_
   rintro e2 w2 ⟨k2,rfl⟩
   have HF:=Lib.hid (K1.out.trans k2)
   clear k2 k3
   go_wp2
   exact ⟨rfl,HF.out,rfl⟩
  | ok u l2=>
   have e2:=need_stp h2
   have HN2:Hid (∀ u,RdAt B r l1 u→Calls Tryd.prog 52 #[.pointer (some ⟨r,0,none⟩),.string ⟨#[44]⟩] u (Ends B r u (.ok () l2) unitV)):=Lib.hid fun u k=>by
    have:=H2.out l1 u k
    rwa [h2] at this
   have HS2:=Lib.hid (e2▸HS1.out.stp:Shaped l2)
   have HN3:Hid (∀ u,RdAt B r l2 u→Calls Tryd.prog 53 #[.pointer (some ⟨r,0,none⟩),.int .i64 ly,.int .i64 1073741824] u (Ends B r u (Qy.pNum ly 1073741824 l2) intV)):=Lib.hid fun u k=>H3.out l2 u k HS2.out
   simp only
   clear h2 H2 H3 HS1 HS2 e2
   have hne:∀ W:World,Below w.heap.size w W→w.heap.size≠r:=fun W _=>by omega
   cases h3:Qy.pNum ly 1073741824 l2 with
   | bad a e=>
    rw [h3] at HN3
    clear h3
    go_enter Tryd.func94,Tryd.ntmps94
    go_upto_region 1 with fail
    refine wp_new2 fun W hA hO hB=>?_
    have k1:=h.on hB
    obtain ⟨a0,a1,_⟩:=hA.all2
    have K0:=Lib.hid (At1.of_below (r:=r) hB)
    have gA:w.heap.size≠r:=by omega
    clear hB h hne
    go_wp2_with fail
    refine (H1.out _ k1).mono ?_
    rintro e2 w1 ⟨k2,⟨v,rfl,rfl⟩,k3⟩
    have K1:=Lib.hid (K0.out.trans k2)
    have hA1:=hA.at1 k2 gA
    clear k1 k2 a0 a1
    go_wp2_with fail
    refine (HN2.out _ k3).mono ?_
    rintro e2 w2 ⟨k2,⟨v,rfl,rfl⟩,k4⟩
    have K2:=Lib.hid (K1.out.trans k2)
    obtain ⟨a0,a1,_⟩:=(hA1.at1 k2 gA).all2
    clear k2 k3
    go_wp2_with fail
    refine (HN3.out _ k4).mono ?_
    rintro e2 w3 ⟨k2,rfl⟩
    have HF:=Lib.hid (K2.out.trans k2)
    clear k2 k4 a0 a1
    go_wp2
    exact ⟨rfl,HF.out,rfl⟩
   | ok y l3=>
    rw [h3] at HN3
    clear h3
    go_enter Tryd.func94,Tryd.ntmps94
    go_upto_region 1 with fail
    refine wp_new2 fun W hA hO hB=>?_
    have k1:=h.on hB
    obtain ⟨a0,a1,_⟩:=hA.all2
    have K0:=Lib.hid hB
    have gA:w.heap.size≠r:=by omega
    have gO:w.heap.size+1≠r:=by omega
    clear hB h hne
    go_wp2_with fail
    refine (H1.out _ k1).mono ?_
    rintro e2 w1 ⟨k2,⟨v,rfl,rfl⟩,k3⟩
    have K1:=Lib.hid k2
    have hA1:=hA.at1 k2 gA
    have hO1:=hO.at1 k2 gO
    clear k1 k2 a0 a1
    go_wp2_with fail
    refine (HN2.out _ k3).mono ?_
    rintro e2 w2 ⟨k2,⟨v,rfl,rfl⟩,k4⟩
    have K2:=Lib.hid (K1.out.trans k2)
    obtain ⟨a0,a1,_⟩:=(hA1.at1 k2 gA).all2
    have hO2:=hO1.at1 k2 gO
    clear k2 k3
    go_wp2_with fail
    refine (HN3.out _ k4).mono ?_
    rintro e2 w3 ⟨k2,⟨v,rfl,rfl⟩,k5⟩
    have hO3:=hO2.at1 k2 gO
    obtain ⟨z0,z1,f0,f1⟩:=hO3.all2
    have K3:=Lib.hid (K2.out.trans k2)
    have hBO:B≤w.heap.size+1:=Nat.le_succ_of_le HBw.out
    have hO4:=(hO3.set_ 0 (.int .i64 x)).set_ 1 (.int .i64 y)
    obtain ⟨q0,q1,_⟩:=hO4.all2
    have HF:Hid (At1 r w ((w3.setCell ⟨w.heap.size+1,0,none⟩ (.int .i64 x)).setCell ⟨w.heap.size+1,1,none⟩ (.int .i64 y))∧RdAt B r l3 ((w3.setCell ⟨w.heap.size+1,0,none⟩ (.int .i64 x)).setCell ⟨w.heap.size+1,1,none⟩ (.int .i64 y))):=Lib.hid (by
     refine ⟨(((At1.of_below K0.out).trans K3.out).setNew (p:=⟨w.heap.size+1,0,none⟩) (Nat.le_succ _) _).setNew (p:=⟨w.heap.size+1,1,none⟩) (Nat.le_succ _) _,?_⟩
     exact (k5.far hBO 0 _).far hBO 1 _)
    clear hBO k2 k4 k5 a0 a1 hA hA1 hO hO1 hO2 hO3 hO4
    go_wp2
    exact bodyPost_ret (v:=.agg #[.int .i64 x,.int .i64 y]) (by simp [results,Tryd.results94,go_sem,q0,q1]) rfl ⟨HF.out.1,⟨_,rfl,rfl⟩,HF.out.2⟩
end Go.Proofs.YtmlpibdincfgbaaDoor
/-
 (second part)
-/
namespace Go.Proofs.YtmlpibdincfgbaaDoor
open Go.RowKit
theorem bs_at (t:Qy.Bs) (i:Nat) (c:UInt8) (h:t[i]? = some c):∀ hi:i<(bs t).size,(bs t)[i]'hi=c:=fun hi=>by
 have h2:i<t.length:=(List.getElem?_eq_some_iff.1 h).1
 have h3:t[i]=c:=(List.getElem?_eq_some_iff.1 h).2
 exact h3
set_option maxRecDepth 100000 in
set_option maxHeartbeats 3200000 in
theorem name_any (t:Qy.Bs) (w:World):Calls Tryd.prog 82 #[.string (bs t)] w fun e w'=>e=.returned (.bool (Qy.nameOK t))∧w'=w:=by
 obtain ⟨n,hn⟩:∃ n,t.length=n:=⟨_,rfl⟩
 have hsz:(bs t).size=n:=by rw [bs_size,hn]
 have HIn:Hid (∀ u,Calls Tryd.prog 78 #[.int .i64 (n:Int),.int .i64 1,.int .i64 16] u fun e w'=>e=.returned (.bool (decide (1≤n)&&decide (n≤16)))∧w'=u):=Lib.hid fun u=>by
  have:=in_any (n:Int) 1 16 u
  rwa [show decide ((1:Int)≤(n:Int))=decide (1≤n) by rw [decide_eq_decide];omega,show decide ((n:Int)≤16)=decide (n≤16) by rw [decide_eq_decide];omega] at this
 have HOK:Qy.nameOK t=(decide (1≤n)&&decide (n≤16)&&Qy.isL (t.headD 0)&&t.all Qy.isW):=by unfold Qy.nameOK;rw [hn]
 by_cases hl:1≤n∧n≤16
 ·obtain ⟨h1,h2⟩:=hl
  rw [decide_eq_true h1,decide_eq_true h2] at HIn HOK
  simp only [Bool.true_and] at HIn HOK
  obtain ⟨c,hc0⟩:∃ c,t[0]? = some c:=⟨_,List.getElem?_eq_getElem (by omega)⟩
  have hhd:t.headD 0=c:=by
   cases t with
   | nil=>cases hc0
   | cons x r=>simpa using hc0
  rw [hhd] at HOK
  have hx0:=bs_at t 0 c hc0
  have HLt:=Lib.hid fun u=>letter_any c u
  have hx1:(0:Int)<(n:Int):=by omega
  have HAt:=Lib.hid fun (i:Nat) (c:UInt8) (h:t[i]? = some c)=>bs_at t i c h
  have HN:=Lib.hid hn
  obtain ⟨sd,hsd⟩:∃ sd,bs t=sd:=⟨_,rfl⟩
  rw [hsd] at hsz hx0 HAt ⊢
  clear hsd hhd hc0 hn
  by_cases hL:Qy.isL c=true
  ·rw [hL] at HLt HOK
   simp only [Bool.true_and] at HOK
   rw [HOK]
   obtain ⟨b,hb⟩:∃ b,t.all Qy.isW=b:=⟨_,rfl⟩
   have HB:=Lib.hid hb
   rw [hb]
   clear hb HOK hL
   go_enter Tryd.func82,Tryd.ntmps82
   go_wp2_with fail
   refine (HIn.out _).mono ?_
   rintro e w1 ⟨rfl,e_⟩
   subst e_
   go_wp2_with fail
   refine (HLt.out _).mono ?_
   rintro e w2 ⟨rfl,e_⟩
   subst e_
   clear HLt HIn hx0
   go_wp2_with fail
   go_loopw [16] (fun s wr=>∃ i:Nat,i≤n∧s=.int .i64 (i:Int)∧(t.take i).all Qy.isW=true∧wr=w2) (fun s _=>n - (intOf s).toNat)
   case atStart=>exact ⟨0,by omega,rfl,by simp,rfl⟩
   case round=>
    obtain ⟨i,hi,rfl,hal,rfl⟩:=hrel
    rcases Nat.lt_or_eq_of_le hi with hlt | heq
    ·have i0:(0:Int)≤(i:Int):=by omega
     have i1:(i:Int)<(n:Int):=by omega
     obtain ⟨d,hd⟩:∃ d,t[i]? = some d:=⟨_,List.getElem?_eq_getElem (by have:=HN.out;omega)⟩
     have hx:=HAt.out i d hd
     have HW:=Lib.hid fun u=>inWord_any d u
     have HT:=Lib.hid (show t.take (i+1)=t.take i++[d] by rw [List.take_add_one,hd];rfl)
     have HAl:=Lib.hid hal
     have HM:=Lib.hid (List.mem_of_getElem? hd)
     clear hal hd
     by_cases hw:Qy.isW d=true
     ·rw [hw] at HW
      have HW2:=Lib.hid hw
      clear hw
      go_wp2_with fail
      refine (HW.out _).mono ?_
      rintro e w3 ⟨rfl,e_⟩
      subst e_
      go_wp2_with fail
      go_roundw
      case rel=>exact ⟨i+1,by omega,by go_num,by rw [HT.out,List.all_append,HAl.out];simp [HW2.out],by first | rfl | trivial⟩
      case measure=>simp [intOf];omega
     ·have hwf:Qy.isW d=false:=by simpa using hw
      have hbf:b=false:=by
       rw [← HB.out,List.all_eq_false]
       exact ⟨d,HM.out,by simp [hwf]⟩
      rw [hwf] at HW
      subst hbf
      clear hw hwf
      go_wp2_with fail
      refine (HW.out _).mono ?_
      rintro e w3 ⟨rfl,e_⟩
      subst e_
      go_wp2
      go_returns
      exact ⟨rfl,rfl⟩
    ·subst heq
     have hbt:b=true:=by
      have h1:=HN.out
      rw [List.take_of_length_le (by omega)] at hal
      exact HB.out.symm.trans hal
     subst hbt
     clear hal
     go_wp2
     go_returns
     exact ⟨rfl,rfl⟩
  ·have hLf:Qy.isL c=false:=by simpa using hL
   rw [hLf] at HLt HOK
   simp only [Bool.false_and] at HOK
   rw [HOK]
   clear HOK hL hLf
   go_enter Tryd.func82,Tryd.ntmps82
   go_wp2_with fail
   refine (HIn.out _).mono ?_
   rintro e w1 ⟨rfl,e_⟩
   subst e_
   go_wp2_with fail
   refine (HLt.out _).mono ?_
   rintro e w2 ⟨rfl,e_⟩
   subst e_
   go_wp2
   go_returns
   exact ⟨rfl,rfl⟩
 ·have hno:(decide (1≤n)&&decide (n≤16))=false:=by
   rw [Bool.and_eq_false_iff]
   simp only [decide_eq_false_iff_not]
   omega
  rw [hno] at HIn HOK
  simp only [Bool.false_and] at HOK
  rw [HOK]
  clear HOK hno hl hn
  go_enter Tryd.func82,Tryd.ntmps82
  go_wp2_with fail
  refine (HIn.out _).mono ?_
  rintro e w1 ⟨rfl,e_⟩
  subst e_
  go_wp2
  go_returns
  exact ⟨rfl,rfl⟩
end Go.Proofs.YtmlpibdincfgbaaDoor
