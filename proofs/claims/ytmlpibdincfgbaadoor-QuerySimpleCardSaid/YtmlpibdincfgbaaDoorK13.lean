/-
  Package query: list.
-/
import Derived.Test.YtmlpibdincfgbaaDoorK12
namespace Go.Proofs.YtmlpibdincfgbaaDoor
open Go.RowKit
set_option maxRecDepth 100000 in
set_option maxHeartbeats 6400000 in
theorem qList (B r f:Nat) (ih:∀ g,g<f→RegW B r g):ListW B r f:=by
 intro l w h hg hf hL
 obtain ⟨f,rfl⟩:∃ f',f=f'+1:=⟨f - 1,by omega⟩
 rw [Qy.pList]
 have H1:Hid (∀ u,RdAt B r l u→Calls Tryd.prog 52 #[.pointer (some ⟨r,0,none⟩),.string ⟨#[40]⟩] u (Ends B r u (Qy.need [40] l) unitV)):=Lib.hid fun u k=>qNeed B r l [40] u k
 have hrw:=h.lt
 have hBw:=h.2.1
 cases h1:Qy.need [40] l with
 | bad a e=>
  rw [h1] at H1
  simp only [Qy.Res.on]
  clear h1 hg hf hL ih hrw hBw
  go_enter Tryd.func95,Tryd.ntmps95
  go_wp2_with fail
  refine (H1.out _ h).mono ?_
  rintro e2 w1 ⟨k2,rfl⟩
  have HF:=Lib.hid k2
  clear k2 h
  go_wp2
  exact ⟨rfl,HF.out,rfl⟩
 | ok u l1=>
  rw [h1] at H1
  have hl1:=Qy.need_ok hg (by simp) h1
  simp only [Qy.Res.on]
  have H2:Hid (∀ l u,RdAt B r l u→Calls Tryd.prog 75 #[.pointer (some ⟨r,0,none⟩),.string ⟨#[41]⟩] u fun e w'=>e=.returned (.bool (decide (Qy.hd l=[41])))∧RdAt B r (if Qy.hd l=[41] then Qy.stp l else l) w'∧At1 r u w'):=Lib.hid fun l u k=>qTake B r l [41] u k
  by_cases h2:Qy.hd l1=[41]
  ·have HT:=Lib.hid fun u=>H2.out l1 u
   rw [decide_eq_true h2,if_pos h2] at HT
   rw [if_pos h2]
   clear h1 hg hf hL ih hrw hBw H2 h2 hl1
   go_enter Tryd.func95,Tryd.ntmps95
   go_wp2_with fail
   refine (H1.out _ h).mono ?_
   rintro e2 w1 ⟨k1,⟨v,rfl,rfl⟩,k3⟩
   clear h
   go_wp2_with fail
   refine (HT.out _ k3).mono ?_
   rintro e2 w2 ⟨rfl,k4,k5⟩
   have HF:=Lib.hid (And.intro (k1.trans k5) k4)
   clear k1 k3 k4 k5
   go_wp2
   go_returns
   exact ⟨HF.out.1,⟨_,rfl,none,0,rfl,by rw [KidsAt];trivial⟩,HF.out.2⟩
  ·have HT:=Lib.hid fun u=>H2.out l1 u
   rw [decide_eq_false h2,if_neg h2] at HT
   rw [if_neg h2]
   have HR:Hid (∀ u,RdAt B r l1 u→Calls Tryd.prog 54 #[.pointer (some ⟨r,0,none⟩)] u (Ends B r u (Qy.pReg f l1) (regV u))):=Lib.hid fun u k=>ih f (Nat.lt_succ_self f) l1 u k hl1.1 (by have:=hl1.2;omega) (by have:=hl1.2;omega)
   cases h3:Qy.pReg f l1 with
   | bad a e=>
    rw [h3] at HR
    clear h1 hg hf hL ih hrw hBw H2 h2 hl1 h3
    go_enter Tryd.func95,Tryd.ntmps95
    go_wp2_with fail
    refine (H1.out _ h).mono ?_
    rintro e2 w1 ⟨k1,⟨v,rfl,rfl⟩,k3⟩
    clear h
    go_wp2_with fail
    refine (HT.out _ k3).mono ?_
    rintro e2 w2 ⟨rfl,k4,k5⟩
    have HF:=Lib.hid (k1.trans k5)
    clear k1 k3 k5
    go_wp2_with fail
    refine (HR.out _ k4).mono ?_
    rintro e2 w3 ⟨k6,rfl⟩
    have HG:=Lib.hid (HF.out.trans k6)
    clear k4 k6
    go_wp2
    exact ⟨rfl,HG.out,rfl⟩
   | ok R l2=>
    rw [h3] at HR
    have hl2:=(Qy.eats f).reg l1 R l2 hl1.1 h3
    obtain ⟨RES,hRES⟩:∃ RES,Qy.pMore f [R] l2=RES:=⟨_,rfl⟩
    simp only
    rw [hRES]
    have b1:=hl1.2
    have b2:=hl2.2
    have HG2:=Lib.hid hl2.1
    have HRES:=Lib.hid hRES
    have HIH:=Lib.hid ih
    have f2:3 * l2.length+1≤f:=by omega
    have n2:1+l2.length≤5000:=by omega
    have H3:Hid (∀ l u,RdAt B r l u→Calls Tryd.prog 75 #[.pointer (some ⟨r,0,none⟩),.string ⟨#[44]⟩] u fun e w'=>e=.returned (.bool (decide (Qy.hd l=[44])))∧RdAt B r (if Qy.hd l=[44] then Qy.stp l else l) w'∧At1 r u w'):=Lib.hid fun l u k=>qTake B r l [44] u k
    have H4:Hid (∀ l u,RdAt B r l u→Calls Tryd.prog 52 #[.pointer (some ⟨r,0,none⟩),.string ⟨#[41]⟩] u (Ends B r u (Qy.need [41] l) unitV)):=Lib.hid fun l u k=>qNeed B r l [41] u k
    clear h1 hg hf hL ih H2 h2 hl1 hl2 h3 hRES b1 b2
    go_enter Tryd.func95,Tryd.ntmps95
    go_wp2_with fail
    refine (H1.out _ h).mono ?_
    rintro e2 w1 ⟨k1,⟨v,rfl,rfl⟩,k3⟩
    clear h
    go_wp2_with fail
    refine (HT.out _ k3).mono ?_
    rintro e2 w2 ⟨rfl,k4,k5⟩
    have k6:=k1.trans k5
    clear k1 k3 k5
    go_wp2_with fail
    refine (HR.out _ k4).mono ?_
    rintro e2 w3 ⟨k7,⟨v,rfl,hR⟩,k8⟩
    obtain ⟨x0,x1,x2,x3,x4,x5,x6,x7,x8,rfl,_,_,hrow⟩:=hR.open_
    have z3:w.heap.size≤w3.heap.size:=Nat.le_trans k6.size k7.size
    have hrow:=hrow 32 (New w) (fun g hg=>Nat.le_trans k6.size hg) z3
    have kn:=below_new w3 (.cells #[x0,x1,x2,x3,x4,x5,x6,x7,x8] 32)
    have k9:=k8.on kn
    have ka:=(k6.trans k7).trans (At1.of_below kn)
    clear k4 k6 k7 k8 hR kn z3
    go_wp2_with fail
    go_loopw [3] (fun s wr=>∃ (f':Nat) (acc:List Qy.Reg) (l':List Qy.Tok),f'≤f∧3 * l'.length+1≤f'∧acc.length+l'.length≤5000∧KRow 32 (New w) wr s acc∧RdAt B r l' wr∧Qy.Good l'∧Qy.pMore f' acc l'=RES∧At1 r w wr) (fun _ wr=>restLen r wr)
    case atStart=>exact ⟨f,[R],l2,Nat.le_refl _,f2,n2,hrow,k9,HG2.out,HRES.out,ka⟩
    case round=>
     obtain ⟨f',acc,l',hf',hfl,hn,hrow,hrd,hg,hres,hat⟩:=hrel
     obtain ⟨f',rfl⟩:∃ f'',f'=f''+1:=⟨f' - 1,by omega⟩
     have hlen:=hrd.len
     rw [Qy.pMore] at hres
     by_cases h4:Qy.hd l'=[44]
     ·have HT4:=Lib.hid fun u=>H3.out l' u
      rw [decide_eq_true h4,if_pos h4] at HT4
      rw [if_pos h4] at hres
      have b4:=hg.stp_lt (by rw [h4];simp)
      have g4:=hg.stp
      have HR5:Hid (∀ u,RdAt B r (Qy.stp l') u→Calls Tryd.prog 54 #[.pointer (some ⟨r,0,none⟩)] u (Ends B r u (Qy.pReg f' (Qy.stp l')) (regV u))):=Lib.hid fun u k=>HIH.out f' (by omega) (Qy.stp l') u k g4 (by omega) (by omega)
      cases h5:Qy.pReg f' (Qy.stp l') with
      | bad a e=>
       rw [h5] at HR5 hres
       simp only [Qy.Res.on] at hres
       subst hres
       have HA:=Lib.hid hat
       clear h4 hg b4 g4 h5 hn hfl hf' hrow hat hlen
       go_wp2_with fail
       refine (HT4.out _ hrd).mono ?_
       rintro e2 w5 ⟨rfl,k4,k5⟩
       have HF:=Lib.hid (HA.out.trans k5)
       clear hrd k5
       go_wp2_with fail
       refine (HR5.out _ k4).mono ?_
       rintro e2 w6 ⟨k6,rfl⟩
       have HG:=Lib.hid (HF.out.trans k6)
       clear k4 k6
       go_wp2
       exact ⟨rfl,HG.out,rfl⟩
      | ok R2 l3=>
       rw [h5] at HR5 hres
       simp only [Qy.Res.on] at hres
       have hl3:=(Qy.eats f').reg _ _ _ g4 h5
       have b5:=hl3.2
       have HG3:=Lib.hid hl3.1
       have HRES3:=Lib.hid hres
       have HA:=Lib.hid hat
       have zw:=hat.size
       have qs:=hrow.own
       have HRow:=Lib.hid hrow
       clear h4 hg g4 h5 hres hl3 hat hrow
       go_wp2_with fail
       refine (HT4.out _ hrd).mono ?_
       rintro e2 w5 ⟨rfl,k4,k5⟩
       clear hrd
       go_wp2_with fail
       refine (HR5.out _ k4).mono ?_
       rintro e2 w6 ⟨k6,⟨v,rfl,hR⟩,k8⟩
       obtain ⟨y0,y1,y2,y3,y4,y5,y6,y7,y8,rfl,one9,hR9,_⟩:=hR.open_
       have kn:=below_new w6 (.cells #[y0,y1,y2,y3,y4,y5,y6,y7,y8] 32)
       have hat2:=((HA.out.trans k5).trans k6).trans (At1.of_below kn)
       have hrow1:=HRow.out.at1 ((k5.trans k6).trans (At1.of_below kn)) (by unfold New;omega)
       have hR1:=hR9.at1 (At1.of_below (r:=r) kn) (Nat.lt_of_lt_of_le hrw (Nat.le_trans zw k5.size))
       have hrd2:=k8.on kn
       have HO:=own_news (Own.new w6 32 [y0,y1,y2,y3,y4,y5,y6,y7,y8])
       obtain ⟨css,q1,q2,q4,q3⟩:=hrow1
       have hvi:∀ g,u3.ownBlock=some g→g<w5.heap.size:=fun g hg=>Nat.lt_of_lt_of_le (qs g hg).2 k5.size
       have hv0:∀ g,u3.ownBlock=some g→w.heap.size≤g:=fun g hg=>(qs g hg).1
       have zw5:=Nat.le_trans zw k5.size
       have z56:=Nat.le_trans k6.size kn.size
       clear k4 k5 k6 k8 hR hR9 kn qs zw
       obtain ⟨i0_,hi_,hz0,hz1,hz2⟩:=info_parts reg_info
       have hn1:acc.length+1≤5000:=by omega
       go_wp2_with (at_builtin;refine wpList_pushO _ rfl _ _ 30 rfl 32 i0_ (.agg #[.int .i64 0,.string ⟨#[]⟩,.int .i64 0,.int .i64 0,.int .i64 0,.int .i64 0,.int .i64 0,.int .i64 0,.slice none 0 0]) 9 96 Tryd.underlying30 hi_ hz0 hz1 hz2 rfl (by decide) 0 _ _ _ rfl q2 ⟨w6.heap.size,0,none⟩ 1 [y0,y1,y2,y3,y4,y5,y6,y7,y8] rfl rfl HO one9 ?c4 ?c5 ?c6 ?_)
       case c4=>unfold maxLen;omega
       case c5=>omega
       case c6=>exact Nat.zero_le _
       intro v' w7 hrow3 hgrow hv'
       have hrow4:=KRow.push q1 q4 q3 rfl hR1 (fun g hg=>Nat.le_trans zw5 hg) z56 hvi hrow3 hgrow (hv'.imp id fun e=>e.trans (by simp))
       have hat3:=hat2.row hgrow hv0
       have hrd3:=hrd2.row hgrow (fun g hg=>Nat.le_trans hBw (hv0 g hg))
       have HF:=Lib.hid (And.intro hrow4 (And.intro hat3 hrd3))
       clear hrow4 hat3 hrd3 hrow3 hgrow hv' q1 q2 q3 q4 hR1 zw5 z56 hvi hv0 hat2 hrd2 HO one9 hi_ hz0 hz1 hz2
       clear i0_
       go_wp2_with fail
       go_roundw
       case rel=>exact ⟨f',acc++[R2],l3,by omega,by omega,by simp;omega,HF.out.1,HF.out.2.2,HG3.out,HRES3.out,HF.out.2.1⟩
       case measure=>have:=HF.out.2.2.len;omega
     ·have HT4:=Lib.hid fun u=>H3.out l' u
      rw [decide_eq_false h4,if_neg h4] at HT4
      rw [if_neg h4] at hres
      have HN4:=Lib.hid fun u=>H4.out l' u
      have HA:=Lib.hid hat
      cases h5:Qy.need [41] l' with
      | bad a e=>
       rw [h5] at HN4 hres
       simp only [Qy.Res.on] at hres
       subst hres
       clear h4 hg h5 hn hfl hf' hrow hat hlen
       go_wp2_with fail
       refine (HT4.out _ hrd).mono ?_
       rintro e2 w5 ⟨rfl,k4,k5⟩
       have HF:=Lib.hid (HA.out.trans k5)
       clear hrd k5
       go_wp2_with fail
       refine (HN4.out _ k4).mono ?_
       rintro e2 w6 ⟨k6,rfl⟩
       have HG:=Lib.hid (HF.out.trans k6)
       clear k4 k6
       go_wp2
       exact ⟨rfl,HG.out,rfl⟩
      | ok u l3=>
       rw [h5] at HN4 hres
       simp only [Qy.Res.on] at hres
       subst hres
       have HRow:=Lib.hid (hrow.listV (w0:=w) fun _ h=>h)
       have HSz:=Lib.hid (Nat.lt_of_lt_of_le hrw hat.size)
       clear h4 hg h5 hn hfl hf' hrow hat hlen
       go_wp2_with fail
       refine (HT4.out _ hrd).mono ?_
       rintro e2 w5 ⟨rfl,k4,k5⟩
       have HK5:=Lib.hid k5
       clear hrd k5
       go_wp2_with fail
       refine (HN4.out _ k4).mono ?_
       rintro e2 w6 ⟨k6,⟨v,rfl,rfl⟩,k7⟩
       have HF:=Lib.hid (And.intro ((HA.out.trans HK5.out).trans k6) (And.intro k7 (HRow.out.at1 (HK5.out.trans k6) hrw)))
       clear k4 k6 k7
       go_wp2
       go_returns
       exact ⟨HF.out.1,⟨_,rfl,HF.out.2.2⟩,HF.out.2.1⟩
end Go.Proofs.YtmlpibdincfgbaaDoor
