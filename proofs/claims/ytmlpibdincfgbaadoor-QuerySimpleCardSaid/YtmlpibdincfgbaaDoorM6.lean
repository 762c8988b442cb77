/-
  Chapter 38's reference: kids.
-/
import Derived.Test.YtmlpibdincfgbaaDoorM4
namespace Go.Proofs.YtmlpibdincfgbaaDoor
open Go.RowKit
set_option linter.unusedSimpArgs false
set_option linter.unusedVariables false
set_option maxRecDepth 100000 in
set_option maxHeartbeats 6400000 in
theorem rKids (B r f:Nat) (ih:∀ g,g<f→RegF B r g):KidsF B r f:=by
 intro s w h hf hs0
 obtain ⟨f,rfl⟩:∃ f',f=f'+1:=⟨f - 1,by have:=hf.1;omega⟩
 rw [Qy.rKids]
 have hrw:=h.lt
 have hBw:=h.2.1
 have hL:=h.short
 have hfs:=hf.2 hs0
 have hpos:=h.good.pos
 obtain ⟨s1,hs1⟩:∃ s1,Qy.needS [40] s=s1:=⟨_,rfl⟩
 have H1:Hid (∀ u,RfAt B r s u→Calls Tryd.prog 34 #[.pointer (some ⟨r,0,none⟩),.string ⟨#[40]⟩] u fun e w'=>e=.returned (.tuple #[])∧At1 r u w'∧RfAt B r s1 w'):=Lib.hid fun u k=>hs1▸rNeed B r s [40] (by decide) u k
 have hle1:s1.1.length≤s.1.length:=by rw [← hs1];exact Qy.needS_le _ _
 have hfo1:Qy.FOK 2 f s1:=⟨by omega,fun e=>by
  rcases Qy.need_rel (t:=[40]) (by simp) s.1 with ⟨l1,k1,k2⟩ | ⟨x,k1,k2⟩
  ·have hs:s=(s.1,none):=by rw [← hs0]
   rw [hs,k2] at hs1
   rw [← hs1]
   have:=(Qy.need_ok h.good (by simp) k1).2
   show 3 * l1.length+2≤f
   omega
  ·have hs:s=(s.1,none):=by rw [← hs0]
   rw [hs,k2] at hs1
   rw [← hs1] at e
   cases e⟩
 simp only [hs1]
 clear hs1
 have H2:Hid (∀ u,RfAt B r s1 u→Calls Tryd.prog 58 #[.pointer (some ⟨r,0,none⟩),.string ⟨#[41]⟩] u fun e w'=>e=.returned (.bool (decide (Qy.see s1=[41])))∧RfAt B r (Qy.takeS [41] s1) w'∧At1 r u w'):=Lib.hid fun u k=>rTake B r s1 [41] (by decide) u k
 by_cases h2:Qy.see s1=[41]
 ·rw [decide_eq_true h2,show Qy.takeS [41] s1=Qy.adv s1 by unfold Qy.takeS;rw [if_pos h2,if_neg (by simp)]] at H2
  rw [if_pos h2]
  clear hf hL ih hrw hBw h2 hle1 hfo1 hfs hpos hs0
  go_enter Tryd.func87,Tryd.ntmps87
  go_wp2_with fail
  refine (H1.out _ h).mono ?_
  rintro e2 w1 ⟨rfl,k1,k3⟩
  clear h
  go_wp2_with fail
  refine (H2.out _ k3).mono ?_
  rintro e2 w2 ⟨rfl,k4,k5⟩
  have HF:=Lib.hid (And.intro (k1.trans k5) k4)
  clear k1 k3 k4 k5
  go_wp2
  go_returns
  exact ⟨HF.out.1,⟨_,rfl,none,0,rfl,by rw [KidsAt];trivial⟩,HF.out.2⟩
 ·rw [decide_eq_false h2,show Qy.takeS [41] s1=s1 by unfold Qy.takeS;rw [if_neg h2]] at H2
  rw [if_neg h2]
  obtain ⟨p2,hp2⟩:∃ p,Qy.rReg f s1=p:=⟨_,rfl⟩
  have HR:Hid (∀ u,RfAt B r s1 u→Calls Tryd.prog 36 #[.pointer (some ⟨r,0,none⟩)] u (EndF B r u p2 (regV u))):=Lib.hid fun u k=>hp2▸ih f (Nat.lt_succ_self f) s1 u k hfo1
  have hle2:p2.2.1.length≤s1.1.length:=by rw [← hp2];exact (Qy.lens f).reg s1
  have hfo2:Qy.FOK 1 f p2.2:=⟨by have:=hfo1.1;omega,fun e=>by have:=hfo1.2 (Qy.reg_none (by rw [hp2];exact e));omega⟩
  simp only [hp2]
  obtain ⟨R,s2⟩:=p2
  simp only at hle2 hfo2 ⊢
  obtain ⟨RES,hRES⟩:∃ RES,Qy.rMore f [R] s2=RES:=⟨_,rfl⟩
  rw [hRES]
  have HRES:=Lib.hid hRES
  have HFo:=Lib.hid hfo2
  have HIH:=Lib.hid ih
  have n2:1+s2.1.length≤5001:=by omega
  have H3:Hid (∀ s u,RfAt B r s u→Calls Tryd.prog 58 #[.pointer (some ⟨r,0,none⟩),.string ⟨#[44]⟩] u fun e w'=>e=.returned (.bool (decide (Qy.see s=[44])))∧RfAt B r (Qy.takeS [44] s) w'∧At1 r u w'):=Lib.hid fun s u k=>rTake B r s [44] (by decide) u k
  have H4:Hid (∀ s u,RfAt B r s u→Calls Tryd.prog 34 #[.pointer (some ⟨r,0,none⟩),.string ⟨#[41]⟩] u fun e w'=>e=.returned (.tuple #[])∧At1 r u w'∧RfAt B r (Qy.needS [41] s) w'):=Lib.hid fun s u k=>rNeed B r s [41] (by decide) u k
  clear hf hL ih hp2 h2 hle1 hle2 hfo1 hfo2 hRES hfs hpos hs0
  go_enter Tryd.func87,Tryd.ntmps87
  go_wp2_with fail
  refine (H1.out _ h).mono ?_
  rintro e2 w1 ⟨rfl,k1,k3⟩
  clear h
  go_wp2_with fail
  refine (H2.out _ k3).mono ?_
  rintro e2 w2 ⟨rfl,k4,k5⟩
  have k6:=k1.trans k5
  clear k1 k3 k5
  go_wp2_with fail
  refine (HR.out _ k4).mono ?_
  rintro e2 w3 ⟨k7,⟨v,rfl,hR⟩,k8⟩
  obtain ⟨x0,x1,x2,x3,x4,x5,x6,x7,x8,rfl,one0,hR0,_⟩:=hR.open_
  have z3:w.heap.size≤w3.heap.size:=Nat.le_trans k6.size k7.size
  have kn:=below_new w3 (.cells #[x0,x1,x2,x3,x4,x5,x6,x7,x8] 42)
  have k9:=k8.on kn
  have ka:=(k6.trans k7).trans (At1.of_below kn)
  have hR1:=hR0.at1 (At1.of_below (r:=r) kn) (Nat.lt_of_lt_of_le hrw k6.size)
  have HO:=own_news (Own.new w3 42 [x0,x1,x2,x3,x4,x5,x6,x7,x8])
  obtain ⟨css,q1,q2,q4,q3⟩:=KRow.nil (T:=42) (New w) (w3.alloc (.cells #[x0,x1,x2,x3,x4,x5,x6,x7,x8] 42))
  have z26:=Nat.le_trans k7.size kn.size
  have zw2:=k6.size
  clear k4 k6 k7 k8 hR kn hR0
  obtain ⟨i0_,hi_,hz0,hz1,hz2⟩:=info_parts reg_infoF
  go_wp2_with (at_builtin;refine wpList_pushO _ rfl _ _ 40 rfl 42 i0_ (.agg #[.int .i64 0,.string ⟨#[]⟩,.int .i64 0,.int .i64 0,.int .i64 0,.int .i64 0,.int .i64 0,.int .i64 0,.slice none 0 0]) 9 96 Tryd.underlying40 hi_ hz0 hz1 hz2 rfl (by decide) 0 _ _ _ rfl q2 ⟨w3.heap.size,0,none⟩ 1 [x0,x1,x2,x3,x4,x5,x6,x7,x8] rfl rfl HO one0 ?c4 ?c5 ?c6 ?_)
  case c4=>simp [maxLen]
  case c5=>simp
  case c6=>exact Nat.zero_le _
  intro v' w4 hrow3 hgrow hv'
  have hrow4:=KRow.push q1 q4 q3 rfl hR1 (fun g hg=>Nat.le_trans zw2 hg) z26 (fun g hg=>by cases hg) hrow3 hgrow (hv'.imp id fun e=>e.trans (by simp))
  have hat3:=ka.row hgrow (fun g hg=>by cases hg)
  have hrd3:=k9.row hgrow (fun g hg=>by cases hg)
  have HF0:=Lib.hid (And.intro hrow4 (And.intro hat3 hrd3))
  clear hrow4 hat3 hrd3 hrow3 hgrow hv' q1 q2 q3 q4 hR1 zw2 z26 ka k9 HO one0 hi_ hz0 hz1 hz2
  clear i0_
  go_wp2_with fail
  go_loopw [3] (fun s wr=>∃ (f':Nat) (acc:List Qy.Reg) (s':Qy.St),f'≤f∧Qy.FOK 1 f' s'∧acc.length+s'.1.length≤5001∧KRow 42 (New w) wr s acc∧RfAt B r s' wr∧Qy.rMore f' acc s'=RES∧At1 r w wr) (fun _ wr=>aheadF r wr)
  case atStart=>exact ⟨f,[R],s2,Nat.le_refl _,HFo.out,n2,HF0.out.1,HF0.out.2.2,HRES.out,HF0.out.2.1⟩
  case round=>
   obtain ⟨f',acc,s',hf',hfl,hn,hrow,hrd,hres,hat⟩:=hrel
   obtain ⟨f',rfl⟩:∃ f'',f'=f''+1:=⟨f' - 1,by have:=hfl.1;omega⟩
   have hlen:=hrd.len
   rw [Qy.rMore] at hres
   by_cases h4:Qy.see s'=[44]
   ·have HT4:=Lib.hid fun u=>H3.out s' u
    have hadv:=Qy.adv_lt hrd.good (by rw [h4];simp) (by rw [h4];decide)
    rw [decide_eq_true h4,show Qy.takeS [44] s'=Qy.adv s' by unfold Qy.takeS;rw [if_pos h4,if_neg (by simp)]] at HT4
    rw [if_pos h4] at hres
    obtain ⟨s3,hs3⟩:∃ s3,Qy.adv s'=s3:=⟨_,rfl⟩
    rw [hs3] at HT4 hres hadv
    have hfo3:Qy.FOK 2 f' s3:=⟨by have:=hfl.2 hadv.1;have:=hadv.2.2;omega,fun _=>by have:=hfl.2 hadv.1;have:=hadv.2.2;omega⟩
    obtain ⟨p5,hp5⟩:∃ p,Qy.rReg f' s3=p:=⟨_,rfl⟩
    have HR5:Hid (∀ u,RfAt B r s3 u→Calls Tryd.prog 36 #[.pointer (some ⟨r,0,none⟩)] u (EndF B r u p5 (regV u))):=Lib.hid fun u k=>hp5▸HIH.out f' (by omega) s3 u k hfo3
    have hle5:p5.2.1.length≤s3.1.length:=by rw [← hp5];exact (Qy.lens f').reg s3
    have hfo5:Qy.FOK 1 f' p5.2:=⟨by have:=hfo3.1;omega,fun e=>by have:=hfo3.2 hadv.2.1;omega⟩
    simp only [hp5] at hres
    obtain ⟨R2,s5⟩:=p5
    simp only at hle5 hfo5 hres
    have HFo5:=Lib.hid hfo5
    have HRES3:=Lib.hid hres
    have hlt9:=hadv.2.2
    have HA:=Lib.hid hat
    have zw:=hat.size
    have qs:=hrow.own
    have HRow:=Lib.hid hrow
    clear h4 hres hat hrow hp5 hfo3 hfo5 hadv hs3 hfl
    go_wp2_with fail
    refine (HT4.out _ hrd).mono ?_
    rintro e2 w5 ⟨rfl,k4,k5⟩
    clear hrd
    go_wp2_with fail
    refine (HR5.out _ k4).mono ?_
    rintro e2 w6 ⟨k6,⟨v,rfl,hR⟩,k8⟩
    obtain ⟨y0,y1,y2,y3,y4,y5,y6,y7,y8,rfl,one9,hR9,_⟩:=hR.open_
    have kn:=below_new w6 (.cells #[y0,y1,y2,y3,y4,y5,y6,y7,y8] 42)
    have hat2:=((HA.out.trans k5).trans k6).trans (At1.of_below kn)
    have hrow1:=HRow.out.at1 ((k5.trans k6).trans (At1.of_below kn)) (by unfold New;omega)
    have hR1:=hR9.at1 (At1.of_below (r:=r) kn) (Nat.lt_of_lt_of_le hrw (Nat.le_trans zw k5.size))
    have hrd2:=k8.on kn
    have HO:=own_news (Own.new w6 42 [y0,y1,y2,y3,y4,y5,y6,y7,y8])
    obtain ⟨css,q1,q2,q4,q3⟩:=hrow1
    have hvi:∀ g,u3.ownBlock=some g→g<w5.heap.size:=fun g hg=>Nat.lt_of_lt_of_le (qs g hg).2 k5.size
    have hv0:∀ g,u3.ownBlock=some g→w.heap.size≤g:=fun g hg=>(qs g hg).1
    have zw5:=Nat.le_trans zw k5.size
    have z56:=Nat.le_trans k6.size kn.size
    clear k4 k5 k6 k8 hR hR9 kn qs zw
    obtain ⟨i0_,hi_,hz0,hz1,hz2⟩:=info_parts reg_infoF
    have hn1:acc.length+1≤5001:=by omega
    go_wp2_with (at_builtin;refine wpList_pushO _ rfl _ _ 40 rfl 42 i0_ (.agg #[.int .i64 0,.string ⟨#[]⟩,.int .i64 0,.int .i64 0,.int .i64 0,.int .i64 0,.int .i64 0,.int .i64 0,.slice none 0 0]) 9 96 Tryd.underlying40 hi_ hz0 hz1 hz2 rfl (by decide) 0 _ _ _ rfl q2 ⟨w6.heap.size,0,none⟩ 1 [y0,y1,y2,y3,y4,y5,y6,y7,y8] rfl rfl HO one9 ?c4 ?c5 ?c6 ?_)
    case c4=>unfold maxLen;omega
    case c5=>omega
    case c6=>exact Nat.zero_le _
    intro v' w7 hrow3 hgrow hv'
    have hrow4:=KRow.push q1 q4 q3 rfl hR1 (fun g hg=>Nat.le_trans zw5 hg) z56 hvi hrow3 hgrow (hv'.imp id fun e=>e.trans (by simp))
    have hat3:=hat2.row hgrow hv0
    have hrd3:=hrd2.row hgrow (fun g hg=>Nat.le_trans hBw (hv0 g hg))
    have HF:=Lib.hid (And.intro hrow4 (And.intro hat3 hrd3))
    clear hrow4 hat3 hrd3 hrow3 hgrow hv' q1 q2 q3 q4 hR1 zw5 z56 hvi hv0 hat2 hrd2 HO one9 hi_ hz0 hz1 hz2
    clear i0_
    go_wp2_with fail
    go_roundw
    case rel=>exact ⟨f',acc++[R2],s5,by omega,HFo5.out,by simp;omega,HF.out.1,HF.out.2.2,HRES3.out,HF.out.2.1⟩
    case measure=>have:=HF.out.2.2.len;omega
   ·have HT4:=Lib.hid fun u=>H3.out s' u
    rw [decide_eq_false h4,show Qy.takeS [44] s'=s' by unfold Qy.takeS;rw [if_neg h4]] at HT4
    rw [if_neg h4] at hres
    have HN4:=Lib.hid fun u=>H4.out s' u
    have HA:=Lib.hid hat
    subst hres
    have HRow:=Lib.hid (hrow.listV (w0:=w) fun _ h=>h)
    have HSz:=Lib.hid (Nat.lt_of_lt_of_le hrw hat.size)
    clear h4 hn hfl hf' hrow hat hlen HF0
    go_wp2_with fail
    refine (HT4.out _ hrd).mono ?_
    rintro e2 w5 ⟨rfl,k4,k5⟩
    have HK5:=Lib.hid k5
    clear hrd k5
    go_wp2_with fail
    refine (HN4.out _ k4).mono ?_
    rintro e2 w6 ⟨rfl,k6,k7⟩
    have HF:=Lib.hid (And.intro ((HA.out.trans HK5.out).trans k6) (And.intro k7 (HRow.out.at1 (HK5.out.trans k6) hrw)))
    clear k4 k6 k7
    go_wp2
    go_returns
    exact ⟨HF.out.1,⟨_,rfl,HF.out.2.2⟩,HF.out.2.1⟩
end Go.Proofs.YtmlpibdincfgbaaDoor
/-
 (second part)
-/
namespace Qy
end Qy
namespace Go.Proofs.YtmlpibdincfgbaaDoor
open Go.RowKit
set_option linter.unusedSimpArgs false
set_option linter.unusedVariables false
end Go.Proofs.YtmlpibdincfgbaaDoor
