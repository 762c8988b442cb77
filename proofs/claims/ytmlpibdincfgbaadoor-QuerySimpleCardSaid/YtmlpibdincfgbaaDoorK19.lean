/-
  Package query: the iterator over tokens.
-/
import Derived.RangeFuncFrom
import Derived.RangeFuncNested
import Derived.RangeFuncBound
import Derived.RangeFuncCalls
import Derived.RangeFuncLeaves
import Derived.RangeFuncBox
import Derived.Shelf.Abstract
import Derived.Shelf.RegionOpen
import Derived.WalkKit
import Derived.OwnWalkIn
import Derived.TacticsInMore
import Derived.LoopNIn
import Derived.LoopIn
import Derived.Maps.AppendAt
import Derived.Test.YtmlpibdincfgbaaDoorK7
namespace Go.Proofs.YtmlpibdincfgbaaDoor
open Go.RowKit Go.Shelf
attribute [local go_sem] Oper.semAt_some
def Kb (b:Nat) (W W':World):Prop:=W'.heap[b]? = W.heap[b]?
theorem Kb.trans {b:Nat} {A B C:World} (h:Kb b A B) (k:Kb b B C):Kb b A C:=Eq.trans k h
theorem Kb.cell {b:Nat} {A B:World} (h:Kb b A B) {o:Nat}:B.cell? ⟨b,o,none⟩=A.cell? ⟨b,o,none⟩:=World.cell?_of_block (a:=⟨b,o,none⟩) h
def encT (t:Qy.Tok):Array Value:=#[.agg #[.string (bs t.text),.int .i64 (t.at_:Int)]]
theorem bs_extract (s:Qy.Bs) (i j:Nat):(bs s).extract i j=bs ((s.take j).drop i):=by
 have:(bs s).extract i j=⟨(s.toArray).extract i j⟩:=by
  unfold bs
  exact ByteArray.ext (by simp)
 rw [this]
 unfold bs
 congr 1
 apply Array.ext'
 simp [List.drop_take]
theorem more_never (d:UInt8) (w:World):Calls Tryd.prog 48 #[.int .u8 (d.toNat:Int)] w fun e w'=>e=.returned (.bool false)∧w'=w:=by
 go_enter Tryd.func48,Tryd.ntmps48
 go_wp2
 go_returns
 exact ⟨rfl,rfl⟩
theorem toks_space (s:Qy.Bs) (i:Nat):Qy.toks (32 :: s) i=Qy.toks s (i+1):=by rw [Qy.toks,if_pos rfl]
theorem toks_word (c:UInt8) (s:Qy.Bs) (i k:Nat) (h:c≠32) (hk:(s.takeWhile (Qy.more c)).length=k):Qy.toks (c :: s) i=⟨c :: s.take k,i⟩ :: Qy.toks (s.drop k) (i+1+k):=by
 have e:s.takeWhile (Qy.more c)=s.take k:=by
  have:=List.takeWhile_append_dropWhile (p:=Qy.more c) (l:=s)
  conv=>rhs;rw [← this,← hk]
  rw [List.take_left]
 have e2:s.dropWhile (Qy.more c)=s.drop k:=by
  have:=List.takeWhile_append_dropWhile (p:=Qy.more c) (l:=s)
  conv=>rhs;rw [← this,← hk]
  rw [List.drop_left]
 rw [Qy.toks,if_neg h,hk,e,e2]
theorem tw_more {p:UInt8→Bool}:∀ {s:Qy.Bs} {k:Nat} {d:UInt8},s[k]? = some d→k≤(s.takeWhile p).length→p d=true→k+1≤(s.takeWhile p).length
 | [],k,d,h,_,_=>by simp at h
 | x :: s,0,d,h,_,hp=>by
  simp only [List.getElem?_cons_zero,Option.some.injEq] at h
  subst h
  rw [List.takeWhile_cons,if_pos hp]
  simp
 | x :: s,k+1,d,h,hk,hp=>by
  rw [List.takeWhile_cons] at hk ⊢
  split at hk
  ·rename_i hx
   rw [if_pos hx]
   simp only [List.length_cons] at hk ⊢
   have:=tw_more (s:=s) (k:=k) (by simpa using h) (by omega) hp
   omega
  ·simp at hk
theorem tw_stop {p:UInt8→Bool}:∀ {s:Qy.Bs} {k:Nat} {d:UInt8},s[k]? = some d→k≤(s.takeWhile p).length→p d=false→(s.takeWhile p).length=k
 | [],k,d,h,_,_=>by simp at h
 | x :: s,0,d,h,_,hp=>by
  simp only [List.getElem?_cons_zero,Option.some.injEq] at h
  subst h
  rw [List.takeWhile_cons,if_neg (by simp [hp])]
  rfl
 | x :: s,k+1,d,h,hk,hp=>by
  rw [List.takeWhile_cons] at hk ⊢
  split at hk
  ·rename_i hx
   rw [if_pos hx]
   simp only [List.length_cons] at hk ⊢
   have:=tw_stop (s:=s) (k:=k) (by simpa using h) (by omega) hp
   omega
  ·simp at hk
theorem tw_le {p:UInt8→Bool} (s:Qy.Bs):(s.takeWhile p).length≤s.length:=by
 have:=congrArg List.length (List.takeWhile_append_dropWhile (p:=p) (l:=s))
 rw [List.length_append] at this
 omega
theorem bs_int {s:Qy.Bs} {i:Nat} {c:UInt8} (h:s[i]? = some c):∀ hi:i<(bs s).size,(bs s)[i]'hi=c:=fun hi=>by
 have h2:i<s.length:=(List.getElem?_eq_some_iff.1 h).1
 exact (List.getElem?_eq_some_iff.1 h).2
set_option maxRecDepth 100000 in
set_option maxHeartbeats 3200000 in
theorem tokens1_in (n:Nat) (hn:1≤n) (y Bs:Nat) (s:Qy.Bs) (hs:s.length≤5000) (J Jx:List Qy.Tok→World→Prop)
 (hY:∀ pre x W,J pre W→pre.length<(Qy.toks s 0).length→YieldAt Fence.wide (n - 1) Tryd.prog y (encT x) W fun e W'=>
  (e=.returned (.bool true)∧J (pre++[x]) W'∧Kb Bs W W')∨(e=.returned (.bool false)∧Jx (pre++[x]) W'))
 (W:World) (hBs:W.cell? ⟨Bs,0,none⟩=some (.string (bs s))) (h0:J [] W) :
 CallsIn Fence.wide n Tryd.prog 47 #[.func (.yield y) #[] #[],.pointer (some ⟨Bs,0,none⟩)] W fun e W'=>(∃ v,e=.returned v)∧
  ((∃ ys,ys=Qy.toks s 0∧J ys W')∨(∃ pre,pre <+: Qy.toks s 0∧Jx pre W')):=by
 have HS:=Lib.hid hs
 obtain ⟨T,hT⟩:∃ T,Qy.toks s 0=T:=⟨_,rfl⟩
 rw [hT] at hY ⊢
 have hsz:=bs_size s
 obtain ⟨sd,hsd⟩:∃ sd,bs s=sd:=⟨_,rfl⟩
 have HSd:=Lib.hid hsd
 rw [hsd] at hsz hBs
 obtain ⟨L,hL⟩:∃ L,s.length=L:=⟨_,rfl⟩
 have HL:=Lib.hid hL
 rw [hL] at hsz hs
 have HT:=Lib.hid hT
 clear hsd hL hT
 refine callsIn_of_wp Tryd.func47 rfl trivial ?_ rfl
 simp only [Tryd.ntmps47,List.size_toArray,List.length_cons,List.length_nil,Nat.reduceAdd,Nat.reduceSub,Array.replicate_succ,Array.replicate_zero,List.push_toArray,List.append_toArray,List.nil_append,List.cons_append]
 gi_wp2
 gi_loopw [3] (fun i wr=>∃ (k:Nat) (pre:List Qy.Tok),k≤L∧i=.int .i64 (k:Int)∧pre++Qy.toks (s.drop k) k=T∧J pre wr∧Kb Bs W wr)
  (fun i _=>L - (intOf i).toNat)
 case atStart=>exact ⟨0,[],Nat.zero_le _,rfl,HT.out,h0,rfl⟩
 case round=>
  obtain ⟨k,pre,hk,rfl,hpre,hJs,hkb⟩:=hrel
  have hbs:=hkb.cell.trans hBs
  rcases Nat.lt_or_eq_of_le hk with hlt | heq
  ·have i0:(0:Int)≤(k:Int):=by omega
   have i1:(k:Int)<(L:Int):=by omega
   obtain ⟨c,hc⟩:∃ c,s[k]? = some c:=⟨_,List.getElem?_eq_getElem (by have:=HL.out;omega)⟩
   have hx:∀ hi:k<sd.size,sd[k]'hi=c:=by rw [← HSd.out];exact bs_int hc
   have hdr:s.drop k=c :: s.drop (k+1):=by
    rw [List.drop_eq_getElem_cons (by have:=HL.out;omega)]
    congr 1
    exact (List.getElem?_eq_some_iff.1 hc).2
   rw [hdr] at hpre
   have HDR:=Lib.hid hdr
   clear hdr hc
   by_cases hsp:c=32
   ·subst hsp
    rw [toks_space] at hpre
    have HP:=Lib.hid hpre
    have hx2:∀ hi:k<sd.size,(sd[k]'hi).toNat=32:=fun hi=>by rw [hx hi];rfl
    clear hpre hx
    gi_wp2
    go_roundw
    case rel=>exact ⟨k+1,pre,by omega,by go_num,HP.out,hJs,hkb⟩
    case measure=>simp [intOf];omega
   ·have hsp2:¬ c.toNat=32:=fun e=>hsp (UInt8.toNat.inj e)
    have hsp3:¬ (c.toNat:Int)=32:=by omega
    obtain ⟨K,hK⟩:∃ K,((s.drop (k+1)).takeWhile (Qy.more c)).length=K:=⟨_,rfl⟩
    have hKL:k+1+K≤L:=by
     have h1:=tw_le (p:=Qy.more c) (s.drop (k+1))
     rw [hK,List.length_drop] at h1
     have:=HL.out
     omega
    rw [toks_word c _ k K hsp hK,List.drop_drop] at hpre
    have HK:=Lib.hid hK
    have HX:=Lib.hid (show bs (c :: (s.drop (k+1)).take K)=sd.extract k (k+1+K) from by
     rw [← HSd.out,bs_extract,List.drop_take,HDR.out,show k+1+K - k=K+1 by omega,List.take_succ_cons])
    have HP:=Lib.hid hpre
    have hpl:pre.length<T.length:=by rw [← hpre];simp
    obtain ⟨fn,tmps,assign,body,hy,hR⟩:=hY pre ⟨c :: (s.drop (k+1)).take K,k⟩ wr hJs hpl
    unfold encT at hy
    simp only at hy
    rw [HX.out] at hy
    have HRd:=Lib.hid hR
    have HJ:=Lib.hid (And.intro hJs hkb)
    clear hpre hK hR hJs hkb hpl
    obtain ⟨wo,e_⟩:∃ wo:World,wo=wr:=⟨_,rfl⟩
    subst e_
    have HLt:=Lib.hid fun u=>letter_any c u
    have HDg:=Lib.hid fun u=>digit_any c u
    by_cases hL:Qy.isL c=true
    ·rw [hL] at HLt
     have hmo:Qy.more c=Qy.isW:=by unfold Qy.more;rw [if_pos hL]
     have HMo:=Lib.hid hmo
     clear hmo hL
     gi_wp2_with (refine ⟨trivial,?_⟩;gi_at_call 49;refine (callsIn_wide.2 (HLt.out _)).mono ?_;rintro e w' ⟨rfl,e_⟩;obtain rfl:=e_.symm)
     gi_loopw [6] (fun s6 wi=>∃ m:Nat,m≤K∧s6=.int .i64 ((k+1+m:Nat):Int)∧wi=wo) (fun s6 _=>k+1+K - (intOf s6).toNat)
     case atStart=>exact ⟨0,Nat.zero_le _,by go_num,rfl⟩
     case round=>
      obtain ⟨m,hm,rfl,rfl⟩:=hrel
      by_cases he:k+1+m<L
      ·
       have e0:(0:Int)≤((k+1+m:Nat):Int):=by omega
       have e1:((k+1+m:Nat):Int)<(L:Int):=by omega
       obtain ⟨d,hd⟩:∃ d,s[k+1+m]? = some d:=⟨_,List.getElem?_eq_getElem (by have:=HL.out;omega)⟩
       have hxd:∀ hi:k+1+m<sd.size,sd[k+1+m]'hi=d:=by rw [← HSd.out];exact bs_int hd
       have hd2:(s.drop (k+1))[m]? = some d:=by rw [List.getElem?_drop];exact hd
       have HD2:=Lib.hid hd2
       clear hd hd2
       have HW:=Lib.hid fun u=>inWord_any d u
       by_cases hw:Qy.isW d=true
       ·
        have hm1:=tw_more (p:=Qy.more c) HD2.out (by rw [HK.out];exact hm) (by rw [HMo.out];exact hw)
        rw [HK.out] at hm1
        rw [hw] at HW
        clear hw
        gi_wp2_with (refine ⟨trivial,?_⟩;gi_at_call 50;refine (callsIn_wide.2 (HW.out _)).mono ?_;rintro e w' ⟨rfl,e_⟩;obtain rfl:=e_.symm)
        go_roundw
        case rel=>exact ⟨m+1,hm1,by go_num,by first | rfl | trivial⟩
        case measure=>simp [intOf];omega
       ·
        have hwf:Qy.isW d=false:=by simpa using hw
        have hst:=tw_stop (p:=Qy.more c) HD2.out (by rw [HK.out];exact hm) (by rw [HMo.out];exact hwf)
        obtain rfl:K=m:=by rw [← HK.out,hst]
        rw [hwf] at HW
        clear hst hwf hw
        gi_wp2_with (refine ⟨trivial,?_⟩;gi_at_call 50;refine (callsIn_wide.2 (HW.out _)).mono ?_;rintro e w' ⟨rfl,e_⟩;obtain rfl:=e_.symm)
        refine HRd.out.mono ?_
        rintro e W3 (⟨rfl,hJ3,hk3⟩ | ⟨rfl,hJx3⟩)
        ·
         have HJ3:=Lib.hid (And.intro hJ3 (HJ.out.2.trans hk3))
         clear hJ3 hk3
         gi_wp2
         go_roundw
         case rel=>exact ⟨k+1+K,pre++[⟨c :: (s.drop (k+1)).take K,k⟩],hKL,by go_num,by rw [List.append_assoc];exact HP.out,HJ3.out.1,HJ3.out.2⟩
         case measure=>simp [intOf];omega
        ·
         have HJ3:=Lib.hid hJx3
         clear hJx3
         gi_wp2
         refine bodyPost_ret (results_none rfl _ _ _) rfl ?_
         exact ⟨⟨_,rfl⟩,.inr ⟨_,⟨Qy.toks (s.drop (k+1+K)) (k+1+K),by rw [List.append_assoc];exact HP.out⟩,HJ3.out⟩⟩
      ·
       obtain rfl:K=m:=by omega
       gi_wp2
       refine ⟨fun _ h=>(by cases h),?_⟩
       gi_wp2
       refine HRd.out.mono ?_
       rintro e W3 (⟨rfl,hJ3,hk3⟩ | ⟨rfl,hJx3⟩)
       ·
        have HJ3:=Lib.hid (And.intro hJ3 (HJ.out.2.trans hk3))
        clear hJ3 hk3
        gi_wp2
        go_roundw
        case rel=>exact ⟨k+1+K,pre++[⟨c :: (s.drop (k+1)).take K,k⟩],hKL,by go_num,by rw [List.append_assoc];exact HP.out,HJ3.out.1,HJ3.out.2⟩
        case measure=>simp [intOf];omega
       ·
        have HJ3:=Lib.hid hJx3
        clear hJx3
        gi_wp2
        refine bodyPost_ret (results_none rfl _ _ _) rfl ?_
        exact ⟨⟨_,rfl⟩,.inr ⟨_,⟨Qy.toks (s.drop (k+1+K)) (k+1+K),by rw [List.append_assoc];exact HP.out⟩,HJ3.out⟩⟩
    ·have hLf:Qy.isL c=false:=by simpa using hL
     rw [hLf] at HLt
     by_cases hD:Qy.isD c=true
     ·rw [hD] at HDg
      have hmo:Qy.more c=Qy.isD:=by unfold Qy.more;rw [if_neg hL,if_pos (by rw [hD];rfl)]
      have HMo:=Lib.hid hmo
      clear hmo hL hLf hD
      gi_wp2_with (first | (refine ⟨trivial,?_⟩;gi_at_call 49;refine (callsIn_wide.2 (HLt.out _)).mono ?_;rintro e w' ⟨rfl,e_⟩;obtain rfl:=e_.symm) | (refine ⟨trivial,?_⟩;gi_at_call 51;refine (callsIn_wide.2 (HDg.out _)).mono ?_;rintro e w' ⟨rfl,e_⟩;obtain rfl:=e_.symm))
      gi_loopw [6] (fun s6 wi=>∃ m:Nat,m≤K∧s6=.int .i64 ((k+1+m:Nat):Int)∧wi=wo) (fun s6 _=>k+1+K - (intOf s6).toNat)
      case atStart=>exact ⟨0,Nat.zero_le _,by go_num,rfl⟩
      case round=>
       obtain ⟨m,hm,rfl,rfl⟩:=hrel
       by_cases he:k+1+m<L
       ·
        have e0:(0:Int)≤((k+1+m:Nat):Int):=by omega
        have e1:((k+1+m:Nat):Int)<(L:Int):=by omega
        obtain ⟨d,hd⟩:∃ d,s[k+1+m]? = some d:=⟨_,List.getElem?_eq_getElem (by have:=HL.out;omega)⟩
        have hxd:∀ hi:k+1+m<sd.size,sd[k+1+m]'hi=d:=by rw [← HSd.out];exact bs_int hd
        have hd2:(s.drop (k+1))[m]? = some d:=by rw [List.getElem?_drop];exact hd
        have HD2:=Lib.hid hd2
        clear hd hd2
        have HW:=Lib.hid fun u=>digit_any d u
        by_cases hw:Qy.isD d=true
        ·
         have hm1:=tw_more (p:=Qy.more c) HD2.out (by rw [HK.out];exact hm) (by rw [HMo.out];exact hw)
         rw [HK.out] at hm1
         rw [hw] at HW
         clear hw
         gi_wp2_with (refine ⟨trivial,?_⟩;gi_at_call 51;refine (callsIn_wide.2 (HW.out _)).mono ?_;rintro e w' ⟨rfl,e_⟩;obtain rfl:=e_.symm)
         go_roundw
         case rel=>exact ⟨m+1,hm1,by go_num,by first | rfl | trivial⟩
         case measure=>simp [intOf];omega
        ·
         have hwf:Qy.isD d=false:=by simpa using hw
         have hst:=tw_stop (p:=Qy.more c) HD2.out (by rw [HK.out];exact hm) (by rw [HMo.out];exact hwf)
         obtain rfl:K=m:=by rw [← HK.out,hst]
         rw [hwf] at HW
         clear hst hwf hw
         gi_wp2_with (refine ⟨trivial,?_⟩;gi_at_call 51;refine (callsIn_wide.2 (HW.out _)).mono ?_;rintro e w' ⟨rfl,e_⟩;obtain rfl:=e_.symm)
         refine HRd.out.mono ?_
         rintro e W3 (⟨rfl,hJ3,hk3⟩ | ⟨rfl,hJx3⟩)
         ·
          have HJ3:=Lib.hid (And.intro hJ3 (HJ.out.2.trans hk3))
          clear hJ3 hk3
          gi_wp2
          go_roundw
          case rel=>exact ⟨k+1+K,pre++[⟨c :: (s.drop (k+1)).take K,k⟩],hKL,by go_num,by rw [List.append_assoc];exact HP.out,HJ3.out.1,HJ3.out.2⟩
          case measure=>simp [intOf];omega
         ·
          have HJ3:=Lib.hid hJx3
          clear hJx3
          gi_wp2
          refine bodyPost_ret (results_none rfl _ _ _) rfl ?_
          exact ⟨⟨_,rfl⟩,.inr ⟨_,⟨Qy.toks (s.drop (k+1+K)) (k+1+K),by rw [List.append_assoc];exact HP.out⟩,HJ3.out⟩⟩
       ·
        obtain rfl:K=m:=by omega
        gi_wp2
        refine ⟨fun _ h=>(by cases h),?_⟩
        gi_wp2
        refine HRd.out.mono ?_
        rintro e W3 (⟨rfl,hJ3,hk3⟩ | ⟨rfl,hJx3⟩)
        ·
         have HJ3:=Lib.hid (And.intro hJ3 (HJ.out.2.trans hk3))
         clear hJ3 hk3
         gi_wp2
         go_roundw
         case rel=>exact ⟨k+1+K,pre++[⟨c :: (s.drop (k+1)).take K,k⟩],hKL,by go_num,by rw [List.append_assoc];exact HP.out,HJ3.out.1,HJ3.out.2⟩
         case measure=>simp [intOf];omega
        ·
         have HJ3:=Lib.hid hJx3
         clear hJx3
         gi_wp2
         refine bodyPost_ret (results_none rfl _ _ _) rfl ?_
         exact ⟨⟨_,rfl⟩,.inr ⟨_,⟨Qy.toks (s.drop (k+1+K)) (k+1+K),by rw [List.append_assoc];exact HP.out⟩,HJ3.out⟩⟩
     ·have hDf:Qy.isD c=false:=by simpa using hD
      rw [hDf] at HDg
      by_cases h45:c=45
      ·subst h45
       have hmo:Qy.more 45=Qy.isD:=by unfold Qy.more;rw [if_neg hL,if_pos (by decide)]
       have HMo:=Lib.hid hmo
       have HLt2:Hid (∀ u,Calls Tryd.prog 49 #[.int .u8 45] u fun e w'=>e=.returned (.bool false)∧w'=u):=HLt
       have HDg2:Hid (∀ u,Calls Tryd.prog 51 #[.int .u8 45] u fun e w'=>e=.returned (.bool false)∧w'=u):=HDg
       have hx45:∀ hi:k<sd.size,(sd[k]'hi).toNat=45:=fun hi=>by rw [hx hi];rfl
       clear hmo hL hLf hD hDf hx hsp hsp2 hsp3
       gi_wp2_with (first | (refine ⟨trivial,?_⟩;gi_at_call 49;refine (callsIn_wide.2 (HLt2.out _)).mono ?_;rintro e w' ⟨rfl,e_⟩;obtain rfl:=e_.symm) | (refine ⟨trivial,?_⟩;gi_at_call 51;refine (callsIn_wide.2 (HDg2.out _)).mono ?_;rintro e w' ⟨rfl,e_⟩;obtain rfl:=e_.symm))
       gi_loopw [6] (fun s6 wi=>∃ m:Nat,m≤K∧s6=.int .i64 ((k+1+m:Nat):Int)∧wi=wo) (fun s6 _=>k+1+K - (intOf s6).toNat)
       case atStart=>exact ⟨0,Nat.zero_le _,by go_num,rfl⟩
       case round=>
        obtain ⟨m,hm,rfl,rfl⟩:=hrel
        by_cases he:k+1+m<L
        ·
         have e0:(0:Int)≤((k+1+m:Nat):Int):=by omega
         have e1:((k+1+m:Nat):Int)<(L:Int):=by omega
         obtain ⟨d,hd⟩:∃ d,s[k+1+m]? = some d:=⟨_,List.getElem?_eq_getElem (by have:=HL.out;omega)⟩
         have hxd:∀ hi:k+1+m<sd.size,sd[k+1+m]'hi=d:=by rw [← HSd.out];exact bs_int hd
         have hd2:(s.drop (k+1))[m]? = some d:=by rw [List.getElem?_drop];exact hd
         have HD2:=Lib.hid hd2
         clear hd hd2
         have HW:=Lib.hid fun u=>digit_any d u
         by_cases hw:Qy.isD d=true
         ·
          have hm1:=tw_more (p:=Qy.more 45) HD2.out (by rw [HK.out];exact hm) (by rw [HMo.out];exact hw)
          rw [HK.out] at hm1
          rw [hw] at HW
          clear hw
          gi_wp2_with (refine ⟨trivial,?_⟩;gi_at_call 51;refine (callsIn_wide.2 (HW.out _)).mono ?_;rintro e w' ⟨rfl,e_⟩;obtain rfl:=e_.symm)
          go_roundw
          case rel=>exact ⟨m+1,hm1,by go_num,by first | rfl | trivial⟩
          case measure=>simp [intOf];omega
         ·
          have hwf:Qy.isD d=false:=by simpa using hw
          have hst:=tw_stop (p:=Qy.more 45) HD2.out (by rw [HK.out];exact hm) (by rw [HMo.out];exact hwf)
          obtain rfl:K=m:=by rw [← HK.out,hst]
          rw [hwf] at HW
          clear hst hwf hw
          gi_wp2_with (refine ⟨trivial,?_⟩;gi_at_call 51;refine (callsIn_wide.2 (HW.out _)).mono ?_;rintro e w' ⟨rfl,e_⟩;obtain rfl:=e_.symm)
          refine HRd.out.mono ?_
          rintro e W3 (⟨rfl,hJ3,hk3⟩ | ⟨rfl,hJx3⟩)
          ·
           have HJ3:=Lib.hid (And.intro hJ3 (HJ.out.2.trans hk3))
           clear hJ3 hk3
           gi_wp2
           go_roundw
           case rel=>exact ⟨k+1+K,pre++[⟨45 :: (s.drop (k+1)).take K,k⟩],hKL,by go_num,by rw [List.append_assoc];exact HP.out,HJ3.out.1,HJ3.out.2⟩
           case measure=>simp [intOf];omega
          ·
           have HJ3:=Lib.hid hJx3
           clear hJx3
           gi_wp2
           refine bodyPost_ret (results_none rfl _ _ _) rfl ?_
           exact ⟨⟨_,rfl⟩,.inr ⟨_,⟨Qy.toks (s.drop (k+1+K)) (k+1+K),by rw [List.append_assoc];exact HP.out⟩,HJ3.out⟩⟩
        ·
         obtain rfl:K=m:=by omega
         gi_wp2
         refine ⟨fun _ h=>(by cases h),?_⟩
         gi_wp2
         refine HRd.out.mono ?_
         rintro e W3 (⟨rfl,hJ3,hk3⟩ | ⟨rfl,hJx3⟩)
         ·
          have HJ3:=Lib.hid (And.intro hJ3 (HJ.out.2.trans hk3))
          clear hJ3 hk3
          gi_wp2
          go_roundw
          case rel=>exact ⟨k+1+K,pre++[⟨45 :: (s.drop (k+1)).take K,k⟩],hKL,by go_num,by rw [List.append_assoc];exact HP.out,HJ3.out.1,HJ3.out.2⟩
          case measure=>simp [intOf];omega
         ·
          have HJ3:=Lib.hid hJx3
          clear hJx3
          gi_wp2
          refine bodyPost_ret (results_none rfl _ _ _) rfl ?_
          exact ⟨⟨_,rfl⟩,.inr ⟨_,⟨Qy.toks (s.drop (k+1+K)) (k+1+K),by rw [List.append_assoc];exact HP.out⟩,HJ3.out⟩⟩
      ·have hmo:Qy.more c=fun _=>false:=by unfold Qy.more;rw [if_neg hL,if_neg (by rw [hDf];simpa using h45)]
       have HMo:=Lib.hid hmo
       have h452:¬ c.toNat=45:=fun e=>h45 (UInt8.toNat.inj e)
       have h453:¬ (c.toNat:Int)=45:=by omega
       clear hmo hL hLf hD hDf
       gi_wp2_with (first | (refine ⟨trivial,?_⟩;gi_at_call 49;refine (callsIn_wide.2 (HLt.out _)).mono ?_;rintro e w' ⟨rfl,e_⟩;obtain rfl:=e_.symm) | (refine ⟨trivial,?_⟩;gi_at_call 51;refine (callsIn_wide.2 (HDg.out _)).mono ?_;rintro e w' ⟨rfl,e_⟩;obtain rfl:=e_.symm))
       gi_loopw [6] (fun s6 wi=>∃ m:Nat,m≤K∧s6=.int .i64 ((k+1+m:Nat):Int)∧wi=wo) (fun s6 _=>k+1+K - (intOf s6).toNat)
       case atStart=>exact ⟨0,Nat.zero_le _,by go_num,rfl⟩
       case round=>
        obtain ⟨m,hm,rfl,rfl⟩:=hrel
        by_cases he:k+1+m<L
        ·
         have e0:(0:Int)≤((k+1+m:Nat):Int):=by omega
         have e1:((k+1+m:Nat):Int)<(L:Int):=by omega
         obtain ⟨d,hd⟩:∃ d,s[k+1+m]? = some d:=⟨_,List.getElem?_eq_getElem (by have:=HL.out;omega)⟩
         have hxd:∀ hi:k+1+m<sd.size,sd[k+1+m]'hi=d:=by rw [← HSd.out];exact bs_int hd
         have hd2:(s.drop (k+1))[m]? = some d:=by rw [List.getElem?_drop];exact hd
         have HD2:=Lib.hid hd2
         clear hd hd2
         have HW:=Lib.hid fun u=>more_never d u
         have hst:=tw_stop (p:=Qy.more c) HD2.out (by rw [HK.out];exact hm) (by rw [HMo.out])
         obtain rfl:K=m:=by rw [← HK.out,hst]
         clear hst
         gi_wp2_with (refine ⟨trivial,?_⟩;gi_at_call 48;refine (callsIn_wide.2 (HW.out _)).mono ?_;rintro e w' ⟨rfl,e_⟩;obtain rfl:=e_.symm)
         refine HRd.out.mono ?_
         rintro e W3 (⟨rfl,hJ3,hk3⟩ | ⟨rfl,hJx3⟩)
         ·
          have HJ3:=Lib.hid (And.intro hJ3 (HJ.out.2.trans hk3))
          clear hJ3 hk3
          gi_wp2
          go_roundw
          case rel=>exact ⟨k+1+K,pre++[⟨c :: (s.drop (k+1)).take K,k⟩],hKL,by go_num,by rw [List.append_assoc];exact HP.out,HJ3.out.1,HJ3.out.2⟩
          case measure=>simp [intOf];omega
         ·
          have HJ3:=Lib.hid hJx3
          clear hJx3
          gi_wp2
          refine bodyPost_ret (results_none rfl _ _ _) rfl ?_
          exact ⟨⟨_,rfl⟩,.inr ⟨_,⟨Qy.toks (s.drop (k+1+K)) (k+1+K),by rw [List.append_assoc];exact HP.out⟩,HJ3.out⟩⟩
        ·
         obtain rfl:K=m:=by omega
         gi_wp2
         refine ⟨fun _ h=>(by cases h),?_⟩
         gi_wp2
         refine HRd.out.mono ?_
         rintro e W3 (⟨rfl,hJ3,hk3⟩ | ⟨rfl,hJx3⟩)
         ·
          have HJ3:=Lib.hid (And.intro hJ3 (HJ.out.2.trans hk3))
          clear hJ3 hk3
          gi_wp2
          go_roundw
          case rel=>exact ⟨k+1+K,pre++[⟨c :: (s.drop (k+1)).take K,k⟩],hKL,by go_num,by rw [List.append_assoc];exact HP.out,HJ3.out.1,HJ3.out.2⟩
          case measure=>simp [intOf];omega
         ·
          have HJ3:=Lib.hid hJx3
          clear hJx3
          gi_wp2
          refine bodyPost_ret (results_none rfl _ _ _) rfl ?_
          exact ⟨⟨_,rfl⟩,.inr ⟨_,⟨Qy.toks (s.drop (k+1+K)) (k+1+K),by rw [List.append_assoc];exact HP.out⟩,HJ3.out⟩⟩
  ·subst heq
   have hnil:s.drop k=[]:=List.drop_of_length_le (by have:=HL.out;omega)
   rw [hnil,Qy.toks] at hpre
   have HP:=Lib.hid hpre
   have hpl:pre.length<T.length:=by rw [← hpre];simp
   obtain ⟨fn,tmps,assign,body,hy,hR⟩:=hY pre ⟨[],k⟩ wr hJs hpl
   unfold encT at hy
   simp only at hy
   have hy2:(Instr.yield y #[.agg #[.string ⟨#[]⟩,.int .i64 (k:Int)]]).run Tryd.prog wr=.ok (.round y fn tmps assign body) wr:=hy
   have HRd:=Lib.hid hR
   clear hnil hpre hR hJs hkb hpl hy
   gi_wp2
   refine HRd.out.mono ?_
   rintro e W3 (⟨rfl,hJ3,hk3⟩ | ⟨rfl,hJx3⟩)
   ·have HJ3:=Lib.hid hJ3
    clear hJ3 hk3
    gi_wp2
    go_end0
    exact ⟨⟨_,rfl⟩,.inl ⟨_,HP.out,HJ3.out⟩⟩
   ·have HJ3:=Lib.hid hJx3
    clear hJx3
    gi_wp2
    go_end0
    exact ⟨⟨_,rfl⟩,.inr ⟨_,⟨[],by rw [List.append_nil];exact HP.out⟩,HJ3.out⟩⟩
set_option maxRecDepth 100000 in
theorem tokens_in (n:Nat) (s:Qy.Bs) (w:World):CallsIn Fence.wide n Tryd.prog 30 #[.string (bs s)] w fun e w'=>e=.returned (.func (.func 47) #[] #[.pointer (some ⟨w.heap.size,0,none⟩)])∧w'=w.alloc (.cells #[.string (bs s)] 9):=by
 refine callsIn_of_wp Tryd.func30 rfl trivial ?_ rfl
 simp only [Tryd.ntmps30,List.size_toArray,List.length_cons,List.length_nil,Nat.reduceAdd,Nat.reduceSub,Array.replicate_succ,Array.replicate_zero,List.push_toArray,List.append_toArray,List.nil_append,List.cons_append]
 gi_wp2
 go_ret
 exact ⟨rfl,rfl⟩
theorem tokens_stops (n:Nat) (hn:1≤n) (Bs:Nat) (s:Qy.Bs) (hs:s.length≤5000) (w:World) (hB:Bs<w.heap.size) (hBs:w.cell? ⟨Bs,0,none⟩=some (.string (bs s))) :
 SeqStopsK Fence.wide n Tryd.prog 47 #[.pointer (some ⟨Bs,0,none⟩)] encT (Kb Bs) (fun ys=>ys=Qy.toks s 0) (fun pre=>pre <+: Qy.toks s 0) (Qy.toks s 0).length w:=fun y J Jx W hW _ _ hY h0=>
 tokens1_in n hn y Bs s hs J Jx hY W ((hW.cell (p:=⟨Bs,0,none⟩) hB).trans hBs) h0
end Go.Proofs.YtmlpibdincfgbaaDoor
