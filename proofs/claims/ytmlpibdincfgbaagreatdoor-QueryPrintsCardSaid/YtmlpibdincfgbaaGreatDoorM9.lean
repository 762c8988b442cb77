/-
  Chapter 38's reference: tokens.
-/
import Derived.Test.YtmlpibdincfgbaaGreatDoorM6
import Derived.Test.YtmlpibdincfgbaaGreatDoorK17
import Derived.Test.YtmlpibdincfgbaaGreatDoorK19
import Derived.Test.YtmlpibdincfgbaaGreatDoorL34
namespace Qy
theorem cls_vals (c:UInt8):cls c.toNat=0∨cls c.toNat=1∨cls c.toNat=2∨cls c.toNat=3∨cls c.toNat=4:=by
 have:=cls_lt c.toNat
 omega
theorem cls0 {c:UInt8}:cls c.toNat=0↔c=32:=by
 constructor
 ·intro h
  apply UInt8.toNat.inj
  show c.toNat=32
  unfold cls at h
  repeat' split at h
  all_goals omega
 ·rintro rfl;rfl
theorem more_1 {c d:UInt8} (h:cls c.toNat=1):more c d=isW d:=by
 have:isL c=true:=by
  cases e:isL c with
  | true=>rfl
  | false=>exact absurd h (cls_notL e)
 unfold more
 rw [if_pos this]
theorem notL_of {c:UInt8} (h:cls c.toNat≠1):isL c=false:=by
 cases e:isL c with
 | false=>rfl
 | true=>exact absurd (cls_isL e) h
theorem more_23 {c d:UInt8} (h:cls c.toNat=2∨cls c.toNat=3):more c d=isD d:=by
 have h1:isL c=false:=notL_of (by omega)
 have h2:(isD c||c==45)=true:=by
  rw [Bool.or_eq_true]
  rcases h with h | h
  ·left
   cases e:isD c with
   | true=>rfl
   | false=>exact absurd h (cls_notD e)
  ·right
   rw [beq_iff_eq,eq45]
   unfold cls at h
   repeat' split at h
   all_goals omega
 unfold more
 rw [if_neg (by simp [h1]),if_pos h2]
theorem more_04 {c d:UInt8} (h:cls c.toNat=0∨cls c.toNat=4):more c d=false:=by
 have h1:isL c=false:=notL_of (by omega)
 have h2:(isD c||c==45)=false:=by
  rw [Bool.or_eq_false_iff]
  refine ⟨?_,?_⟩
  ·cases e:isD c with
   | false=>rfl
   | true=>have:=cls_isD e;omega
  ·rw [beq_eq_false_iff_ne]
   rintro rfl
   revert h;decide
 unfold more
 rw [if_neg (by simp [h1]),if_neg (by simp [h2])]
theorem isW_yes {d:UInt8} (h:1≤cls d.toNat∧cls d.toNat≤3):isW d=true:=by
 cases e:isW d with
 | true=>rfl
 | false=>have:=cls_notW e;omega
theorem isW_no {d:UInt8} (h:cls d.toNat=0∨cls d.toNat=4):isW d=false:=by
 cases e:isW d with
 | false=>rfl
 | true=>have:=cls_isW e;omega
theorem isD_yes {d:UInt8} (h:cls d.toNat=2):isD d=true:=by
 cases e:isD d with
 | true=>rfl
 | false=>exact absurd h (cls_notD e)
theorem isD_no {d:UInt8} (h:cls d.toNat≠2):isD d=false:=by
 cases e:isD d with
 | false=>rfl
 | true=>exact absurd (cls_isD e) h
theorem word_text {s:Bs} {i:Nat} {c:UInt8} (h:s[i]?=some c) (k:Nat):(s.take (i+1+k)).drop i=c :: (s.drop (i+1)).take k:=by
 rw [List.drop_take]
 obtain ⟨hi,e⟩:=List.getElem?_eq_some_iff.1 h
 rw [List.drop_eq_getElem_cons hi,e,show i+1+k - i=k+1 by omega,List.take_succ_cons]
end Qy
namespace Go.Proofs.YtmlpibdincfgbaaGreatDoor
open Go.RowKit
set_option linter.unusedSimpArgs false
set_option linter.unusedVariables false
def cellsT (l:List Qy.Tok):List Value:=l.flatMap fun t=>[.string (bs t.text),.int .i64 (t.at_:Int)]
theorem cellsT_push (l:List Qy.Tok) (t:Qy.Tok):cellsT l++[.string (bs t.text),.int .i64 (t.at_:Int)]=cellsT (l++[t]):=by simp [cellsT]
theorem cellsT_at:∀ (l:List Qy.Tok) (j:Nat) (t:Qy.Tok),l[j]?=some t→(cellsT l)[j * 2]?=some (.string (bs t.text))∧(cellsT l)[j * 2+1]?=some (.int .i64 (t.at_:Int))
 | [],j,t,h=>by simp at h
 | x :: l,0,t,h=>by
  simp only [List.getElem?_cons_zero,Option.some.injEq] at h
  subst h
  exact ⟨rfl,rfl⟩
 | x :: l,j+1,t,h=>by
  have:=cellsT_at l j t (by simpa using h)
  rw [show (j+1) * 2=j * 2+1+1 by omega]
  exact this
theorem tks_of {w:World} {B r n:Nat} {A:Option Addr} {c:Nat} {l:List Qy.Tok} (h:w.ownsRow B 81 2 (.slice A n c) n (cellsT l)) (hn:n=l.length) (hr:∀ g,A=some ⟨g,0,none⟩→g<w.heap.size→g≠r∧g<r+1):TksAt w (r+1) r A c l:=by
 subst hn
 rcases h.2 with ⟨h0,h1⟩ | ⟨g,cap,cur,e,k2,k3,k4,k5,k6,k7⟩
 ·exact .inl (List.eq_nil_of_length_eq_zero h1)
 ·injection e with e1 _ e2
  subst e2
  have hlt:=heap_lt k3
  obtain ⟨hne,hlt2⟩:=hr g e1 hlt
  refine .inr ⟨g,0,e1,hne,hlt2,hlt,k4,fun j t ht=>?_⟩
  obtain ⟨c1,c2⟩:=cellsT_at l j t ht
  have hj:=(List.getElem?_eq_some_iff.1 ht).1
  rw [← k7,List.getElem?_take_of_lt (by omega)] at c1 c2
  rw [Nat.zero_add]
  exact ⟨by simpa [World.cell?,k3] using c1,by simpa [World.cell?,k3] using c2⟩
theorem owns_below {w w':World} {B n:Nat} {v:Value} {e:TypeId} {sz:Nat} {xs:List Value} (h:w.ownsRow B e sz v n xs) (k:Below w.heap.size w w'):w'.ownsRow B e sz v n xs:=by
 refine ⟨h.1,?_⟩
 rcases h.2 with h | ⟨g,cap,cur,e,k2,k3,k4⟩
 ·exact .inl h
 ·exact .inr ⟨g,cap,cur,e,k2,(k.block g (heap_lt k3)).trans k3,k4⟩
theorem below_row {w wr w6 w7:World} {v:Value} {n:Nat} {e:TypeId} {sz:Nat} {xs:List Value} (h:Below w.heap.size w wr) (k:Below wr.heap.size wr w6) (hr:wr.ownsRow w.heap.size e sz v n xs) (hg:w6.grownBy w7 v.ownBlock):Below w.heap.size w w7:=by
 have hv:∀ g,v.ownBlock=some g→w.heap.size≤g:=fun g e=>by
  rcases hr.2 with ⟨e1,_⟩ | ⟨g9,_,_,e1,e2,_⟩
  ·rw [e1] at e;cases e
  ·rw [e1] at e;cases e;exact e2
 exact ⟨hg.os.trans (k.os.trans h.os),hg.tape.trans (k.tape.trans h.tape),hg.output.trans (k.output.trans h.output),Nat.le_trans h.size (Nat.le_trans k.size hg.size),fun j hj=>
  (hg.block j (Nat.lt_of_lt_of_le hj (Nat.le_trans h.size k.size)) (fun e=>by have:=hv j e.symm;omega)).trans ((k.block j (Nat.lt_of_lt_of_le hj h.size)).trans (h.block j hj))⟩
theorem owns_slice {w:World} {B n:Nat} {v:Value} {e:TypeId} {sz:Nat} {xs:List Value} (h:w.ownsRow B e sz v n xs):∃ A c,v=.slice A n c:=by
 rcases h.2 with ⟨rfl,h0⟩ | ⟨g,cap,cur,rfl,_⟩
 ·exact ⟨none,0,by rw [h0]⟩
 ·exact ⟨_,_,rfl⟩
theorem tok_infoF:(Tryz.prog.info? 81).map (fun i=>(i.zero,i.size,i.bytes))=some (some (.agg #[.string ⟨#[]⟩,.int .i64 0]),2,24):=by kernel_rfl
set_option maxRecDepth 100000 in
set_option maxHeartbeats 6400000 in
theorem rTokensG (s:Qy.Bs) (hs:s.length≤100000) (w:World):Calls Tryz.prog 33 #[.string (bs s)] w fun e w'=>Below w.heap.size w w'∧∃ A c,e=.returned (.slice A (Qy.toks s 0).length c)∧
 w'.ownsRow w.heap.size 81 2 (.slice A (Qy.toks s 0).length c) (Qy.toks s 0).length (cellsT (Qy.toks s 0))∧(Qy.toks s 0).length≤100001:=by
 obtain ⟨T,hT⟩:∃ T,Qy.toks s 0=T:=⟨_,rfl⟩
 rw [hT]
 have hsz:=bs_size s
 obtain ⟨sd,hsd⟩:∃ sd,bs s=sd:=⟨_,rfl⟩
 have HSd:=Lib.hid hsd
 rw [hsd] at hsz ⊢
 obtain ⟨L,hL⟩:∃ L,s.length=L:=⟨_,rfl⟩
 have HL:=Lib.hid hL
 rw [hL] at hsz hs
 have HT:=Lib.hid hT
 have HCl:=Lib.hid fun (c:UInt8) u=>class_any c u
 clear hsd hL hT
 go_enter Tryz.func33,Tryz.ntmps33
 go_wp2_with fail
 go_loopw [3,4] (fun s3 s4 wr=>∃ (i:Nat) (acc:List Qy.Tok),i≤L∧s4=.int .i64 (i:Int)∧wr.ownsRow w.heap.size 81 2 s3 acc.length (cellsT acc)∧acc++Qy.toks (s.drop i) i=T∧Below w.heap.size w wr∧acc.length≤i) (fun _ s4 _=>L - (intOf s4).toNat)
 case atStart=>exact ⟨0,[],Nat.zero_le _,rfl,World.ownsRow_nil _ _ _ 2,HT.out,Below.refl _ _,Nat.zero_le _⟩
 case round=>
  obtain ⟨i,acc,hi,rfl,hrow,hacc,hb,hai⟩:=hrel
  have HRow:=Lib.hid hrow
  have HB:=Lib.hid hb
  have HAcc:=Lib.hid hacc
  clear hrow hb hacc
  rcases Nat.lt_or_eq_of_le hi with hlt | heq
  ·have i0:(0:Int)≤(i:Int):=by omega
   have i1:(i:Int)<(L:Int):=by omega
   obtain ⟨c,hc⟩:∃ c,s[i]?=some c:=⟨_,List.getElem?_eq_getElem (by have:=HL.out;omega)⟩
   have hx:∀ hi:i<sd.size,sd[i]'hi=c:=by rw [← HSd.out];exact bs_int hc
   have hdr:s.drop i=c :: s.drop (i+1):=by
    rw [List.drop_eq_getElem_cons (by have:=HL.out;omega)]
    rw [(List.getElem?_eq_some_iff.1 hc).2]
   have HC:=Lib.hid hc
   have HDr:=Lib.hid hdr
   obtain ⟨K,hK⟩:∃ K,((s.drop (i+1)).takeWhile (Qy.more c)).length=K:=⟨_,rfl⟩
   have HK:=Lib.hid hK
   have hKL:i+1+K≤L:=by
    have h1:=tw_le (p:=Qy.more c) (s.drop (i+1))
    rw [hK,List.length_drop,HL.out] at h1
    omega
   have HCc:=Lib.hid fun u=>HCl.out c u
   have hcv:=Qy.cls_vals c
   clear hc hdr hK
   go_wp2_with fail
   refine (HCc.out _).mono ?_
   rintro e w2 ⟨rfl,e_⟩
   subst e_
   obtain ⟨kc,hkc⟩:∃ k,Qy.cls c.toNat=k:=⟨_,rfl⟩
   have HKc:=Lib.hid hkc
   rw [hkc] at hcv ⊢
   clear hkc HCc
   rcases hcv with rfl | rfl | rfl | rfl | rfl
   ·go_wp2_with fail
    go_loopw [6] (fun s6 w3=>∃ j:Nat,j≤K∧s6=.int .i64 ((i:Int)+1+(j:Int))∧w3=w2) (fun s6 _=>L - (intOf s6).toNat)
    case atStart=>exact ⟨0,Nat.zero_le _,by go_num,rfl⟩
    case round=>
     obtain ⟨j,hj,rfl,rfl⟩:=hrel
     rcases Nat.lt_or_ge (i+1+j) L with h1 | h1
     ·have j0:(0:Int)≤(i:Int)+1+(j:Int):=by omega
      have j1:(i:Int)+1+(j:Int)<(L:Int):=by omega
      obtain ⟨d,hd⟩:∃ d,s[i+1+j]?=some d:=⟨_,List.getElem?_eq_getElem (by have:=HL.out;omega)⟩
      have hy:∀ hi:i+1+j<sd.size,sd[i+1+j]'hi=d:=by rw [← HSd.out];exact bs_int hd
      have HCd:=Lib.hid fun u=>HCl.out d u
      have HD:Hid ((s.drop (i+1))[j]?=some d):=Lib.hid (by rw [List.getElem?_drop];exact hd)
      obtain ⟨kd,hkd⟩:∃ k,Qy.cls d.toNat=k:=⟨_,rfl⟩
      have HKd:=Lib.hid hkd
      rw [hkd] at HCd
      clear hd hkd
      have hst:K=j:=by rw [← HK.out];exact tw_stop HD.out (by rw [HK.out];exact hj) (Qy.more_04 (.inl HKc.out))
      go_wp2_with fail
      refine (HCd.out _).mono ?_
      rintro e w4 ⟨rfl,e_⟩
      subst e_
      obtain rfl:j=K:=by exact hst.symm
      have hspace:c=32:=Qy.cls0.1 HKc.out
      have hK0:j=0:=by
       have h1:=HK.out
       rw [← h1]
       cases hd9:s.drop (i+1) with
       | nil=>rfl
       | cons d9 l9=>rw [List.takeWhile_cons,if_neg (by rw [Qy.more_04 (.inl HKc.out)];simp)];rfl
      subst hK0
      have HA2:=Lib.hid (show acc++Qy.toks (s.drop (i+1+0)) (i+1+0)=T by have h1:=HAcc.out;rw [HDr.out,hspace,toks_space] at h1;exact h1)
      clear hspace
      go_wp2_with fail
      go_roundw
      case rel=>exact ⟨i+1+0,acc,by omega,by go_num,HRow.out,HA2.out,HB.out,by omega⟩
      case measure=>simp [intOf];omega
     ·have j1:¬ (i:Int)+1+(j:Int)<(L:Int):=by omega
      obtain rfl:j=K:=by omega
      have hspace:c=32:=Qy.cls0.1 HKc.out
      have hK0:j=0:=by
       have h1:=HK.out
       rw [← h1]
       cases hd9:s.drop (i+1) with
       | nil=>rfl
       | cons d9 l9=>rw [List.takeWhile_cons,if_neg (by rw [Qy.more_04 (.inl HKc.out)];simp)];rfl
      subst hK0
      have HA2:=Lib.hid (show acc++Qy.toks (s.drop (i+1+0)) (i+1+0)=T by have h1:=HAcc.out;rw [HDr.out,hspace,toks_space] at h1;exact h1)
      clear hspace
      go_wp2_with fail
      go_roundw
      case rel=>exact ⟨i+1+0,acc,by omega,by go_num,HRow.out,HA2.out,HB.out,by omega⟩
      case measure=>simp [intOf];omega
   ·go_wp2_with fail
    go_loopw [6] (fun s6 w3=>∃ j:Nat,j≤K∧s6=.int .i64 ((i:Int)+1+(j:Int))∧w3=w2) (fun s6 _=>L - (intOf s6).toNat)
    case atStart=>exact ⟨0,Nat.zero_le _,by go_num,rfl⟩
    case round=>
     obtain ⟨j,hj,rfl,rfl⟩:=hrel
     rcases Nat.lt_or_ge (i+1+j) L with h1 | h1
     ·have j0:(0:Int)≤(i:Int)+1+(j:Int):=by omega
      have j1:(i:Int)+1+(j:Int)<(L:Int):=by omega
      obtain ⟨d,hd⟩:∃ d,s[i+1+j]?=some d:=⟨_,List.getElem?_eq_getElem (by have:=HL.out;omega)⟩
      have hy:∀ hi:i+1+j<sd.size,sd[i+1+j]'hi=d:=by rw [← HSd.out];exact bs_int hd
      have HCd:=Lib.hid fun u=>HCl.out d u
      have HD:Hid ((s.drop (i+1))[j]?=some d):=Lib.hid (by rw [List.getElem?_drop];exact hd)
      obtain ⟨kd,hkd⟩:∃ k,Qy.cls d.toNat=k:=⟨_,rfl⟩
      have HKd:=Lib.hid hkd
      rw [hkd] at HCd
      clear hd hkd
      have hdv:=Qy.cls_vals d
      rw [HKd.out] at hdv
      rcases hdv with rfl | rfl | rfl | rfl | rfl
      ·have HKd2:=HKd
       have hst:K=j:=by rw [← HK.out];exact tw_stop HD.out (by rw [HK.out];exact hj) (by rw [Qy.more_1 HKc.out];exact Qy.isW_no (by rw [HKd.out];decide))
       go_wp2_with fail
       refine (HCd.out _).mono ?_
       rintro e w4 ⟨rfl,e_⟩
       subst e_
       obtain rfl:j=K:=by exact hst.symm
       have hw9:c≠32:=fun e=>by have h1:=Qy.cls0.2 e;rw [HKc.out] at h1;cases h1
       have HA2:=Lib.hid (show (acc++[⟨c :: (s.drop (i+1)).take j,i⟩])++Qy.toks (s.drop (i+1+j)) (i+1+j)=T by have h1:=HAcc.out;rw [HDr.out,toks_word c _ i j hw9 HK.out,List.drop_drop] at h1;rw [List.append_assoc];exact h1)
       have hex:sd.extract i (i+1+j)=bs (c :: (s.drop (i+1)).take j):=by rw [← HSd.out,bs_extract,Qy.word_text HC.out]
       obtain ⟨tx,htx⟩:∃ tx,c :: (s.drop (i+1)).take j=tx:=⟨_,rfl⟩
       rw [htx] at hex HA2
       have kn:=below_new w4 (.cells #[.string (bs tx),.int .i64 (i:Int)] 81)
       have q2:=owns_below HRow.out kn
       have HO:=own_news (Own.new w4 81 [.string (bs tx),.int .i64 (i:Int)])
       have one1:∀ u∈[Value.string (bs tx),Value.int .i64 (i:Int)],u.oneCell'=true:=by simp [Value.oneCell']
       have HKn:=Lib.hid kn
       have hwz:=HB.out.size
       have e1_:(i:Int)≤(i:Int)+1+(j:Int):=by omega
       have e2_:(i:Int)+1+(j:Int)≤(L:Int):=by omega
       clear hw9 htx kn
       obtain ⟨i0_,hi_,hz0,hz1,hz2⟩:=info_parts tok_infoF
       go_wp2_with (at_builtin;refine wpList_pushO _ rfl _ _ 78 rfl 81 i0_ (.agg #[.string ⟨#[]⟩,.int .i64 0]) 2 24 Tryz.underlying78 hi_ hz0 hz1 hz2 rfl (by decide) w.heap.size _ _ _ rfl q2 ⟨w4.heap.size,0,none⟩ 1 [.string (bs tx),.int .i64 (i:Int)] rfl rfl HO one1 ?c4 ?c5 ?c6 ?_)
       case c4=>unfold maxLen;omega
       case c5=>omega
       case c6=>first | omega | (simp;omega)
       intro v' w7 hrow3 hgrow hv'
       rw [show cellsT acc++[.string (bs tx),.int .i64 (i:Int)]=cellsT (acc++[⟨tx,i⟩]) from cellsT_push acc ⟨tx,i⟩] at hrow3
       have HR3:=Lib.hid hrow3
       have HB3:=Lib.hid (below_row HB.out HKn.out HRow.out hgrow)
       clear hrow3 hgrow hv' q2 HO one1 hi_ hz0 hz1 hz2 hex e1_ e2_
       clear i0_
       go_wp2_with fail
       go_roundw
       case rel=>exact ⟨i+1+j,acc++[⟨tx,i⟩],by omega,by go_num,by rw [List.length_append];exact HR3.out,HA2.out,HB3.out,by simp;omega⟩
       case measure=>simp [intOf];omega
      ·have HKd2:=HKd
       have HJ2:=Lib.hid (show j+1≤K by rw [← HK.out];exact tw_more HD.out (by rw [HK.out];exact hj) (by rw [Qy.more_1 HKc.out];exact Qy.isW_yes (by rw [HKd.out];decide)))
       go_wp2_with fail
       refine (HCd.out _).mono ?_
       rintro e w4 ⟨rfl,e_⟩
       subst e_
       go_wp2_with fail
       go_roundw
       case rel=>exact ⟨j+1,HJ2.out,by go_num,by first | rfl | trivial⟩
       case measure=>simp [intOf];omega
      ·have HKd2:=HKd
       have HJ2:=Lib.hid (show j+1≤K by rw [← HK.out];exact tw_more HD.out (by rw [HK.out];exact hj) (by rw [Qy.more_1 HKc.out];exact Qy.isW_yes (by rw [HKd.out];decide)))
       go_wp2_with fail
       refine (HCd.out _).mono ?_
       rintro e w4 ⟨rfl,e_⟩
       subst e_
       go_wp2_with fail
       go_roundw
       case rel=>exact ⟨j+1,HJ2.out,by go_num,by first | rfl | trivial⟩
       case measure=>simp [intOf];omega
      ·have HKd2:=HKd
       have HJ2:=Lib.hid (show j+1≤K by rw [← HK.out];exact tw_more HD.out (by rw [HK.out];exact hj) (by rw [Qy.more_1 HKc.out];exact Qy.isW_yes (by rw [HKd.out];decide)))
       go_wp2_with fail
       refine (HCd.out _).mono ?_
       rintro e w4 ⟨rfl,e_⟩
       subst e_
       go_wp2_with fail
       go_roundw
       case rel=>exact ⟨j+1,HJ2.out,by go_num,by first | rfl | trivial⟩
       case measure=>simp [intOf];omega
      ·have HKd2:=HKd
       have hst:K=j:=by rw [← HK.out];exact tw_stop HD.out (by rw [HK.out];exact hj) (by rw [Qy.more_1 HKc.out];exact Qy.isW_no (by rw [HKd.out];decide))
       go_wp2_with fail
       refine (HCd.out _).mono ?_
       rintro e w4 ⟨rfl,e_⟩
       subst e_
       obtain rfl:j=K:=by exact hst.symm
       have hw9:c≠32:=fun e=>by have h1:=Qy.cls0.2 e;rw [HKc.out] at h1;cases h1
       have HA2:=Lib.hid (show (acc++[⟨c :: (s.drop (i+1)).take j,i⟩])++Qy.toks (s.drop (i+1+j)) (i+1+j)=T by have h1:=HAcc.out;rw [HDr.out,toks_word c _ i j hw9 HK.out,List.drop_drop] at h1;rw [List.append_assoc];exact h1)
       have hex:sd.extract i (i+1+j)=bs (c :: (s.drop (i+1)).take j):=by rw [← HSd.out,bs_extract,Qy.word_text HC.out]
       obtain ⟨tx,htx⟩:∃ tx,c :: (s.drop (i+1)).take j=tx:=⟨_,rfl⟩
       rw [htx] at hex HA2
       have kn:=below_new w4 (.cells #[.string (bs tx),.int .i64 (i:Int)] 81)
       have q2:=owns_below HRow.out kn
       have HO:=own_news (Own.new w4 81 [.string (bs tx),.int .i64 (i:Int)])
       have one1:∀ u∈[Value.string (bs tx),Value.int .i64 (i:Int)],u.oneCell'=true:=by simp [Value.oneCell']
       have HKn:=Lib.hid kn
       have hwz:=HB.out.size
       have e1_:(i:Int)≤(i:Int)+1+(j:Int):=by omega
       have e2_:(i:Int)+1+(j:Int)≤(L:Int):=by omega
       clear hw9 htx kn
       obtain ⟨i0_,hi_,hz0,hz1,hz2⟩:=info_parts tok_infoF
       go_wp2_with (at_builtin;refine wpList_pushO _ rfl _ _ 78 rfl 81 i0_ (.agg #[.string ⟨#[]⟩,.int .i64 0]) 2 24 Tryz.underlying78 hi_ hz0 hz1 hz2 rfl (by decide) w.heap.size _ _ _ rfl q2 ⟨w4.heap.size,0,none⟩ 1 [.string (bs tx),.int .i64 (i:Int)] rfl rfl HO one1 ?c4 ?c5 ?c6 ?_)
       case c4=>unfold maxLen;omega
       case c5=>omega
       case c6=>first | omega | (simp;omega)
       intro v' w7 hrow3 hgrow hv'
       rw [show cellsT acc++[.string (bs tx),.int .i64 (i:Int)]=cellsT (acc++[⟨tx,i⟩]) from cellsT_push acc ⟨tx,i⟩] at hrow3
       have HR3:=Lib.hid hrow3
       have HB3:=Lib.hid (below_row HB.out HKn.out HRow.out hgrow)
       clear hrow3 hgrow hv' q2 HO one1 hi_ hz0 hz1 hz2 hex e1_ e2_
       clear i0_
       go_wp2_with fail
       go_roundw
       case rel=>exact ⟨i+1+j,acc++[⟨tx,i⟩],by omega,by go_num,by rw [List.length_append];exact HR3.out,HA2.out,HB3.out,by simp;omega⟩
       case measure=>simp [intOf];omega
     ·have j1:¬ (i:Int)+1+(j:Int)<(L:Int):=by omega
      obtain rfl:j=K:=by omega
      have hw9:c≠32:=fun e=>by have h1:=Qy.cls0.2 e;rw [HKc.out] at h1;cases h1
      have HA2:=Lib.hid (show (acc++[⟨c :: (s.drop (i+1)).take j,i⟩])++Qy.toks (s.drop (i+1+j)) (i+1+j)=T by have h1:=HAcc.out;rw [HDr.out,toks_word c _ i j hw9 HK.out,List.drop_drop] at h1;rw [List.append_assoc];exact h1)
      have hex:sd.extract i (i+1+j)=bs (c :: (s.drop (i+1)).take j):=by rw [← HSd.out,bs_extract,Qy.word_text HC.out]
      obtain ⟨tx,htx⟩:∃ tx,c :: (s.drop (i+1)).take j=tx:=⟨_,rfl⟩
      rw [htx] at hex HA2
      have kn:=below_new wr (.cells #[.string (bs tx),.int .i64 (i:Int)] 81)
      have q2:=owns_below HRow.out kn
      have HO:=own_news (Own.new wr 81 [.string (bs tx),.int .i64 (i:Int)])
      have one1:∀ u∈[Value.string (bs tx),Value.int .i64 (i:Int)],u.oneCell'=true:=by simp [Value.oneCell']
      have HKn:=Lib.hid kn
      have hwz:=HB.out.size
      have e1_:(i:Int)≤(i:Int)+1+(j:Int):=by omega
      have e2_:(i:Int)+1+(j:Int)≤(L:Int):=by omega
      clear hw9 htx kn
      obtain ⟨i0_,hi_,hz0,hz1,hz2⟩:=info_parts tok_infoF
      go_wp2_with (at_builtin;refine wpList_pushO _ rfl _ _ 78 rfl 81 i0_ (.agg #[.string ⟨#[]⟩,.int .i64 0]) 2 24 Tryz.underlying78 hi_ hz0 hz1 hz2 rfl (by decide) w.heap.size _ _ _ rfl q2 ⟨wr.heap.size,0,none⟩ 1 [.string (bs tx),.int .i64 (i:Int)] rfl rfl HO one1 ?c4 ?c5 ?c6 ?_)
      case c4=>unfold maxLen;omega
      case c5=>omega
      case c6=>first | omega | (simp;omega)
      intro v' w7 hrow3 hgrow hv'
      rw [show cellsT acc++[.string (bs tx),.int .i64 (i:Int)]=cellsT (acc++[⟨tx,i⟩]) from cellsT_push acc ⟨tx,i⟩] at hrow3
      have HR3:=Lib.hid hrow3
      have HB3:=Lib.hid (below_row HB.out HKn.out HRow.out hgrow)
      clear hrow3 hgrow hv' q2 HO one1 hi_ hz0 hz1 hz2 hex e1_ e2_
      clear i0_
      go_wp2_with fail
      go_roundw
      case rel=>exact ⟨i+1+j,acc++[⟨tx,i⟩],by omega,by go_num,by rw [List.length_append];exact HR3.out,HA2.out,HB3.out,by simp;omega⟩
      case measure=>simp [intOf];omega
   ·go_wp2_with fail
    go_loopw [6] (fun s6 w3=>∃ j:Nat,j≤K∧s6=.int .i64 ((i:Int)+1+(j:Int))∧w3=w2) (fun s6 _=>L - (intOf s6).toNat)
    case atStart=>exact ⟨0,Nat.zero_le _,by go_num,rfl⟩
    case round=>
     obtain ⟨j,hj,rfl,rfl⟩:=hrel
     rcases Nat.lt_or_ge (i+1+j) L with h1 | h1
     ·have j0:(0:Int)≤(i:Int)+1+(j:Int):=by omega
      have j1:(i:Int)+1+(j:Int)<(L:Int):=by omega
      obtain ⟨d,hd⟩:∃ d,s[i+1+j]?=some d:=⟨_,List.getElem?_eq_getElem (by have:=HL.out;omega)⟩
      have hy:∀ hi:i+1+j<sd.size,sd[i+1+j]'hi=d:=by rw [← HSd.out];exact bs_int hd
      have HCd:=Lib.hid fun u=>HCl.out d u
      have HD:Hid ((s.drop (i+1))[j]?=some d):=Lib.hid (by rw [List.getElem?_drop];exact hd)
      obtain ⟨kd,hkd⟩:∃ k,Qy.cls d.toNat=k:=⟨_,rfl⟩
      have HKd:=Lib.hid hkd
      rw [hkd] at HCd
      clear hd hkd
      have hdv:=Qy.cls_vals d
      rw [HKd.out] at hdv
      rcases hdv with rfl | rfl | rfl | rfl | rfl
      ·have HKd2:=HKd
       have hst:K=j:=by rw [← HK.out];exact tw_stop HD.out (by rw [HK.out];exact hj) (by rw [Qy.more_23 (.inl HKc.out)];exact Qy.isD_no (by rw [HKd.out];decide))
       go_wp2_with fail
       refine (HCd.out _).mono ?_
       rintro e w4 ⟨rfl,e_⟩
       subst e_
       obtain rfl:j=K:=by exact hst.symm
       have hw9:c≠32:=fun e=>by have h1:=Qy.cls0.2 e;rw [HKc.out] at h1;cases h1
       have HA2:=Lib.hid (show (acc++[⟨c :: (s.drop (i+1)).take j,i⟩])++Qy.toks (s.drop (i+1+j)) (i+1+j)=T by have h1:=HAcc.out;rw [HDr.out,toks_word c _ i j hw9 HK.out,List.drop_drop] at h1;rw [List.append_assoc];exact h1)
       have hex:sd.extract i (i+1+j)=bs (c :: (s.drop (i+1)).take j):=by rw [← HSd.out,bs_extract,Qy.word_text HC.out]
       obtain ⟨tx,htx⟩:∃ tx,c :: (s.drop (i+1)).take j=tx:=⟨_,rfl⟩
       rw [htx] at hex HA2
       have kn:=below_new w4 (.cells #[.string (bs tx),.int .i64 (i:Int)] 81)
       have q2:=owns_below HRow.out kn
       have HO:=own_news (Own.new w4 81 [.string (bs tx),.int .i64 (i:Int)])
       have one1:∀ u∈[Value.string (bs tx),Value.int .i64 (i:Int)],u.oneCell'=true:=by simp [Value.oneCell']
       have HKn:=Lib.hid kn
       have hwz:=HB.out.size
       have e1_:(i:Int)≤(i:Int)+1+(j:Int):=by omega
       have e2_:(i:Int)+1+(j:Int)≤(L:Int):=by omega
       clear hw9 htx kn
       obtain ⟨i0_,hi_,hz0,hz1,hz2⟩:=info_parts tok_infoF
       go_wp2_with (at_builtin;refine wpList_pushO _ rfl _ _ 78 rfl 81 i0_ (.agg #[.string ⟨#[]⟩,.int .i64 0]) 2 24 Tryz.underlying78 hi_ hz0 hz1 hz2 rfl (by decide) w.heap.size _ _ _ rfl q2 ⟨w4.heap.size,0,none⟩ 1 [.string (bs tx),.int .i64 (i:Int)] rfl rfl HO one1 ?c4 ?c5 ?c6 ?_)
       case c4=>unfold maxLen;omega
       case c5=>omega
       case c6=>first | omega | (simp;omega)
       intro v' w7 hrow3 hgrow hv'
       rw [show cellsT acc++[.string (bs tx),.int .i64 (i:Int)]=cellsT (acc++[⟨tx,i⟩]) from cellsT_push acc ⟨tx,i⟩] at hrow3
       have HR3:=Lib.hid hrow3
       have HB3:=Lib.hid (below_row HB.out HKn.out HRow.out hgrow)
       clear hrow3 hgrow hv' q2 HO one1 hi_ hz0 hz1 hz2 hex e1_ e2_
       clear i0_
       go_wp2_with fail
       go_roundw
       case rel=>exact ⟨i+1+j,acc++[⟨tx,i⟩],by omega,by go_num,by rw [List.length_append];exact HR3.out,HA2.out,HB3.out,by simp;omega⟩
       case measure=>simp [intOf];omega
      ·have HKd2:=HKd
       have hst:K=j:=by rw [← HK.out];exact tw_stop HD.out (by rw [HK.out];exact hj) (by rw [Qy.more_23 (.inl HKc.out)];exact Qy.isD_no (by rw [HKd.out];decide))
       go_wp2_with fail
       refine (HCd.out _).mono ?_
       rintro e w4 ⟨rfl,e_⟩
       subst e_
       obtain rfl:j=K:=by exact hst.symm
       have hw9:c≠32:=fun e=>by have h1:=Qy.cls0.2 e;rw [HKc.out] at h1;cases h1
       have HA2:=Lib.hid (show (acc++[⟨c :: (s.drop (i+1)).take j,i⟩])++Qy.toks (s.drop (i+1+j)) (i+1+j)=T by have h1:=HAcc.out;rw [HDr.out,toks_word c _ i j hw9 HK.out,List.drop_drop] at h1;rw [List.append_assoc];exact h1)
       have hex:sd.extract i (i+1+j)=bs (c :: (s.drop (i+1)).take j):=by rw [← HSd.out,bs_extract,Qy.word_text HC.out]
       obtain ⟨tx,htx⟩:∃ tx,c :: (s.drop (i+1)).take j=tx:=⟨_,rfl⟩
       rw [htx] at hex HA2
       have kn:=below_new w4 (.cells #[.string (bs tx),.int .i64 (i:Int)] 81)
       have q2:=owns_below HRow.out kn
       have HO:=own_news (Own.new w4 81 [.string (bs tx),.int .i64 (i:Int)])
       have one1:∀ u∈[Value.string (bs tx),Value.int .i64 (i:Int)],u.oneCell'=true:=by simp [Value.oneCell']
       have HKn:=Lib.hid kn
       have hwz:=HB.out.size
       have e1_:(i:Int)≤(i:Int)+1+(j:Int):=by omega
       have e2_:(i:Int)+1+(j:Int)≤(L:Int):=by omega
       clear hw9 htx kn
       obtain ⟨i0_,hi_,hz0,hz1,hz2⟩:=info_parts tok_infoF
       go_wp2_with (at_builtin;refine wpList_pushO _ rfl _ _ 78 rfl 81 i0_ (.agg #[.string ⟨#[]⟩,.int .i64 0]) 2 24 Tryz.underlying78 hi_ hz0 hz1 hz2 rfl (by decide) w.heap.size _ _ _ rfl q2 ⟨w4.heap.size,0,none⟩ 1 [.string (bs tx),.int .i64 (i:Int)] rfl rfl HO one1 ?c4 ?c5 ?c6 ?_)
       case c4=>unfold maxLen;omega
       case c5=>omega
       case c6=>first | omega | (simp;omega)
       intro v' w7 hrow3 hgrow hv'
       rw [show cellsT acc++[.string (bs tx),.int .i64 (i:Int)]=cellsT (acc++[⟨tx,i⟩]) from cellsT_push acc ⟨tx,i⟩] at hrow3
       have HR3:=Lib.hid hrow3
       have HB3:=Lib.hid (below_row HB.out HKn.out HRow.out hgrow)
       clear hrow3 hgrow hv' q2 HO one1 hi_ hz0 hz1 hz2 hex e1_ e2_
       clear i0_
       go_wp2_with fail
       go_roundw
       case rel=>exact ⟨i+1+j,acc++[⟨tx,i⟩],by omega,by go_num,by rw [List.length_append];exact HR3.out,HA2.out,HB3.out,by simp;omega⟩
       case measure=>simp [intOf];omega
      ·have HKd2:=HKd
       have HJ2:=Lib.hid (show j+1≤K by rw [← HK.out];exact tw_more HD.out (by rw [HK.out];exact hj) (by rw [Qy.more_23 (.inl HKc.out)];exact Qy.isD_yes HKd.out))
       go_wp2_with fail
       refine (HCd.out _).mono ?_
       rintro e w4 ⟨rfl,e_⟩
       subst e_
       go_wp2_with fail
       go_roundw
       case rel=>exact ⟨j+1,HJ2.out,by go_num,by first | rfl | trivial⟩
       case measure=>simp [intOf];omega
      ·have HKd2:=HKd
       have hst:K=j:=by rw [← HK.out];exact tw_stop HD.out (by rw [HK.out];exact hj) (by rw [Qy.more_23 (.inl HKc.out)];exact Qy.isD_no (by rw [HKd.out];decide))
       go_wp2_with fail
       refine (HCd.out _).mono ?_
       rintro e w4 ⟨rfl,e_⟩
       subst e_
       obtain rfl:j=K:=by exact hst.symm
       have hw9:c≠32:=fun e=>by have h1:=Qy.cls0.2 e;rw [HKc.out] at h1;cases h1
       have HA2:=Lib.hid (show (acc++[⟨c :: (s.drop (i+1)).take j,i⟩])++Qy.toks (s.drop (i+1+j)) (i+1+j)=T by have h1:=HAcc.out;rw [HDr.out,toks_word c _ i j hw9 HK.out,List.drop_drop] at h1;rw [List.append_assoc];exact h1)
       have hex:sd.extract i (i+1+j)=bs (c :: (s.drop (i+1)).take j):=by rw [← HSd.out,bs_extract,Qy.word_text HC.out]
       obtain ⟨tx,htx⟩:∃ tx,c :: (s.drop (i+1)).take j=tx:=⟨_,rfl⟩
       rw [htx] at hex HA2
       have kn:=below_new w4 (.cells #[.string (bs tx),.int .i64 (i:Int)] 81)
       have q2:=owns_below HRow.out kn
       have HO:=own_news (Own.new w4 81 [.string (bs tx),.int .i64 (i:Int)])
       have one1:∀ u∈[Value.string (bs tx),Value.int .i64 (i:Int)],u.oneCell'=true:=by simp [Value.oneCell']
       have HKn:=Lib.hid kn
       have hwz:=HB.out.size
       have e1_:(i:Int)≤(i:Int)+1+(j:Int):=by omega
       have e2_:(i:Int)+1+(j:Int)≤(L:Int):=by omega
       clear hw9 htx kn
       obtain ⟨i0_,hi_,hz0,hz1,hz2⟩:=info_parts tok_infoF
       go_wp2_with (at_builtin;refine wpList_pushO _ rfl _ _ 78 rfl 81 i0_ (.agg #[.string ⟨#[]⟩,.int .i64 0]) 2 24 Tryz.underlying78 hi_ hz0 hz1 hz2 rfl (by decide) w.heap.size _ _ _ rfl q2 ⟨w4.heap.size,0,none⟩ 1 [.string (bs tx),.int .i64 (i:Int)] rfl rfl HO one1 ?c4 ?c5 ?c6 ?_)
       case c4=>unfold maxLen;omega
       case c5=>omega
       case c6=>first | omega | (simp;omega)
       intro v' w7 hrow3 hgrow hv'
       rw [show cellsT acc++[.string (bs tx),.int .i64 (i:Int)]=cellsT (acc++[⟨tx,i⟩]) from cellsT_push acc ⟨tx,i⟩] at hrow3
       have HR3:=Lib.hid hrow3
       have HB3:=Lib.hid (below_row HB.out HKn.out HRow.out hgrow)
       clear hrow3 hgrow hv' q2 HO one1 hi_ hz0 hz1 hz2 hex e1_ e2_
       clear i0_
       go_wp2_with fail
       go_roundw
       case rel=>exact ⟨i+1+j,acc++[⟨tx,i⟩],by omega,by go_num,by rw [List.length_append];exact HR3.out,HA2.out,HB3.out,by simp;omega⟩
       case measure=>simp [intOf];omega
      ·have HKd2:=HKd
       have hst:K=j:=by rw [← HK.out];exact tw_stop HD.out (by rw [HK.out];exact hj) (by rw [Qy.more_23 (.inl HKc.out)];exact Qy.isD_no (by rw [HKd.out];decide))
       go_wp2_with fail
       refine (HCd.out _).mono ?_
       rintro e w4 ⟨rfl,e_⟩
       subst e_
       obtain rfl:j=K:=by exact hst.symm
       have hw9:c≠32:=fun e=>by have h1:=Qy.cls0.2 e;rw [HKc.out] at h1;cases h1
       have HA2:=Lib.hid (show (acc++[⟨c :: (s.drop (i+1)).take j,i⟩])++Qy.toks (s.drop (i+1+j)) (i+1+j)=T by have h1:=HAcc.out;rw [HDr.out,toks_word c _ i j hw9 HK.out,List.drop_drop] at h1;rw [List.append_assoc];exact h1)
       have hex:sd.extract i (i+1+j)=bs (c :: (s.drop (i+1)).take j):=by rw [← HSd.out,bs_extract,Qy.word_text HC.out]
       obtain ⟨tx,htx⟩:∃ tx,c :: (s.drop (i+1)).take j=tx:=⟨_,rfl⟩
       rw [htx] at hex HA2
       have kn:=below_new w4 (.cells #[.string (bs tx),.int .i64 (i:Int)] 81)
       have q2:=owns_below HRow.out kn
       have HO:=own_news (Own.new w4 81 [.string (bs tx),.int .i64 (i:Int)])
       have one1:∀ u∈[Value.string (bs tx),Value.int .i64 (i:Int)],u.oneCell'=true:=by simp [Value.oneCell']
       have HKn:=Lib.hid kn
       have hwz:=HB.out.size
       have e1_:(i:Int)≤(i:Int)+1+(j:Int):=by omega
       have e2_:(i:Int)+1+(j:Int)≤(L:Int):=by omega
       clear hw9 htx kn
       obtain ⟨i0_,hi_,hz0,hz1,hz2⟩:=info_parts tok_infoF
       go_wp2_with (at_builtin;refine wpList_pushO _ rfl _ _ 78 rfl 81 i0_ (.agg #[.string ⟨#[]⟩,.int .i64 0]) 2 24 Tryz.underlying78 hi_ hz0 hz1 hz2 rfl (by decide) w.heap.size _ _ _ rfl q2 ⟨w4.heap.size,0,none⟩ 1 [.string (bs tx),.int .i64 (i:Int)] rfl rfl HO one1 ?c4 ?c5 ?c6 ?_)
       case c4=>unfold maxLen;omega
       case c5=>omega
       case c6=>first | omega | (simp;omega)
       intro v' w7 hrow3 hgrow hv'
       rw [show cellsT acc++[.string (bs tx),.int .i64 (i:Int)]=cellsT (acc++[⟨tx,i⟩]) from cellsT_push acc ⟨tx,i⟩] at hrow3
       have HR3:=Lib.hid hrow3
       have HB3:=Lib.hid (below_row HB.out HKn.out HRow.out hgrow)
       clear hrow3 hgrow hv' q2 HO one1 hi_ hz0 hz1 hz2 hex e1_ e2_
       clear i0_
       go_wp2_with fail
       go_roundw
       case rel=>exact ⟨i+1+j,acc++[⟨tx,i⟩],by omega,by go_num,by rw [List.length_append];exact HR3.out,HA2.out,HB3.out,by simp;omega⟩
       case measure=>simp [intOf];omega
     ·have j1:¬ (i:Int)+1+(j:Int)<(L:Int):=by omega
      obtain rfl:j=K:=by omega
      have hw9:c≠32:=fun e=>by have h1:=Qy.cls0.2 e;rw [HKc.out] at h1;cases h1
      have HA2:=Lib.hid (show (acc++[⟨c :: (s.drop (i+1)).take j,i⟩])++Qy.toks (s.drop (i+1+j)) (i+1+j)=T by have h1:=HAcc.out;rw [HDr.out,toks_word c _ i j hw9 HK.out,List.drop_drop] at h1;rw [List.append_assoc];exact h1)
      have hex:sd.extract i (i+1+j)=bs (c :: (s.drop (i+1)).take j):=by rw [← HSd.out,bs_extract,Qy.word_text HC.out]
      obtain ⟨tx,htx⟩:∃ tx,c :: (s.drop (i+1)).take j=tx:=⟨_,rfl⟩
      rw [htx] at hex HA2
      have kn:=below_new wr (.cells #[.string (bs tx),.int .i64 (i:Int)] 81)
      have q2:=owns_below HRow.out kn
      have HO:=own_news (Own.new wr 81 [.string (bs tx),.int .i64 (i:Int)])
      have one1:∀ u∈[Value.string (bs tx),Value.int .i64 (i:Int)],u.oneCell'=true:=by simp [Value.oneCell']
      have HKn:=Lib.hid kn
      have hwz:=HB.out.size
      have e1_:(i:Int)≤(i:Int)+1+(j:Int):=by omega
      have e2_:(i:Int)+1+(j:Int)≤(L:Int):=by omega
      clear hw9 htx kn
      obtain ⟨i0_,hi_,hz0,hz1,hz2⟩:=info_parts tok_infoF
      go_wp2_with (at_builtin;refine wpList_pushO _ rfl _ _ 78 rfl 81 i0_ (.agg #[.string ⟨#[]⟩,.int .i64 0]) 2 24 Tryz.underlying78 hi_ hz0 hz1 hz2 rfl (by decide) w.heap.size _ _ _ rfl q2 ⟨wr.heap.size,0,none⟩ 1 [.string (bs tx),.int .i64 (i:Int)] rfl rfl HO one1 ?c4 ?c5 ?c6 ?_)
      case c4=>unfold maxLen;omega
      case c5=>omega
      case c6=>first | omega | (simp;omega)
      intro v' w7 hrow3 hgrow hv'
      rw [show cellsT acc++[.string (bs tx),.int .i64 (i:Int)]=cellsT (acc++[⟨tx,i⟩]) from cellsT_push acc ⟨tx,i⟩] at hrow3
      have HR3:=Lib.hid hrow3
      have HB3:=Lib.hid (below_row HB.out HKn.out HRow.out hgrow)
      clear hrow3 hgrow hv' q2 HO one1 hi_ hz0 hz1 hz2 hex e1_ e2_
      clear i0_
      go_wp2_with fail
      go_roundw
      case rel=>exact ⟨i+1+j,acc++[⟨tx,i⟩],by omega,by go_num,by rw [List.length_append];exact HR3.out,HA2.out,HB3.out,by simp;omega⟩
      case measure=>simp [intOf];omega
   ·go_wp2_with fail
    go_loopw [6] (fun s6 w3=>∃ j:Nat,j≤K∧s6=.int .i64 ((i:Int)+1+(j:Int))∧w3=w2) (fun s6 _=>L - (intOf s6).toNat)
    case atStart=>exact ⟨0,Nat.zero_le _,by go_num,rfl⟩
    case round=>
     obtain ⟨j,hj,rfl,rfl⟩:=hrel
     rcases Nat.lt_or_ge (i+1+j) L with h1 | h1
     ·have j0:(0:Int)≤(i:Int)+1+(j:Int):=by omega
      have j1:(i:Int)+1+(j:Int)<(L:Int):=by omega
      obtain ⟨d,hd⟩:∃ d,s[i+1+j]?=some d:=⟨_,List.getElem?_eq_getElem (by have:=HL.out;omega)⟩
      have hy:∀ hi:i+1+j<sd.size,sd[i+1+j]'hi=d:=by rw [← HSd.out];exact bs_int hd
      have HCd:=Lib.hid fun u=>HCl.out d u
      have HD:Hid ((s.drop (i+1))[j]?=some d):=Lib.hid (by rw [List.getElem?_drop];exact hd)
      obtain ⟨kd,hkd⟩:∃ k,Qy.cls d.toNat=k:=⟨_,rfl⟩
      have HKd:=Lib.hid hkd
      rw [hkd] at HCd
      clear hd hkd
      have hdv:=Qy.cls_vals d
      rw [HKd.out] at hdv
      rcases hdv with rfl | rfl | rfl | rfl | rfl
      ·have HKd2:=HKd
       have hst:K=j:=by rw [← HK.out];exact tw_stop HD.out (by rw [HK.out];exact hj) (by rw [Qy.more_23 (.inr HKc.out)];exact Qy.isD_no (by rw [HKd.out];decide))
       go_wp2_with fail
       refine (HCd.out _).mono ?_
       rintro e w4 ⟨rfl,e_⟩
       subst e_
       obtain rfl:j=K:=by exact hst.symm
       have hw9:c≠32:=fun e=>by have h1:=Qy.cls0.2 e;rw [HKc.out] at h1;cases h1
       have HA2:=Lib.hid (show (acc++[⟨c :: (s.drop (i+1)).take j,i⟩])++Qy.toks (s.drop (i+1+j)) (i+1+j)=T by have h1:=HAcc.out;rw [HDr.out,toks_word c _ i j hw9 HK.out,List.drop_drop] at h1;rw [List.append_assoc];exact h1)
       have hex:sd.extract i (i+1+j)=bs (c :: (s.drop (i+1)).take j):=by rw [← HSd.out,bs_extract,Qy.word_text HC.out]
       obtain ⟨tx,htx⟩:∃ tx,c :: (s.drop (i+1)).take j=tx:=⟨_,rfl⟩
       rw [htx] at hex HA2
       have kn:=below_new w4 (.cells #[.string (bs tx),.int .i64 (i:Int)] 81)
       have q2:=owns_below HRow.out kn
       have HO:=own_news (Own.new w4 81 [.string (bs tx),.int .i64 (i:Int)])
       have one1:∀ u∈[Value.string (bs tx),Value.int .i64 (i:Int)],u.oneCell'=true:=by simp [Value.oneCell']
       have HKn:=Lib.hid kn
       have hwz:=HB.out.size
       have e1_:(i:Int)≤(i:Int)+1+(j:Int):=by omega
       have e2_:(i:Int)+1+(j:Int)≤(L:Int):=by omega
       clear hw9 htx kn
       obtain ⟨i0_,hi_,hz0,hz1,hz2⟩:=info_parts tok_infoF
       go_wp2_with (at_builtin;refine wpList_pushO _ rfl _ _ 78 rfl 81 i0_ (.agg #[.string ⟨#[]⟩,.int .i64 0]) 2 24 Tryz.underlying78 hi_ hz0 hz1 hz2 rfl (by decide) w.heap.size _ _ _ rfl q2 ⟨w4.heap.size,0,none⟩ 1 [.string (bs tx),.int .i64 (i:Int)] rfl rfl HO one1 ?c4 ?c5 ?c6 ?_)
       case c4=>unfold maxLen;omega
       case c5=>omega
       case c6=>first | omega | (simp;omega)
       intro v' w7 hrow3 hgrow hv'
       rw [show cellsT acc++[.string (bs tx),.int .i64 (i:Int)]=cellsT (acc++[⟨tx,i⟩]) from cellsT_push acc ⟨tx,i⟩] at hrow3
       have HR3:=Lib.hid hrow3
       have HB3:=Lib.hid (below_row HB.out HKn.out HRow.out hgrow)
       clear hrow3 hgrow hv' q2 HO one1 hi_ hz0 hz1 hz2 hex e1_ e2_
       clear i0_
       go_wp2_with fail
       go_roundw
       case rel=>exact ⟨i+1+j,acc++[⟨tx,i⟩],by omega,by go_num,by rw [List.length_append];exact HR3.out,HA2.out,HB3.out,by simp;omega⟩
       case measure=>simp [intOf];omega
      ·have HKd2:=HKd
       have hst:K=j:=by rw [← HK.out];exact tw_stop HD.out (by rw [HK.out];exact hj) (by rw [Qy.more_23 (.inr HKc.out)];exact Qy.isD_no (by rw [HKd.out];decide))
       go_wp2_with fail
       refine (HCd.out _).mono ?_
       rintro e w4 ⟨rfl,e_⟩
       subst e_
       obtain rfl:j=K:=by exact hst.symm
       have hw9:c≠32:=fun e=>by have h1:=Qy.cls0.2 e;rw [HKc.out] at h1;cases h1
       have HA2:=Lib.hid (show (acc++[⟨c :: (s.drop (i+1)).take j,i⟩])++Qy.toks (s.drop (i+1+j)) (i+1+j)=T by have h1:=HAcc.out;rw [HDr.out,toks_word c _ i j hw9 HK.out,List.drop_drop] at h1;rw [List.append_assoc];exact h1)
       have hex:sd.extract i (i+1+j)=bs (c :: (s.drop (i+1)).take j):=by rw [← HSd.out,bs_extract,Qy.word_text HC.out]
       obtain ⟨tx,htx⟩:∃ tx,c :: (s.drop (i+1)).take j=tx:=⟨_,rfl⟩
       rw [htx] at hex HA2
       have kn:=below_new w4 (.cells #[.string (bs tx),.int .i64 (i:Int)] 81)
       have q2:=owns_below HRow.out kn
       have HO:=own_news (Own.new w4 81 [.string (bs tx),.int .i64 (i:Int)])
       have one1:∀ u∈[Value.string (bs tx),Value.int .i64 (i:Int)],u.oneCell'=true:=by simp [Value.oneCell']
       have HKn:=Lib.hid kn
       have hwz:=HB.out.size
       have e1_:(i:Int)≤(i:Int)+1+(j:Int):=by omega
       have e2_:(i:Int)+1+(j:Int)≤(L:Int):=by omega
       clear hw9 htx kn
       obtain ⟨i0_,hi_,hz0,hz1,hz2⟩:=info_parts tok_infoF
       go_wp2_with (at_builtin;refine wpList_pushO _ rfl _ _ 78 rfl 81 i0_ (.agg #[.string ⟨#[]⟩,.int .i64 0]) 2 24 Tryz.underlying78 hi_ hz0 hz1 hz2 rfl (by decide) w.heap.size _ _ _ rfl q2 ⟨w4.heap.size,0,none⟩ 1 [.string (bs tx),.int .i64 (i:Int)] rfl rfl HO one1 ?c4 ?c5 ?c6 ?_)
       case c4=>unfold maxLen;omega
       case c5=>omega
       case c6=>first | omega | (simp;omega)
       intro v' w7 hrow3 hgrow hv'
       rw [show cellsT acc++[.string (bs tx),.int .i64 (i:Int)]=cellsT (acc++[⟨tx,i⟩]) from cellsT_push acc ⟨tx,i⟩] at hrow3
       have HR3:=Lib.hid hrow3
       have HB3:=Lib.hid (below_row HB.out HKn.out HRow.out hgrow)
       clear hrow3 hgrow hv' q2 HO one1 hi_ hz0 hz1 hz2 hex e1_ e2_
       clear i0_
       go_wp2_with fail
       go_roundw
       case rel=>exact ⟨i+1+j,acc++[⟨tx,i⟩],by omega,by go_num,by rw [List.length_append];exact HR3.out,HA2.out,HB3.out,by simp;omega⟩
       case measure=>simp [intOf];omega
      ·have HKd2:=HKd
       have HJ2:=Lib.hid (show j+1≤K by rw [← HK.out];exact tw_more HD.out (by rw [HK.out];exact hj) (by rw [Qy.more_23 (.inr HKc.out)];exact Qy.isD_yes HKd.out))
       go_wp2_with fail
       refine (HCd.out _).mono ?_
       rintro e w4 ⟨rfl,e_⟩
       subst e_
       go_wp2_with fail
       go_roundw
       case rel=>exact ⟨j+1,HJ2.out,by go_num,by first | rfl | trivial⟩
       case measure=>simp [intOf];omega
      ·have HKd2:=HKd
       have hst:K=j:=by rw [← HK.out];exact tw_stop HD.out (by rw [HK.out];exact hj) (by rw [Qy.more_23 (.inr HKc.out)];exact Qy.isD_no (by rw [HKd.out];decide))
       go_wp2_with fail
       refine (HCd.out _).mono ?_
       rintro e w4 ⟨rfl,e_⟩
       subst e_
       obtain rfl:j=K:=by exact hst.symm
       have hw9:c≠32:=fun e=>by have h1:=Qy.cls0.2 e;rw [HKc.out] at h1;cases h1
       have HA2:=Lib.hid (show (acc++[⟨c :: (s.drop (i+1)).take j,i⟩])++Qy.toks (s.drop (i+1+j)) (i+1+j)=T by have h1:=HAcc.out;rw [HDr.out,toks_word c _ i j hw9 HK.out,List.drop_drop] at h1;rw [List.append_assoc];exact h1)
       have hex:sd.extract i (i+1+j)=bs (c :: (s.drop (i+1)).take j):=by rw [← HSd.out,bs_extract,Qy.word_text HC.out]
       obtain ⟨tx,htx⟩:∃ tx,c :: (s.drop (i+1)).take j=tx:=⟨_,rfl⟩
       rw [htx] at hex HA2
       have kn:=below_new w4 (.cells #[.string (bs tx),.int .i64 (i:Int)] 81)
       have q2:=owns_below HRow.out kn
       have HO:=own_news (Own.new w4 81 [.string (bs tx),.int .i64 (i:Int)])
       have one1:∀ u∈[Value.string (bs tx),Value.int .i64 (i:Int)],u.oneCell'=true:=by simp [Value.oneCell']
       have HKn:=Lib.hid kn
       have hwz:=HB.out.size
       have e1_:(i:Int)≤(i:Int)+1+(j:Int):=by omega
       have e2_:(i:Int)+1+(j:Int)≤(L:Int):=by omega
       clear hw9 htx kn
       obtain ⟨i0_,hi_,hz0,hz1,hz2⟩:=info_parts tok_infoF
       go_wp2_with (at_builtin;refine wpList_pushO _ rfl _ _ 78 rfl 81 i0_ (.agg #[.string ⟨#[]⟩,.int .i64 0]) 2 24 Tryz.underlying78 hi_ hz0 hz1 hz2 rfl (by decide) w.heap.size _ _ _ rfl q2 ⟨w4.heap.size,0,none⟩ 1 [.string (bs tx),.int .i64 (i:Int)] rfl rfl HO one1 ?c4 ?c5 ?c6 ?_)
       case c4=>unfold maxLen;omega
       case c5=>omega
       case c6=>first | omega | (simp;omega)
       intro v' w7 hrow3 hgrow hv'
       rw [show cellsT acc++[.string (bs tx),.int .i64 (i:Int)]=cellsT (acc++[⟨tx,i⟩]) from cellsT_push acc ⟨tx,i⟩] at hrow3
       have HR3:=Lib.hid hrow3
       have HB3:=Lib.hid (below_row HB.out HKn.out HRow.out hgrow)
       clear hrow3 hgrow hv' q2 HO one1 hi_ hz0 hz1 hz2 hex e1_ e2_
       clear i0_
       go_wp2_with fail
       go_roundw
       case rel=>exact ⟨i+1+j,acc++[⟨tx,i⟩],by omega,by go_num,by rw [List.length_append];exact HR3.out,HA2.out,HB3.out,by simp;omega⟩
       case measure=>simp [intOf];omega
      ·have HKd2:=HKd
       have hst:K=j:=by rw [← HK.out];exact tw_stop HD.out (by rw [HK.out];exact hj) (by rw [Qy.more_23 (.inr HKc.out)];exact Qy.isD_no (by rw [HKd.out];decide))
       go_wp2_with fail
       refine (HCd.out _).mono ?_
       rintro e w4 ⟨rfl,e_⟩
       subst e_
       obtain rfl:j=K:=by exact hst.symm
       have hw9:c≠32:=fun e=>by have h1:=Qy.cls0.2 e;rw [HKc.out] at h1;cases h1
       have HA2:=Lib.hid (show (acc++[⟨c :: (s.drop (i+1)).take j,i⟩])++Qy.toks (s.drop (i+1+j)) (i+1+j)=T by have h1:=HAcc.out;rw [HDr.out,toks_word c _ i j hw9 HK.out,List.drop_drop] at h1;rw [List.append_assoc];exact h1)
       have hex:sd.extract i (i+1+j)=bs (c :: (s.drop (i+1)).take j):=by rw [← HSd.out,bs_extract,Qy.word_text HC.out]
       obtain ⟨tx,htx⟩:∃ tx,c :: (s.drop (i+1)).take j=tx:=⟨_,rfl⟩
       rw [htx] at hex HA2
       have kn:=below_new w4 (.cells #[.string (bs tx),.int .i64 (i:Int)] 81)
       have q2:=owns_below HRow.out kn
       have HO:=own_news (Own.new w4 81 [.string (bs tx),.int .i64 (i:Int)])
       have one1:∀ u∈[Value.string (bs tx),Value.int .i64 (i:Int)],u.oneCell'=true:=by simp [Value.oneCell']
       have HKn:=Lib.hid kn
       have hwz:=HB.out.size
       have e1_:(i:Int)≤(i:Int)+1+(j:Int):=by omega
       have e2_:(i:Int)+1+(j:Int)≤(L:Int):=by omega
       clear hw9 htx kn
       obtain ⟨i0_,hi_,hz0,hz1,hz2⟩:=info_parts tok_infoF
       go_wp2_with (at_builtin;refine wpList_pushO _ rfl _ _ 78 rfl 81 i0_ (.agg #[.string ⟨#[]⟩,.int .i64 0]) 2 24 Tryz.underlying78 hi_ hz0 hz1 hz2 rfl (by decide) w.heap.size _ _ _ rfl q2 ⟨w4.heap.size,0,none⟩ 1 [.string (bs tx),.int .i64 (i:Int)] rfl rfl HO one1 ?c4 ?c5 ?c6 ?_)
       case c4=>unfold maxLen;omega
       case c5=>omega
       case c6=>first | omega | (simp;omega)
       intro v' w7 hrow3 hgrow hv'
       rw [show cellsT acc++[.string (bs tx),.int .i64 (i:Int)]=cellsT (acc++[⟨tx,i⟩]) from cellsT_push acc ⟨tx,i⟩] at hrow3
       have HR3:=Lib.hid hrow3
       have HB3:=Lib.hid (below_row HB.out HKn.out HRow.out hgrow)
       clear hrow3 hgrow hv' q2 HO one1 hi_ hz0 hz1 hz2 hex e1_ e2_
       clear i0_
       go_wp2_with fail
       go_roundw
       case rel=>exact ⟨i+1+j,acc++[⟨tx,i⟩],by omega,by go_num,by rw [List.length_append];exact HR3.out,HA2.out,HB3.out,by simp;omega⟩
       case measure=>simp [intOf];omega
     ·have j1:¬ (i:Int)+1+(j:Int)<(L:Int):=by omega
      obtain rfl:j=K:=by omega
      have hw9:c≠32:=fun e=>by have h1:=Qy.cls0.2 e;rw [HKc.out] at h1;cases h1
      have HA2:=Lib.hid (show (acc++[⟨c :: (s.drop (i+1)).take j,i⟩])++Qy.toks (s.drop (i+1+j)) (i+1+j)=T by have h1:=HAcc.out;rw [HDr.out,toks_word c _ i j hw9 HK.out,List.drop_drop] at h1;rw [List.append_assoc];exact h1)
      have hex:sd.extract i (i+1+j)=bs (c :: (s.drop (i+1)).take j):=by rw [← HSd.out,bs_extract,Qy.word_text HC.out]
      obtain ⟨tx,htx⟩:∃ tx,c :: (s.drop (i+1)).take j=tx:=⟨_,rfl⟩
      rw [htx] at hex HA2
      have kn:=below_new wr (.cells #[.string (bs tx),.int .i64 (i:Int)] 81)
      have q2:=owns_below HRow.out kn
      have HO:=own_news (Own.new wr 81 [.string (bs tx),.int .i64 (i:Int)])
      have one1:∀ u∈[Value.string (bs tx),Value.int .i64 (i:Int)],u.oneCell'=true:=by simp [Value.oneCell']
      have HKn:=Lib.hid kn
      have hwz:=HB.out.size
      have e1_:(i:Int)≤(i:Int)+1+(j:Int):=by omega
      have e2_:(i:Int)+1+(j:Int)≤(L:Int):=by omega
      clear hw9 htx kn
      obtain ⟨i0_,hi_,hz0,hz1,hz2⟩:=info_parts tok_infoF
      go_wp2_with (at_builtin;refine wpList_pushO _ rfl _ _ 78 rfl 81 i0_ (.agg #[.string ⟨#[]⟩,.int .i64 0]) 2 24 Tryz.underlying78 hi_ hz0 hz1 hz2 rfl (by decide) w.heap.size _ _ _ rfl q2 ⟨wr.heap.size,0,none⟩ 1 [.string (bs tx),.int .i64 (i:Int)] rfl rfl HO one1 ?c4 ?c5 ?c6 ?_)
      case c4=>unfold maxLen;omega
      case c5=>omega
      case c6=>first | omega | (simp;omega)
      intro v' w7 hrow3 hgrow hv'
      rw [show cellsT acc++[.string (bs tx),.int .i64 (i:Int)]=cellsT (acc++[⟨tx,i⟩]) from cellsT_push acc ⟨tx,i⟩] at hrow3
      have HR3:=Lib.hid hrow3
      have HB3:=Lib.hid (below_row HB.out HKn.out HRow.out hgrow)
      clear hrow3 hgrow hv' q2 HO one1 hi_ hz0 hz1 hz2 hex e1_ e2_
      clear i0_
      go_wp2_with fail
      go_roundw
      case rel=>exact ⟨i+1+j,acc++[⟨tx,i⟩],by omega,by go_num,by rw [List.length_append];exact HR3.out,HA2.out,HB3.out,by simp;omega⟩
      case measure=>simp [intOf];omega
   ·go_wp2_with fail
    go_loopw [6] (fun s6 w3=>∃ j:Nat,j≤K∧s6=.int .i64 ((i:Int)+1+(j:Int))∧w3=w2) (fun s6 _=>L - (intOf s6).toNat)
    case atStart=>exact ⟨0,Nat.zero_le _,by go_num,rfl⟩
    case round=>
     obtain ⟨j,hj,rfl,rfl⟩:=hrel
     rcases Nat.lt_or_ge (i+1+j) L with h1 | h1
     ·have j0:(0:Int)≤(i:Int)+1+(j:Int):=by omega
      have j1:(i:Int)+1+(j:Int)<(L:Int):=by omega
      obtain ⟨d,hd⟩:∃ d,s[i+1+j]?=some d:=⟨_,List.getElem?_eq_getElem (by have:=HL.out;omega)⟩
      have hy:∀ hi:i+1+j<sd.size,sd[i+1+j]'hi=d:=by rw [← HSd.out];exact bs_int hd
      have HCd:=Lib.hid fun u=>HCl.out d u
      have HD:Hid ((s.drop (i+1))[j]?=some d):=Lib.hid (by rw [List.getElem?_drop];exact hd)
      obtain ⟨kd,hkd⟩:∃ k,Qy.cls d.toNat=k:=⟨_,rfl⟩
      have HKd:=Lib.hid hkd
      rw [hkd] at HCd
      clear hd hkd
      have hst:K=j:=by rw [← HK.out];exact tw_stop HD.out (by rw [HK.out];exact hj) (Qy.more_04 (.inr HKc.out))
      go_wp2_with fail
      refine (HCd.out _).mono ?_
      rintro e w4 ⟨rfl,e_⟩
      subst e_
      obtain rfl:j=K:=by exact hst.symm
      have hw9:c≠32:=fun e=>by have h1:=Qy.cls0.2 e;rw [HKc.out] at h1;cases h1
      have HA2:=Lib.hid (show (acc++[⟨c :: (s.drop (i+1)).take j,i⟩])++Qy.toks (s.drop (i+1+j)) (i+1+j)=T by have h1:=HAcc.out;rw [HDr.out,toks_word c _ i j hw9 HK.out,List.drop_drop] at h1;rw [List.append_assoc];exact h1)
      have hex:sd.extract i (i+1+j)=bs (c :: (s.drop (i+1)).take j):=by rw [← HSd.out,bs_extract,Qy.word_text HC.out]
      obtain ⟨tx,htx⟩:∃ tx,c :: (s.drop (i+1)).take j=tx:=⟨_,rfl⟩
      rw [htx] at hex HA2
      have kn:=below_new w4 (.cells #[.string (bs tx),.int .i64 (i:Int)] 81)
      have q2:=owns_below HRow.out kn
      have HO:=own_news (Own.new w4 81 [.string (bs tx),.int .i64 (i:Int)])
      have one1:∀ u∈[Value.string (bs tx),Value.int .i64 (i:Int)],u.oneCell'=true:=by simp [Value.oneCell']
      have HKn:=Lib.hid kn
      have hwz:=HB.out.size
      have e1_:(i:Int)≤(i:Int)+1+(j:Int):=by omega
      have e2_:(i:Int)+1+(j:Int)≤(L:Int):=by omega
      clear hw9 htx kn
      obtain ⟨i0_,hi_,hz0,hz1,hz2⟩:=info_parts tok_infoF
      go_wp2_with (at_builtin;refine wpList_pushO _ rfl _ _ 78 rfl 81 i0_ (.agg #[.string ⟨#[]⟩,.int .i64 0]) 2 24 Tryz.underlying78 hi_ hz0 hz1 hz2 rfl (by decide) w.heap.size _ _ _ rfl q2 ⟨w4.heap.size,0,none⟩ 1 [.string (bs tx),.int .i64 (i:Int)] rfl rfl HO one1 ?c4 ?c5 ?c6 ?_)
      case c4=>unfold maxLen;omega
      case c5=>omega
      case c6=>first | omega | (simp;omega)
      intro v' w7 hrow3 hgrow hv'
      rw [show cellsT acc++[.string (bs tx),.int .i64 (i:Int)]=cellsT (acc++[⟨tx,i⟩]) from cellsT_push acc ⟨tx,i⟩] at hrow3
      have HR3:=Lib.hid hrow3
      have HB3:=Lib.hid (below_row HB.out HKn.out HRow.out hgrow)
      clear hrow3 hgrow hv' q2 HO one1 hi_ hz0 hz1 hz2 hex e1_ e2_
      clear i0_
      go_wp2_with fail
      go_roundw
      case rel=>exact ⟨i+1+j,acc++[⟨tx,i⟩],by omega,by go_num,by rw [List.length_append];exact HR3.out,HA2.out,HB3.out,by simp;omega⟩
      case measure=>simp [intOf];omega
     ·have j1:¬ (i:Int)+1+(j:Int)<(L:Int):=by omega
      obtain rfl:j=K:=by omega
      have hw9:c≠32:=fun e=>by have h1:=Qy.cls0.2 e;rw [HKc.out] at h1;cases h1
      have HA2:=Lib.hid (show (acc++[⟨c :: (s.drop (i+1)).take j,i⟩])++Qy.toks (s.drop (i+1+j)) (i+1+j)=T by have h1:=HAcc.out;rw [HDr.out,toks_word c _ i j hw9 HK.out,List.drop_drop] at h1;rw [List.append_assoc];exact h1)
      have hex:sd.extract i (i+1+j)=bs (c :: (s.drop (i+1)).take j):=by rw [← HSd.out,bs_extract,Qy.word_text HC.out]
      obtain ⟨tx,htx⟩:∃ tx,c :: (s.drop (i+1)).take j=tx:=⟨_,rfl⟩
      rw [htx] at hex HA2
      have kn:=below_new wr (.cells #[.string (bs tx),.int .i64 (i:Int)] 81)
      have q2:=owns_below HRow.out kn
      have HO:=own_news (Own.new wr 81 [.string (bs tx),.int .i64 (i:Int)])
      have one1:∀ u∈[Value.string (bs tx),Value.int .i64 (i:Int)],u.oneCell'=true:=by simp [Value.oneCell']
      have HKn:=Lib.hid kn
      have hwz:=HB.out.size
      have e1_:(i:Int)≤(i:Int)+1+(j:Int):=by omega
      have e2_:(i:Int)+1+(j:Int)≤(L:Int):=by omega
      clear hw9 htx kn
      obtain ⟨i0_,hi_,hz0,hz1,hz2⟩:=info_parts tok_infoF
      go_wp2_with (at_builtin;refine wpList_pushO _ rfl _ _ 78 rfl 81 i0_ (.agg #[.string ⟨#[]⟩,.int .i64 0]) 2 24 Tryz.underlying78 hi_ hz0 hz1 hz2 rfl (by decide) w.heap.size _ _ _ rfl q2 ⟨wr.heap.size,0,none⟩ 1 [.string (bs tx),.int .i64 (i:Int)] rfl rfl HO one1 ?c4 ?c5 ?c6 ?_)
      case c4=>unfold maxLen;omega
      case c5=>omega
      case c6=>first | omega | (simp;omega)
      intro v' w7 hrow3 hgrow hv'
      rw [show cellsT acc++[.string (bs tx),.int .i64 (i:Int)]=cellsT (acc++[⟨tx,i⟩]) from cellsT_push acc ⟨tx,i⟩] at hrow3
      have HR3:=Lib.hid hrow3
      have HB3:=Lib.hid (below_row HB.out HKn.out HRow.out hgrow)
      clear hrow3 hgrow hv' q2 HO one1 hi_ hz0 hz1 hz2 hex e1_ e2_
      clear i0_
      go_wp2_with fail
      go_roundw
      case rel=>exact ⟨i+1+j,acc++[⟨tx,i⟩],by omega,by go_num,by rw [List.length_append];exact HR3.out,HA2.out,HB3.out,by simp;omega⟩
      case measure=>simp [intOf];omega
  ·subst heq
   have HDr:Hid (s.drop i=[]):=Lib.hid (List.drop_of_length_le (by rw [HL.out];exact Nat.le_refl _))
   have HA2:=Lib.hid (show acc++[⟨[],i⟩]=T by have h1:=HAcc.out;rw [HDr.out,Qy.toks] at h1;exact h1)
   have kn:=below_new wr (.cells #[.string ⟨#[]⟩,.int .i64 (i:Int)] 81)
   have q2:=owns_below HRow.out kn
   have HO:=own_news (Own.new wr 81 [.string ⟨#[]⟩,.int .i64 (i:Int)])
   have one1:∀ u∈[Value.string ⟨#[]⟩,Value.int .i64 (i:Int)],u.oneCell'=true:=by simp [Value.oneCell']
   have HKn:=Lib.hid kn
   have hwz:=HB.out.size
   clear kn
   obtain ⟨i0_,hi_,hz0,hz1,hz2⟩:=info_parts tok_infoF
   go_wp2_with (at_builtin;refine wpList_pushO _ rfl _ _ 78 rfl 81 i0_ (.agg #[.string ⟨#[]⟩,.int .i64 0]) 2 24 Tryz.underlying78 hi_ hz0 hz1 hz2 rfl (by decide) w.heap.size _ _ _ rfl q2 ⟨wr.heap.size,0,none⟩ 1 [.string ⟨#[]⟩,.int .i64 (i:Int)] rfl rfl HO one1 ?c4 ?c5 ?c6 ?_)
   case c4=>unfold maxLen;omega
   case c5=>omega
   case c6=>simp;omega
   intro v' w7 hrow3 hgrow hv'
   rw [show cellsT acc++[.string ⟨#[]⟩,.int .i64 (i:Int)]=cellsT (acc++[⟨[],i⟩]) from cellsT_push acc ⟨[],i⟩] at hrow3
   have HR3:=Lib.hid hrow3
   have HB3:=Lib.hid (below_row HB.out HKn.out HRow.out hgrow)
   clear hrow3 hgrow hv' q2 HO one1 hi_ hz0 hz1 hz2
   clear i0_
   go_wp2
   go_returns
   have hTl:=HA2.out
   subst hTl
   obtain ⟨A9,c9,hv9⟩:=owns_slice HR3.out
   subst hv9
   exact ⟨HB3.out,A9,c9,by simp,by simpa using HR3.out,by simp;omega⟩
end Go.Proofs.YtmlpibdincfgbaaGreatDoor
