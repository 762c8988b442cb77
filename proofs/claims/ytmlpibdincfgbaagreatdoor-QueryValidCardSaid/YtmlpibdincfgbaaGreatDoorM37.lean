/-
  Package claim: ValidView.
-/
import Derived.Sort.OwnSortedInts
import Derived.Test.YtmlpibdincfgbaaGreatDoorM36
import Derived.Test.YtmlpibdincfgbaaGreatDoorRA
namespace Go.Proofs.YtmlpibdincfgbaaGreatDoor
open Go.RowKit
set_option linter.unusedSimpArgs false
set_option linter.unusedVariables false
theorem compact_lt (zs:List Int) (h:zs.Pairwise (·≤·)):(Lib.compact zs).length≤zs.length∧((Lib.compact zs).length<zs.length↔¬ zs.Nodup):=by
 have hlen:(Lib.compact zs).length=((List.range zs.length).filter (Lib.keeps zs.toArray)).length:=by unfold Lib.compact Lib.compactUpTo;simp
 have hle:((List.range zs.length).filter (Lib.keeps zs.toArray)).length≤zs.length:=by
  have:=List.length_filter_le (Lib.keeps zs.toArray) (List.range zs.length)
  simpa using this
 have hget:∀ j,j<zs.length→zs.toArray[j]! = zs.getD j 0:=fun j hj=>by simp [List.getD,hj]
 have hiff:((List.range zs.length).filter (Lib.keeps zs.toArray)).length<zs.length↔∃ j,j<zs.length∧Lib.keeps zs.toArray j=false:=by
  have h2:=List.length_filter_lt_length_iff_exists (p:=Lib.keeps zs.toArray) (l:=List.range zs.length)
  rw [List.length_range] at h2
  rw [h2]
  constructor
  ·rintro ⟨x,hx,hp⟩
   exact ⟨x,List.mem_range.1 hx,by simpa using hp⟩
  ·rintro ⟨j,hj,hp⟩
   exact ⟨j,List.mem_range.2 hj,by rw [hp];simp⟩
 refine ⟨by omega,?_⟩
 rw [hlen,hiff]
 constructor
 ·rintro ⟨j,hj,hk⟩ hn
  unfold Lib.keeps at hk
  simp only [decide_eq_false_iff_not,not_or,ne_eq,Classical.not_not] at hk
  rw [hget j hj,hget (j - 1) (by omega)] at hk
  have:=(List.pairwise_iff_getElem.1 hn) (j - 1) j (by omega) hj (by omega)
  apply this
  have e1:zs.getD j 0=zs[j]:=by simp [List.getD,hj]
  have e2:zs.getD (j - 1) 0=zs[j - 1]:=by simp [List.getD,show j - 1<zs.length by omega]
  rw [e1,e2] at hk
  exact hk.2.symm
 ·intro hn
  have:∃ i j,∃ (hi:i<zs.length) (hj:j<zs.length),i<j∧zs[i]=zs[j]:=by
   refine Classical.byContradiction fun hc=>hn (List.pairwise_iff_getElem.2 fun i j hi hj hij e=>hc ⟨i,j,hi,hj,hij,e⟩)
  obtain ⟨i,j,hi,hj,hij,e⟩:=this
  refine ⟨j,hj,?_⟩
  unfold Lib.keeps
  simp only [decide_eq_false_iff_not,not_or,ne_eq,Classical.not_not]
  rw [hget j hj,hget (j - 1) (by omega)]
  refine ⟨by omega,?_⟩
  have e1:zs.getD j 0=zs[j]:=by simp [List.getD,hj]
  have e2:zs.getD (j - 1) 0=zs[j - 1]'(by omega):=by simp [List.getD,show j - 1<zs.length by omega]
  rw [e1,e2]
  have h1:=(List.pairwise_iff_getElem.1 h) (j - 1) j (by omega) hj (by omega)
  have h2:zs[i]≤zs[j - 1]'(by omega):=by
   rcases Nat.lt_or_eq_of_le (by omega:i≤j - 1) with h3 | h3
   ·exact (List.pairwise_iff_getElem.1 h) i (j - 1) hi (by omega) h3
   ·subst h3;exact Int.le_refl _
  omega
def srt (l:List Int):List Int:=l.mergeSort fun x y=>decide (x≤y)
theorem srt_perm (l:List Int):(srt l).Perm l:=List.mergeSort_perm l _
theorem srt_len (l:List Int):(srt l).length=l.length:=(srt_perm l).length_eq
theorem srt_sorted (l:List Int):(srt l).Pairwise (·≤·):=by
 have:=List.pairwise_mergeSort (le:=fun x y:Int=>decide (x≤y)) (fun a b c h1 h2=>by simp only [decide_eq_true_eq] at *;omega) (fun a b=>by simp only [Bool.or_eq_true,decide_eq_true_eq];omega) l
 exact this.imp fun h=>by simpa using h
theorem srt_nodup (l:List Int):(srt l).Nodup↔l.Nodup:=(srt_perm l).nodup_iff
set_option maxRecDepth 100000 in
set_option maxHeartbeats 1600000 in
theorem sorted_any (A:Option Addr) (l:List Int) (hl:l.length≤1000000) (c bS:Nat) (S:Nat→Prop) (w:World) (hI:IntsAt w S A l) (hb:bS<w.heap.size) (hc:w.cell? ⟨bS,0,none⟩=some (.slice A l.length c)) :
 Calls Tryz.prog 51 #[.func (.func 95) #[] #[.pointer (some ⟨bS,0,none⟩)]] w fun e w'=>∃ v,e=.returned v∧w'.ownsRow w.heap.size 3 1 v l.length ((srt l).map i64)∧Below w.heap.size w w':=by
 have HC:=Lib.hid (collect_any A l hl c bS S w hI hb hc)
 clear hI hb hc
 go_enter Tryz.func51,Tryz.ntmps51
 go_wp2_with fail
 refine HC.out.mono ?_
 rintro e w1 ⟨v,rfl,hrow,hB⟩
 rcases id hrow.2 with ⟨rfl,h0⟩ | ⟨g,cap,cur,rfl,h2,h3,h4,h5,h6,h7⟩
 ·have hl0:l=[]:=List.eq_nil_of_length_eq_zero h0
  subst hl0
  have HX:=Lib.hid (And.intro hrow hB)
  have HS:=Lib.hid (Tryz.slices_Sort_int_none none 0 w1)
  clear hrow hB h0 hl
  go_wp2_with fail
  refine HS.out.mono ?_
  rintro e w2 ⟨rfl,e_⟩
  subst e_
  go_wp2
  go_returns
  exact ⟨.slice none 0 0,rfl,by rw [show srt []=[] by simp [srt]];exact HX.out.1,HX.out.2⟩
 ·obtain ⟨n,hn⟩:∃ n,l.length=n:=⟨_,rfl⟩
  have hH:Go.Sort.Holds (Value.int .i64) w1 g 0 l.toArray:=holds_of_blockI h3 (by rw [Nat.mul_one] at h7;exact h7)
  have HS:=Lib.hid (Tryz.slices_Sort_int g 0 cap l w1 hH (heap_lt h3) (by omega))
  have HX:=Lib.hid (And.intro hrow (And.intro hB (And.intro h2 (And.intro h3 (And.intro h4 (And.intro h5 h6))))))
  have HN:=Lib.hid hn
  rw [hn] at HS ⊢
  clear hrow hB h2 h3 h4 h5 h6 h7 hH hn hl
  go_wp2_with fail
  refine HS.out.mono ?_
  rintro e w2 ⟨rfl,nn,os,hw2⟩
  have HW2:=Lib.hid hw2
  clear hw2
  go_wp2
  go_returns
  refine ⟨.slice (some ⟨g,0,none⟩) n cap,rfl,?_,?_⟩
  ·have h9:=ownsRow_sortedI (w:=w1) (base:=w.heap.size) (g:=g) (cap:=cap) (n:=nn) (os:=os) (ss:=l) (ts:=srt l) (srt_len l) HX.out.2.2.1 HX.out.2.2.2.1 HX.out.2.2.2.2.1 HX.out.2.2.2.2.2.1 HX.out.2.2.2.2.2.2
   rw [HW2.out]
   have hnn:=HN.out
   subst hnn
   exact h9
  ·rw [HW2.out]
   exact Below.grown HX.out.2.1 (grownBy_sortedI _) HX.out.2.1.size fun j hj=>by cases hj;exact HX.out.2.2.1
set_option maxRecDepth 100000 in
theorem compact_any {u:World} {B n c5:Nat} {A5:Option Addr} {zs:List Int} (hr:u.ownsRow B 3 1 (.slice A5 n c5) n (zs.map i64)) (hn:n≤1000000):Calls Tryz.prog 54 #[.slice A5 n c5] u fun e w'=>e=.returned (.slice A5 (Lib.compact zs).length c5)∧Below B u w':=by
 have hl:zs.length=n:=by have:=hr.1;simpa using this
 subst hl
 rcases id hr.2 with ⟨e,h0⟩ | ⟨g,cap,cur,e,h2,h3,h4,h5,h6,h7⟩
 ·have hz:zs=[]:=List.eq_nil_of_length_eq_zero h0
  subst hz
  exact (Tryz.slices_Compact_int_empty A5 c5 u).mono fun e w' ⟨h1,h2⟩=>⟨h1,h2▸Below.refl _ _⟩
 ·cases e
  have hH:Go.Sort.Holds (Value.int .i64) u g 0 zs.toArray:=holds_of_blockI h3 (by rw [Nat.mul_one] at h7;exact h7)
  exact (Tryz.slices_Compact_int g 0 c5 zs u hH (by omega) h4).mono fun e w' ⟨h1,q,hw⟩=>⟨h1,hw▸Lib.below_putRow (Below.refl B u) h2⟩
set_option maxRecDepth 100000 in
theorem inC_any (n lo hi:Int) (w:World):Calls Tryz.prog 53 #[.int .i64 n,.int .i64 lo,.int .i64 hi] w fun e w'=>e=.returned (.bool (decide (lo≤n)&&decide (n≤hi)))∧w'=w:=by
 go_enter Tryz.func53,Tryz.ntmps53
 by_cases h1:lo≤n
 ·by_cases h2:n≤hi
  ·go_wp2
   go_returns
   exact ⟨by simp [h1,h2],rfl⟩
  ·go_wp2
   go_returns
   exact ⟨by simp [h1,h2],rfl⟩
 ·go_wp2
  go_returns
  exact ⟨by rw [show decide (lo≤n)=false by simp;omega];rfl,rfl⟩
def noOff (n:Int):Bool:=!(decide (0≤n)&&decide (n≤63))
set_option maxRecDepth 100000 in
theorem isOffice_any (n:Int) (w:World):Calls Tryz.prog 57 #[.int .i64 n] w fun e w'=>e=.returned (.bool (decide (0≤n)&&decide (n≤63)))∧w'=w:=by
 obtain ⟨b,hb⟩:∃ b,(decide (0≤n)&&decide (n≤63))=b:=⟨_,rfl⟩
 have HC:=Lib.hid fun u=>inC_any n 0 63 u
 rw [hb] at HC ⊢
 clear hb
 go_enter Tryz.func57,Tryz.ntmps57
 go_wp2_with fail
 refine (HC.out _).mono ?_
 rintro e w1 ⟨rfl,e_⟩
 subst e_
 go_wp2
 go_returns
 exact ⟨rfl,rfl⟩
set_option maxRecDepth 100000 in
theorem noOff_any (n:Int) (w:World):Calls Tryz.prog 56 #[.int .i64 n] w (RetB w (noOff n)):=by
 unfold noOff
 obtain ⟨b,hb⟩:∃ b,(decide (0≤n)&&decide (n≤63))=b:=⟨_,rfl⟩
 have HC:=Lib.hid fun u=>isOffice_any n u
 rw [hb] at HC ⊢
 clear hb
 go_enter Tryz.func56,Tryz.ntmps56
 go_wp2_with fail
 refine (HC.out _).mono ?_
 rintro e w1 ⟨rfl,e_⟩
 subst e_
 cases b
 ·go_wp2
  go_returns
  exact ⟨rfl,Below.refl _ _⟩
 ·go_wp2
  go_returns
  exact ⟨rfl,Below.refl _ _⟩
theorem anyI_snoc {l:List Int} {i:Nat} {z:Int} {p:Int→Bool} (h:l[i]? = some z):(l.take (i+1)).any p=((l.take i).any p||p z):=by
 rw [List.take_add_one,h]
 simp
set_option maxRecDepth 100000 in
set_option maxHeartbeats 1600000 in
theorem indexI_any {l:List Int} (hl:l.length≤1000000) {w:World} {S:Nat→Prop} {A:Option Addr} {c:Nat} (hI:IntsAt w S A l) :
 Calls Tryz.prog 96 #[.slice A l.length c,.func (.func 56) #[] #[]] w fun e w'=>∃ i:Int,e=.returned (.int .i64 i)∧decide (0≤i)=l.any noOff∧(-1≤i∧i≤1000000)∧Below w.heap.size w w':=by
 have HI:=Lib.hid hI
 obtain ⟨m,hm⟩:∃ m,l.length=m:=⟨_,rfl⟩
 have HM:=Lib.hid hm
 rw [hm] at hl ⊢
 clear hI hm
 go_enter Tryz.func96,Tryz.ntmps96
 go_wp2_with fail
 go_loopw [8] (fun s wr=>∃ i:Nat,i≤m∧s=.int .i64 (i:Int)∧(l.take i).any noOff=false∧Below w.heap.size w wr) (fun s _=>m - (intOf s).toNat)
 case atStart=>exact ⟨0,Nat.zero_le _,rfl,by simp,Below.refl _ _⟩
 case round=>
  obtain ⟨i,hi,rfl,hall,hB⟩:=hrel
  have HB:=Lib.hid hB
  have HALL:=Lib.hid hall
  clear hB hall
  rcases Nat.lt_or_eq_of_le hi with hlt | heq
  ·have i0:(0:Int)≤(i:Int):=by omega
   have i1:(i:Int)<(m:Int):=by omega
   obtain ⟨z,hz⟩:∃ z,l[i]? = some z:=⟨_,List.getElem?_eq_getElem (by have:=HM.out;omega)⟩
   obtain ⟨g,off,rfl,hg,hcc⟩:∃ g off,A=some ⟨g,off,none⟩∧g<w.heap.size∧∀ (i:Nat) (z:Int),l[i]? = some z→w.cell? ⟨g,off+i,none⟩=some (.int .i64 z):=by
    rcases HI.out with h | ⟨g,off,h1,_,h3,h4⟩
    ·rw [h] at hz;cases hz
    ·exact ⟨g,off,h1,h3,h4⟩
   have x1:=(HB.out.cell (p:=⟨g,off+i,none⟩) hg).trans (hcc i z hz)
   obtain ⟨sb,hsb⟩:∃ sb,noOff z=sb:=⟨_,rfl⟩
   have HC:=Lib.hid (noOff_any z wr)
   rw [hsb] at HC
   have HZ:=Lib.hid (And.intro hz hsb)
   clear hcc hz hsb hg
   go_wp2_with fail
   refine HC.out.mono ?_
   rintro e w7 ⟨rfl,k7⟩
   have HB7:=Lib.hid (Below.call HB.out k7)
   clear k7 x1
   cases sb
   ·have HF2:Hid ((l.take (i+1)).any noOff=false):=Lib.hid (by rw [anyI_snoc HZ.out.1,HALL.out,HZ.out.2];rfl)
    go_wp2_with fail
    go_roundw
    case rel=>exact ⟨i+1,by omega,by go_num,HF2.out,HB7.out⟩
    case measure=>simp [intOf];omega
   ·go_wp2
    go_returns
    exact ⟨_,rfl,by rw [List.any_eq_true.2 ⟨z,List.mem_of_getElem? HZ.out.1,HZ.out.2⟩];simp,⟨by omega,by omega⟩,HB7.out⟩
  ·subst heq
   have HF2:Hid (l.any noOff=false):=Lib.hid (by have h9:=HALL.out;rwa [List.take_of_length_le (by have:=HM.out;omega)] at h9)
   go_wp2
   go_returns
   exact ⟨_,rfl,by rw [HF2.out];simp,⟨by omega,by omega⟩,HB.out⟩
set_option maxRecDepth 100000 in
theorem containsI_any {l:List Int} (hl:l.length≤1000000) {w:World} {S:Nat→Prop} {A:Option Addr} {c:Nat} (hI:IntsAt w S A l) :
 Calls Tryz.prog 55 #[.slice A l.length c,.func (.func 56) #[] #[]] w (RetB w (l.any noOff)):=by
 have HC:=Lib.hid (indexI_any hl hI (c:=c))
 obtain ⟨E,hE⟩:∃ E,l.any noOff=E:=⟨_,rfl⟩
 rw [hE] at HC ⊢
 obtain ⟨m,hm⟩:∃ m,l.length=m:=⟨_,rfl⟩
 rw [hm] at HC ⊢
 clear hI hm hE hl
 go_enter Tryz.func55,Tryz.ntmps55
 go_wp2_with fail
 refine HC.out.mono ?_
 rintro e w1 ⟨i,rfl,hi,⟨hi0,hi1⟩,k1⟩
 have HF:=Lib.hid k1
 have HI:=Lib.hid hi
 clear k1 hi
 by_cases h0:0≤i
 ·go_wp2
  go_returns
  exact ⟨by rw [← HI.out];simp [h0],HF.out⟩
 ·go_wp2
  go_returns
  exact ⟨by rw [← HI.out];simp [h0],HF.out⟩
def JV (w:World) (cs:List Value) (rv:Value) (n:Nat) (xs:List Value) (B:Nat) (D:Nat→Prop) (wz:World):Prop:=Below w.heap.size w wz∧Own wz w.heap.size 34 cs∧(¬ D 8→wz.ownsRow B 3 1 rv n xs)
theorem JV.pure {w:World} {cs:List Value} {rv:Value} {n B i:Nat} {xs:List Value} {D:Nat→Prop} {wz:World} (h:JV w cs rv n xs B D wz) (_:i≠8):JV w cs rv n xs B (fun k=>D k∨k=i) wz:=⟨h.1,h.2.1,fun hn=>h.2.2 fun hd=>hn (.inl hd)⟩
theorem JV.skip {w:World} {cs:List Value} {rv:Value} {n B:Nat} {xs:List Value} {D:Nat→Prop} {wz:World} (h:JV w cs rv n xs B D wz):JV w cs rv n xs B (fun k=>D k∨k=8) wz:=⟨h.1,h.2.1,fun hn=>absurd (.inr rfl) hn⟩
theorem JV.cmp {w:World} {cs:List Value} {rv:Value} {n B:Nat} {xs:List Value} {D:Nat→Prop} {wz wy:World} (h1:Below w.heap.size w wz) (h2:Own wz w.heap.size 34 cs) (k:Below B wz wy) (hB:w.heap.size<B):JV w cs rv n xs B (fun k=>D k∨k=8) wy:=
 ⟨h1.trans (k.mono (Nat.le_of_lt hB)),(k.block _ hB).trans h2,fun hn=>absurd (.inr rfl) hn⟩
theorem UpE15 {a0 a1 a2 a3 a4 a5 a6 a7 a8 a9 a10 a11 a12 a13 a14:Value} {D:Nat→Prop} {w w':World}:UpD [Spec.eq a0,Spec.eq a1,Spec.eq a2,Spec.eq a3,Spec.eq a4,Spec.eq a5,Spec.eq a6,Spec.eq a7,Spec.eq a8,Spec.eq a9,Spec.eq a10,Spec.eq a11,Spec.eq a12,Spec.eq a13,Spec.eq a14] D w w':=by
 intro k s _ hs
 match k,hs with
 | 0,hs=>cases hs;exact fun _ h=>h
 | 1,hs=>cases hs;exact fun _ h=>h
 | 2,hs=>cases hs;exact fun _ h=>h
 | 3,hs=>cases hs;exact fun _ h=>h
 | 4,hs=>cases hs;exact fun _ h=>h
 | 5,hs=>cases hs;exact fun _ h=>h
 | 6,hs=>cases hs;exact fun _ h=>h
 | 7,hs=>cases hs;exact fun _ h=>h
 | 8,hs=>cases hs;exact fun _ h=>h
 | 9,hs=>cases hs;exact fun _ h=>h
 | 10,hs=>cases hs;exact fun _ h=>h
 | 11,hs=>cases hs;exact fun _ h=>h
 | 12,hs=>cases hs;exact fun _ h=>h
 | 13,hs=>cases hs;exact fun _ h=>h
 | 14,hs=>cases hs;exact fun _ h=>h
 | k+15,hs=>cases hs
end Go.Proofs.YtmlpibdincfgbaaGreatDoor
