/-
  Chapter 03's reference: Gcd. (begun)
-/
import Derived.Test.YtmlpibdincfgbaaGreatDoorE11
import Derived.Test.YtmlpibdincfgbaaGreatDoorT1
import Derived.Test.YtmlpibdincfgbaaGreatDoorReg
namespace Go.Proofs.YtmlpibdincfgbaaGreatDoor
open Go.RowKit
open Dig (val Ws Nz)
end Go.Proofs.YtmlpibdincfgbaaGreatDoor
/-
 (second part)
-/
namespace Go.Proofs.YtmlpibdincfgbaaGreatDoor
open Go.RowKit
open DecM
theorem digit_at (d:Nat) (h:d<10):((⟨#[48,49,50,51,52,53,54,55,56,57]⟩:ByteArray).extract d (d+1))=⟨#[UInt8.ofNat (48+d)]⟩:=by
 rcases (by omega:d=0∨d=1∨d=2∨d=3∨d=4∨d=5∨d=6∨d=7∨d=8∨d=9) with rfl | rfl | rfl | rfl | rfl | rfl | rfl | rfl | rfl | rfl <;> rfl
def DecSt (m j:Nat) (sd:ByteArray):Prop:=(if j=0 then [] else Lib.decDigits j)++sd.data.toList=Lib.decDigits m
theorem DecSt.start {m:Nat} (h:0<m):DecSt m m ⟨#[]⟩:=by unfold DecSt;rw [if_neg (by omega)];simp
theorem DecSt.done {m:Nat} {sd:ByteArray} (h:DecSt m 0 sd):sd.data.toList=Lib.decDigits m:=h
theorem DecSt.next {m j:Nat} {sd:ByteArray} (h:DecSt m j sd) (hj:0<j):DecSt m (j / 10) (⟨#[UInt8.ofNat (48+j % 10)]⟩++sd):=by
 have e1:Lib.decDigits j++sd.data.toList=Lib.decDigits m:=by
  unfold DecSt at h
  rwa [if_neg (by omega)] at h
 have e2:(⟨#[UInt8.ofNat (48+j % 10)]⟩++sd:ByteArray).data.toList=UInt8.ofNat (48+j % 10) :: sd.data.toList:=str_cat _ _
 unfold DecSt
 rw [e2,← e1]
 by_cases h10:j<10
 ·rw [if_pos (by omega),dec_small h10,Nat.mod_eq_of_lt h10];rfl
 ·rw [if_neg (by omega),dec_big (by omega:10≤j),List.append_assoc];rfl
theorem DecSt.size {m j:Nat} {sd:ByteArray} (h:DecSt m j sd) (hm:m≤9223372036854775808):sd.size≤19:=by
 have h1:=dec_length_le (k:=19) (n:=m) (by omega) (by omega)
 have h2:=congrArg List.length h
 rw [List.length_append] at h2
 rw [str_size (s:=sd) rfl]
 omega
theorem DecSt.pos {m j:Nat} {sd:ByteArray} (h:DecSt m j sd) (hj:0<j) {a b:Nat} (ha:a=j % 10) (hb:b=j % 10+1) :
 DecSt m (j / 10) ((⟨#[48,49,50,51,52,53,54,55,56,57]⟩:ByteArray).extract a b++sd):=by
 subst ha hb
 rw [digit_at _ (by omega)]
 exact h.next hj
theorem DecSt.text {m:Nat} {sd:ByteArray} (h:DecSt m 0 sd):sd=⟨(Lib.decDigits m).toArray⟩:=str_eq h.done
theorem itoa_neg {m:Nat} (h:0<m):Lib.itoa (-(m:Int))=45 :: Lib.decDigits m:=by
 unfold Lib.itoa
 rw [if_pos (by omega),show (-(m:Int)).natAbs=m by omega]
theorem itoa_nat (m:Nat):Lib.itoa (m:Int)=Lib.decDigits m:=by
 unfold Lib.itoa
 rw [if_neg (by omega),Int.toNat_natCast]
set_option maxRecDepth 100000 in
set_option maxHeartbeats 800000 in
theorem Decimal_any (n:Int) (w:World) (n0:-9223372036854775808≤n) (n1:n≤9223372036854775807):Calls Tryz.prog 29 #[.int .i64 n] w (TxtPost w (Lib.itoa n)):=by
 go_enter Tryz.func29,Tryz.ntmps29
 rcases Int.lt_trichotomy n 0 with h | h | h
 ·obtain ⟨m,rfl⟩:∃ m:Nat,n=-(m:Int):=⟨n.natAbs,by omega⟩
  have hm:0<m:=by omega
  have hmx:m≤9223372036854775808:=by omega
  have hst:=Lib.hid (DecSt.start hm)
  go_wp2_with fail
  go_loop [4,5] (fun s4 s5=>∃ (j:Nat) (sd:ByteArray),j≤m∧s5=.int .i64 (-(j:Int))∧s4=.string sd∧Hid (DecSt m j sd)) (fun _ s5=>(intOf s5).natAbs)
  case atStart=>exact ⟨m,_,Nat.le_refl _,rfl,rfl,hst⟩
  case round=>
   obtain ⟨j,sd,hj,rfl,rfl,hd⟩:=hrel
   have hsz:=hd.out.size hmx
   rcases Nat.eq_zero_or_pos j with h0 | h0
   ·subst h0
    have hf:Lib.itoa (-(m:Int))=45 :: sd.data.toList:=by rw [itoa_neg hm,hd.out.done]
    have HF:=Lib.hid hf
    clear hf
    go_wp2
    go_returns
    refine ⟨?_,by go_grown⟩
    rw [HF.out]
    exact congrArg (fun s=>Ending.returned (.string s)) (str_eq (str_cat _ _))
   ·rcases Nat.eq_zero_or_pos (j % 10) with hz | hz
    ·have hz2:(j:Int) % 10=0:=by omega
     have HN:=Lib.hid (hd.out.pos h0 (a:=0) (b:=1) hz.symm (by omega))
     clear hz
     go_wp2
     exact ⟨⟨j / 10,_,by omega,by go_num,rfl,HN⟩,by simp [intOf];omega⟩
    ·have hz2:-((j:Int) % 10)<0:=by omega
     have HN:=Lib.hid (hd.out.pos h0 (a:=j % 10) (b:=j % 10+1) rfl rfl)
     go_wp2
     exact ⟨⟨j / 10,_,by omega,by go_num,rfl,HN⟩,by simp [intOf];omega⟩
 ·subst h
  go_wp2
  go_returns
  exact ⟨by rw [show (0:Int)=((0:Nat):Int) from rfl,itoa_nat,dec_zero];rfl,by go_grown⟩
 ·obtain ⟨m,rfl⟩:∃ m:Nat,n=(m:Int):=⟨n.natAbs,by omega⟩
  have hm:0<m:=by omega
  have hmx:m≤9223372036854775808:=by omega
  have hst:=Lib.hid (DecSt.start hm)
  go_wp2_with fail
  go_loop [4,5] (fun s4 s5=>∃ (j:Nat) (sd:ByteArray),j≤m∧s5=.int .i64 (j:Int)∧s4=.string sd∧Hid (DecSt m j sd)) (fun _ s5=>(intOf s5).natAbs)
  case atStart=>exact ⟨m,_,Nat.le_refl _,rfl,rfl,hst⟩
  case round=>
   obtain ⟨j,sd,hj,rfl,rfl,hd⟩:=hrel
   have hsz:=hd.out.size hmx
   rcases Nat.eq_zero_or_pos j with h0 | h0
   ·subst h0
    have hf:sd=⟨(Lib.itoa (m:Int)).toArray⟩:=by rw [itoa_nat];exact hd.out.text
    have HF:=Lib.hid hf
    clear hf
    go_wp2
    go_returns
    exact ⟨congrArg (fun s=>Ending.returned (.string s)) HF.out,by go_grown⟩
   ·have hz2:¬ ((j:Int) % 10)<0:=by omega
    have HN:=Lib.hid (hd.out.pos h0 (a:=j % 10) (b:=j % 10+1) rfl rfl)
    go_wp2
    exact ⟨⟨j / 10,_,by omega,by go_num,rfl,HN⟩,by simp [intOf];omega⟩
end Go.Proofs.YtmlpibdincfgbaaGreatDoor
/-
 (second part)
-/
namespace Go.Proofs.YtmlpibdincfgbaaGreatDoor
open Go.RowKit
def in64 (z:Int):Prop:=-9223372036854775808≤z∧z≤9223372036854775807
def around (n m:Int):Int:=(if n<0 then -(n+1) else n) % m
theorem around_neg {n m:Int} (h:n<0):around n m=-((n+1).tmod m):=by
 rw [around,if_pos h,← Int.neg_tmod,Int.tmod_eq_emod_of_nonneg (by omega)]
theorem around_pos {n m:Int} (h:¬ n<0):around n m=n % m:=by rw [around,if_neg h]
theorem around_bd (n:Int) {m:Int} (h:0<m):0≤around n m∧around n m<m:=⟨Int.emod_nonneg _ (by omega),Int.emod_lt_of_pos _ h⟩
set_option maxRecDepth 100000 in
theorem Around_any (n m:Int) (w:World) (n0:-9223372036854775808≤n) (n1:n≤9223372036854775807) (m0:0<m) (m1:m≤9223372036854775807):Calls Tryz.prog 10 #[.int .i64 n,.int .i64 m] w (RetInt w (around n m)):=by
 go_enter Tryz.func10,Tryz.ntmps10
 by_cases h:n<0
 ·have HV:=Lib.hid (around_neg (m:=m) h)
  go_wp2
  go_returns
  exact ⟨by rw [HV.out];simp,by go_grown⟩
 ·have HV:=Lib.hid (around_pos (m:=m) h)
  go_wp2
  go_returns
  exact ⟨by rw [HV.out];simp,by go_grown⟩
structure IntsIs (w:World) (A:Option Addr) (l:List Int) (c:Nat):Prop where
 sl:Sl w w.heap.size A (l.map i64)
 rg:∀ x∈l,-9223372036854775808≤x∧x≤9223372036854775807
 cap:l.length≤c
 mx:c≤maxLen
theorem IntsIs.on {w w':World} {A:Option Addr} {l:List Int} {c:Nat} (h:IntsIs w A l c) (hb:Below w.heap.size w w'):IntsIs w' A l c:=⟨h.sl.on hb,h.rg,h.cap,h.mx⟩
def pick (l:List Int) (i:Nat) (m:Int):Int:=match l[i]? with
 | some x=>around x m
 | none=>0
theorem pick_bd (l:List Int) (i:Nat) {m:Int} (h:0<m):0≤pick l i m∧pick l i m<m:=by
 unfold pick
 split
 ·exact around_bd _ h
 ·omega
set_option maxRecDepth 100000 in
theorem Pick_any {w:World} {A:Option Addr} {l:List Int} {c:Nat} (h:IntsIs w A l c) (i:Nat) (m:Int) (m0:0<m) (m1:m≤9223372036854775807) :
 Calls Tryz.prog 32 #[.slice A l.length c,.int .i64 (i:Int),.int .i64 m] w (RetInt w (pick l i m)):=by
 have h0:¬ (i:Int)<0:=by omega
 go_enter Tryz.func32,Tryz.ntmps32
 rcases Nat.lt_or_ge i l.length with hl | hl
 ·obtain ⟨g,off,hA,hg,hc⟩:=h.sl.at_ (i:=i) (x:=.int .i64 l[i]) (by simp [i64,hl])
  obtain ⟨r0,r1⟩:=h.rg l[i] (List.getElem_mem hl)
  have hp:pick l i m=around l[i] m:=by unfold pick;rw [List.getElem?_eq_getElem hl]
  have HP:=Lib.hid hp
  subst hA
  clear hp
  go_wp2_with fail
  refine (Around_any l[i] m _ r0 r1 m0 m1).mono ?_
  rintro e w1 ⟨rfl,k1⟩
  go_wp2
  go_returns
  exact ⟨by rw [HP.out];rfl,k1⟩
 ·have hp:pick l i m=0:=by unfold pick;rw [List.getElem?_eq_none hl]
  have HP:=Lib.hid hp
  clear hp
  go_wp2
  go_returns
  exact ⟨by rw [HP.out];rfl,by go_grown⟩
end Go.Proofs.YtmlpibdincfgbaaGreatDoor
/-
 (second part)
-/
namespace Go.Proofs.YtmlpibdincfgbaaGreatDoor
open Go.RowKit
open Dig (val Ws Nz)
end Go.Proofs.YtmlpibdincfgbaaGreatDoor
/-
 (second part)
-/
namespace Go.Proofs.YtmlpibdincfgbaaGreatDoor
open Go.RowKit
open Dig (val Ws Nz)
open DecM
structure TxtSt (l:List Nat) (k:Nat) (sd:ByteArray):Prop where
 txt:sd.data.toList=Lib.decDigits (val (l.drop k))
 pos:0<val (l.drop k)
 sz:sd.size≤4 * (l.length - k)
theorem TxtSt.start {l:List Nat} {m:Nat} (hl:m+1=l.length) (hw:Ws l) (hz:Nz l):TxtSt l m ⟨(Lib.decDigits (l[m]'(by omega))).toArray⟩:=by
 have e:l.drop m=[l[m]'(by omega)]:=by
  rw [List.drop_eq_getElem_cons (by omega:m<l.length),List.drop_of_length_le (by omega:l.length≤m+1)]
 have hr:=hw.get (i:=m) (by omega)
 have hne:l[m]'(by omega)≠0:=fun h0=>by
  apply hz
  rw [List.getLast?_eq_getElem?,show l.length - 1=m by omega,List.getElem?_eq_getElem (by omega),h0]
 refine ⟨by rw [e];simp [val],by rw [e];simp [val];omega,?_⟩
 rw [str_size (l:=Lib.decDigits (l[m]'(by omega))) (by simp)]
 have:=dec_length_le (k:=4) (n:=l[m]'(by omega)) (by omega) (by omega)
 omega
theorem TxtSt.next {l:List Nat} {m:Nat} {sd sp:ByteArray} (h:TxtSt l (m+1) sd) (hm:m<l.length) (hw:Ws l) (hp:sp.data.toList=padD 4 l[m]):TxtSt l m (sd++sp):=by
 have e:val (l.drop m)=val (l.drop (m+1)) * 10 ^ 4+l[m]:=by
  rw [List.drop_eq_getElem_cons hm];simp only [val];omega
 have hr:=hw.get (i:=m) hm
 have hpos:=h.pos
 have e2:(sd++sp).data.toList=Lib.decDigits (val (l.drop m)):=by
  rw [str_cat,e,dec_glue 4 _ _ hpos (by omega),h.txt,hp]
 refine ⟨e2,by omega,?_⟩
 rw [str_size (str_cat sd sp),List.length_append,hp,padD_length,← str_size (s:=sd) rfl]
 have:=h.sz
 omega
end Go.Proofs.YtmlpibdincfgbaaGreatDoor
/-
 (second part)
-/
namespace Go.Proofs.YtmlpibdincfgbaaGreatDoor
open Go.RowKit
open Dig (val Ws Nz)
structure NumB (M:Nat):Prop where
 mul:∀ (k:Nat) (c:Int),k≤224→-4≤c→c≤4→(((2 ^ k:Nat):Int) * c).natAbs+2≤M
 few:5 * M<10000 ^ 18
end Go.Proofs.YtmlpibdincfgbaaGreatDoor
