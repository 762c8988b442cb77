/-
  Chapter 03's reference: Gcd. (begun)
-/
import Derived.Test.YtmlpibdincfgbaaDoorE11
import Derived.Test.YtmlpibdincfgbaaDoorT1
import Derived.Test.YtmlpibdincfgbaaDoorReg
namespace Go.Proofs.YtmlpibdincfgbaaDoor
open Go.RowKit
open Dig (val Ws Nz)
end Go.Proofs.YtmlpibdincfgbaaDoor
/-
 (second part)
-/
namespace Go.Proofs.YtmlpibdincfgbaaDoor
open Go.RowKit
open DecM
end Go.Proofs.YtmlpibdincfgbaaDoor
/-
 (second part)
-/
namespace Go.Proofs.YtmlpibdincfgbaaDoor
open Go.RowKit
def in64 (z:Int):Prop:=-9223372036854775808≤z∧z≤9223372036854775807
def around (n m:Int):Int:=(if n<0 then -(n+1) else n) % m
theorem around_neg {n m:Int} (h:n<0):around n m=-((n+1).tmod m):=by
 rw [around,if_pos h,← Int.neg_tmod,Int.tmod_eq_emod_of_nonneg (by omega)]
theorem around_pos {n m:Int} (h:¬ n<0):around n m=n % m:=by rw [around,if_neg h]
theorem around_bd (n:Int) {m:Int} (h:0<m):0≤around n m∧around n m<m:=⟨Int.emod_nonneg _ (by omega),Int.emod_lt_of_pos _ h⟩
set_option maxRecDepth 100000 in
theorem Around_any (n m:Int) (w:World) (n0:-9223372036854775808≤n) (n1:n≤9223372036854775807) (m0:0<m) (m1:m≤9223372036854775807):Calls Tryd.prog 7 #[.int .i64 n,.int .i64 m] w (RetInt w (around n m)):=by
 go_enter Tryd.func7,Tryd.ntmps7
 by_cases h:n<0
 ·have HV:=Lib.hid (around_neg (m:=m) h)
  go_wp2
  go_returns
  exact ⟨by rw [HV.out];simp,by go_grown⟩
 ·have HV:=Lib.hid (around_pos (m:=m) h)
  go_wp2
  go_returns
  exact ⟨by rw [HV.out];simp,by go_grown⟩
structure IntsIs (w:World) (A:Option Addr) (l:List Int) (c:Nat):Prop where
 sl:Sl w w.heap.size A (l.map i64)
 rg:∀ x∈l,-9223372036854775808≤x∧x≤9223372036854775807
 cap:l.length≤c
 mx:c≤maxLen
theorem IntsIs.on {w w':World} {A:Option Addr} {l:List Int} {c:Nat} (h:IntsIs w A l c) (hb:Below w.heap.size w w'):IntsIs w' A l c:=⟨h.sl.on hb,h.rg,h.cap,h.mx⟩
def pick (l:List Int) (i:Nat) (m:Int):Int:=match l[i]? with
 | some x=>around x m
 | none=>0
theorem pick_bd (l:List Int) (i:Nat) {m:Int} (h:0<m):0≤pick l i m∧pick l i m<m:=by
 unfold pick
 split
 ·exact around_bd _ h
 ·omega
set_option maxRecDepth 100000 in
theorem Pick_any {w:World} {A:Option Addr} {l:List Int} {c:Nat} (h:IntsIs w A l c) (i:Nat) (m:Int) (m0:0<m) (m1:m≤9223372036854775807) :
 Calls Tryd.prog 41 #[.slice A l.length c,.int .i64 (i:Int),.int .i64 m] w (RetInt w (pick l i m)):=by
 have h0:¬ (i:Int)<0:=by omega
 go_enter Tryd.func41,Tryd.ntmps41
 rcases Nat.lt_or_ge i l.length with hl | hl
 ·obtain ⟨g,off,hA,hg,hc⟩:=h.sl.at_ (i:=i) (x:=.int .i64 l[i]) (by simp [i64,hl])
  obtain ⟨r0,r1⟩:=h.rg l[i] (List.getElem_mem hl)
  have hp:pick l i m=around l[i] m:=by unfold pick;rw [List.getElem?_eq_getElem hl]
  have HP:=Lib.hid hp
  subst hA
  clear hp
  go_wp2_with fail
  refine (Around_any l[i] m _ r0 r1 m0 m1).mono ?_
  rintro e w1 ⟨rfl,k1⟩
  go_wp2
  go_returns
  exact ⟨by rw [HP.out];rfl,k1⟩
 ·have hp:pick l i m=0:=by unfold pick;rw [List.getElem?_eq_none hl]
  have HP:=Lib.hid hp
  clear hp
  go_wp2
  go_returns
  exact ⟨by rw [HP.out];rfl,by go_grown⟩
end Go.Proofs.YtmlpibdincfgbaaDoor
/-
 (second part)
-/
namespace Go.Proofs.YtmlpibdincfgbaaDoor
open Go.RowKit
open Dig (val Ws Nz)
end Go.Proofs.YtmlpibdincfgbaaDoor
/-
 (second part)
-/
namespace Go.Proofs.YtmlpibdincfgbaaDoor
open Go.RowKit
open Dig (val Ws Nz)
open DecM
structure TxtSt (l:List Nat) (k:Nat) (sd:ByteArray):Prop where
 txt:sd.data.toList=Lib.decDigits (val (l.drop k))
 pos:0<val (l.drop k)
 sz:sd.size≤4 * (l.length - k)
theorem TxtSt.start {l:List Nat} {m:Nat} (hl:m+1=l.length) (hw:Ws l) (hz:Nz l):TxtSt l m ⟨(Lib.decDigits (l[m]'(by omega))).toArray⟩:=by
 have e:l.drop m=[l[m]'(by omega)]:=by
  rw [List.drop_eq_getElem_cons (by omega:m<l.length),List.drop_of_length_le (by omega:l.length≤m+1)]
 have hr:=hw.get (i:=m) (by omega)
 have hne:l[m]'(by omega)≠0:=fun h0=>by
  apply hz
  rw [List.getLast?_eq_getElem?,show l.length - 1=m by omega,List.getElem?_eq_getElem (by omega),h0]
 refine ⟨by rw [e];simp [val],by rw [e];simp [val];omega,?_⟩
 rw [str_size (l:=Lib.decDigits (l[m]'(by omega))) (by simp)]
 have:=dec_length_le (k:=4) (n:=l[m]'(by omega)) (by omega) (by omega)
 omega
theorem TxtSt.next {l:List Nat} {m:Nat} {sd sp:ByteArray} (h:TxtSt l (m+1) sd) (hm:m<l.length) (hw:Ws l) (hp:sp.data.toList=padD 4 l[m]):TxtSt l m (sd++sp):=by
 have e:val (l.drop m)=val (l.drop (m+1)) * 10 ^ 4+l[m]:=by
  rw [List.drop_eq_getElem_cons hm];simp only [val];omega
 have hr:=hw.get (i:=m) hm
 have hpos:=h.pos
 have e2:(sd++sp).data.toList=Lib.decDigits (val (l.drop m)):=by
  rw [str_cat,e,dec_glue 4 _ _ hpos (by omega),h.txt,hp]
 refine ⟨e2,by omega,?_⟩
 rw [str_size (str_cat sd sp),List.length_append,hp,padD_length,← str_size (s:=sd) rfl]
 have:=h.sz
 omega
end Go.Proofs.YtmlpibdincfgbaaDoor
/-
 (second part)
-/
namespace Go.Proofs.YtmlpibdincfgbaaDoor
open Go.RowKit
open Dig (val Ws Nz)
structure NumB (M:Nat):Prop where
 mul:∀ (k:Nat) (c:Int),k≤224→-4≤c→c≤4→(((2 ^ k:Nat):Int) * c).natAbs+2≤M
 few:5 * M<10000 ^ 18
end Go.Proofs.YtmlpibdincfgbaaDoor
