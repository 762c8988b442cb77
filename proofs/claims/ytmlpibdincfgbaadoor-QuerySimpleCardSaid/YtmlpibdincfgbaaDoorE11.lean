/-
  What an integer of chapter 03's reference is: digits in base 10000; normal, at.
-/
import Derived.Test.YtmlpibdincfgbaaDoorT1
import Derived.Test.YtmlpibdincfgbaaDoorReg
import Derived.Deep.Upon
import Derived.Test.YtmlpibdincfgbaaDoorW11
namespace Go.Proofs.YtmlpibdincfgbaaDoor
open Go.RowKit
open Dig (val Ws Nz)
def d64 (x:Nat):Value:=.int .i64 (x:Int)
structure DigIs (w:World) (A:Option Addr) (l:List Nat) (c:Nat):Prop where
 sl:Sl w w.heap.size A (l.map d64)
 ws:Ws l
 cap:l.length≤c
 mx:c≤maxLen
theorem DigIs.on {w w':World} {A:Option Addr} {l:List Nat} {c:Nat} (h:DigIs w A l c) (hb:Below w.heap.size w w'):DigIs w' A l c:=⟨h.sl.on hb,h.ws,h.cap,h.mx⟩
theorem DigIs.nil (w:World):DigIs w none [] 0:=⟨Sl.nil_,Ws.nil,by simp,by unfold maxLen;omega⟩
theorem DigIs.take {w:World} {A:Option Addr} {l:List Nat} {c:Nat} (h:DigIs w A l c) (k:Nat):DigIs w A (l.take k) c:=
 ⟨by rw [List.map_take];exact h.sl.take k,h.ws.take k,by rw [List.length_take];have:=h.cap;omega,h.mx⟩
def many:Nat:=65536
def Fr (B:Nat) (A:Option Addr):Prop:=∀ ad,A=some ad→B≤ad.block
def RetD (w:World) (P:List Nat→Prop) (e:Ending) (w':World):Prop:=∃ A c l,e=.returned (.slice A l.length c)∧Below w.heap.size w w'∧DigIs w' A l c∧P l∧Fr w.heap.size A
end Go.Proofs.YtmlpibdincfgbaaDoor
/-
 (second part)
-/
namespace Go.Proofs.YtmlpibdincfgbaaDoor
open Go.RowKit
open Dig (val Ws Nz)
theorem owns_dig {w:World} {base:Nat} {t:TypeId} {v:Value} {n:Nat} {l:List Nat} (h:w.ownsRow base t 1 v n (l.map d64)) (hw:Ws l):∃ A c,v=.slice A l.length c∧DigIs w A l c∧Fr base A:=by
 have hn:l.length=n:=by have:=h.1;simpa using this
 rcases h.2 with ⟨rfl,h0⟩ | ⟨g,cap,cur,rfl,hb,hg,h1,h2,h3,h4⟩
 ·have:l=[]:=List.eq_nil_of_length_eq_zero (by omega)
  subst this
  exact ⟨none,0,rfl,DigIs.nil w,fun _ h=>by cases h⟩
 ·subst hn
  refine ⟨some ⟨g,0,none⟩,cap,rfl,⟨fun _=>⟨g,0,rfl,(Array.getElem?_eq_some_iff.1 hg).1,fun i x hx=>?_⟩,hw,h1,h2⟩,fun ad had=>by injection had with had;subst had;exact hb⟩
  have hlt:i<l.length:=by
   rcases Nat.lt_or_ge i l.length with h | h
   ·exact h
   ·rw [List.getElem?_eq_none (by simpa using h)] at hx;cases hx
  rw [Nat.zero_add,h.cellAt i (by omega),hx]
theorem map_snoc (l:List Nat) (x:Nat):l.map d64++[.int .i64 (x:Int)]=(l++[x]).map d64:=by simp [d64]
end Go.Proofs.YtmlpibdincfgbaaDoor
/-
 (second part)
-/
namespace Go.Proofs.YtmlpibdincfgbaaDoor
open Go.RowKit
open Dig (val Ws Nz)
structure PlusSt (w:World) (a b:List Nat) (k c:Nat) (ds:List Nat) (v:Value) (wr:World):Prop where
 own:wr.ownsRow w.heap.size 3 1 v k (ds.map d64)
 ws:Ws ds
 c1:c≤1
 eq:val ds+c * 10000 ^ k=val (a.take k)+val (b.take k)
 cz:c=0∨k≤max a.length b.length
 le:k≤max a.length b.length+1
 bel:Below w.heap.size w wr
theorem PlusSt.len {w:World} {a b:List Nat} {k c:Nat} {ds:List Nat} {v:Value} {wr:World} (h:PlusSt w a b k c ds v wr):ds.length=k:=by
 have:=h.own.1;simpa using this
theorem PlusSt.start (w:World) (a b:List Nat):PlusSt w a b 0 0 [] (.slice none 0 0) w:=
 ⟨World.ownsRow_nil _ _ _ _,Ws.nil,by omega,by simp [val],.inl rfl,by omega,Below.refl _ _⟩
theorem PlusSt.step {w:World} {a b:List Nat} {k c:Nat} {ds:List Nat} {v:Value} {wr:World} (h:PlusSt w a b k c ds v wr) (ha:Ws a) (hb:Ws b) (hk:k<a.length∨k<b.length∨0<c)
 {v':Value} {w':World} {y:Int} (hy:y=(((c+(a.getD k 0+b.getD k 0)) % 10000:Nat):Int)) (hown:w'.ownsRow w.heap.size 3 1 v' (k+1) (ds.map d64++[.int .i64 y])) (hbel:Below w.heap.size w w') :
 PlusSt w a b (k+1) ((c+(a.getD k 0+b.getD k 0)) / 10000) (ds++[(c+(a.getD k 0+b.getD k 0)) % 10000]) v' w':=by
 subst hy
 have hs:=Dig.sum_step ha hb h.len h.c1 h.eq
 have h1:=h.c1
 rw [map_snoc] at hown
 refine ⟨hown,h.ws.append (Ws.cons (by omega) Ws.nil),hs.1,hs.2,?_,?_,hbel⟩
 ·rcases Nat.lt_or_ge k (max a.length b.length) with hl | hl
  ·right;omega
  ·left
   rw [Dig.getD_ge (l:=a) (by omega),Dig.getD_ge (l:=b) (by omega)]
   omega
 ·have:=h.cz
  rcases hk with hk | hk | hk <;> omega
theorem PlusSt.fin {w:World} {a b:List Nat} {k:Nat} {ds:List Nat} {v:Value} {wr:World} (h:PlusSt w a b k 0 ds v wr) (h1:a.length≤k) (h2:b.length≤k) :
 RetD w (fun l=>val l=val a+val b∧l.length≤max a.length b.length+1) (.returned v) wr:=by
 obtain ⟨A,c,rfl,hd,hf⟩:=owns_dig h.own h.ws
 have he:=h.eq
 rw [List.take_of_length_le h1,List.take_of_length_le h2] at he
 exact ⟨A,c,ds,rfl,h.bel,hd,⟨by omega,by rw [h.len];exact h.le⟩,hf⟩
structure MinusSt (w:World) (a b:List Nat) (k c:Nat) (ds:List Nat) (v:Value) (wr:World):Prop where
 own:wr.ownsRow w.heap.size 3 1 v k (ds.map d64)
 ws:Ws ds
 c1:c≤1
 eq:val ds+val (b.take k)=val (a.take k)+c * 10000 ^ k
 le:k≤a.length
 bel:Below w.heap.size w wr
theorem MinusSt.len {w:World} {a b:List Nat} {k c:Nat} {ds:List Nat} {v:Value} {wr:World} (h:MinusSt w a b k c ds v wr):ds.length=k:=by
 have:=h.own.1;simpa using this
theorem MinusSt.start (w:World) (a b:List Nat):MinusSt w a b 0 0 [] (.slice none 0 0) w:=
 ⟨World.ownsRow_nil _ _ _ _,Ws.nil,by omega,by simp [val],by omega,Below.refl _ _⟩
theorem MinusSt.step {w:World} {a b:List Nat} {k c:Nat} {ds:List Nat} {v:Value} {wr:World} (h:MinusSt w a b k c ds v wr) (hk:k<a.length)
 {v':Value} {w':World} {d c':Nat} (hc:c'≤1) (hd:d<10000) (he:d+(c+b.getD k 0)=a.getD k 0+c' * 10000) (hown:w'.ownsRow w.heap.size 3 1 v' (k+1) (ds.map d64++[.int .i64 (d:Int)])) (hbel:Below w.heap.size w w') :
 MinusSt w a b (k+1) c' (ds++[d]) v' w':=by
 have hs:=Dig.sub_step h.len h.eq he
 rw [map_snoc] at hown
 exact ⟨hown,h.ws.append (Ws.cons hd Ws.nil),hc,hs,by omega,hbel⟩
theorem MinusSt.fin {w:World} {a b:List Nat} {k c:Nat} {ds:List Nat} {v:Value} {wr:World} (h:MinusSt w a b k c ds v wr) (h1:a.length≤k) (hl:b.length≤a.length) (hge:val b≤val a) :
 RetD w (fun l=>val l=val a - val b∧l.length=a.length) (.returned v) wr:=by
 have hk:k=a.length:=by have:=h.le;omega
 subst hk
 obtain ⟨A,c',rfl,hd,hf⟩:=owns_dig h.own h.ws
 exact ⟨A,c',ds,rfl,h.bel,hd,⟨Dig.sub_end hl h.len h.ws h.eq hge,h.len⟩,hf⟩
end Go.Proofs.YtmlpibdincfgbaaDoor
/-
 (second part)
-/
namespace Go.Proofs.YtmlpibdincfgbaaDoor
open Go.RowKit
open Dig (val Ws Nz)
structure DV where
 A:Option Addr
 n:Nat
 c:Nat
def DV.is (x:DV) (w:World) (P:List Nat→Prop):Prop:=∃ l,l.length=x.n∧DigIs w x.A l x.c∧P l
theorem DV.is.on {x:DV} {w w':World} {P:List Nat→Prop} (h:x.is w P) (hb:Below w.heap.size w w'):x.is w' P:=by
 obtain ⟨l,h1,h2,h3⟩:=h
 exact ⟨l,h1,h2.on hb,h3⟩
end Go.Proofs.YtmlpibdincfgbaaDoor
/-
 (second part)
-/
namespace Go.Proofs.YtmlpibdincfgbaaDoor
open Go.RowKit
open Dig (val Ws Nz)
structure MSt (w:World) (go:Nat) (n:Nat) (z:Nat) (S:List Nat) (wr:World):Prop where
 len:S.length=n
 ws:Ws S
 zero:∀ j,z≤j→S.getD j 0=0
 out:Own wr go 3 (S.map d64)
 bel:Below w.heap.size w wr
theorem MSt.cell {w:World} {go n z:Nat} {S:List Nat} {wr:World} (h:MSt w go n z S wr) {j:Nat} (hj:j<n):wr.cell? ⟨go,j,none⟩=some (.int .i64 (S.getD j 0:Nat)):=by
 have hl:=h.len
 rw [h.out.cell,List.getElem?_map,List.getElem?_eq_getElem (by omega),Dig.getD_lt (by omega)];rfl
theorem MSt.on {w:World} {go n z:Nat} {S:List Nat} {wr w':World} (h:MSt w go n z S wr) (hb:Below wr.heap.size wr w'):MSt w go n z S w':=
 ⟨h.len,h.ws,h.zero,h.out.on hb,h.bel.trans (hb.mono h.bel.size)⟩
theorem MSt.set_ {w:World} {go n z:Nat} {S:List Nat} {wr:World} (h:MSt w go n z S wr) (hB:w.heap.size≤go) {j x z':Nat} (hx:x<10000) (hz:z≤z') (hj:j<z') {s:Int} (hs:s=(x:Int)) :
 MSt w go n z' (S.set j x) (wr.setCell ⟨go,j,none⟩ (.int .i64 s)):=by
 subst hs
 refine ⟨by simp [h.len],h.ws.set j hx,fun i hi=>?_,?_,h.bel.setCell hB _⟩
 ·have:=h.zero i (by omega)
  rw [List.getD_eq_getElem?_getD,List.getElem?_set_ne (by omega),← List.getD_eq_getElem?_getD,this]
 ·have:=h.out.set_ j (d64 x)
  rw [← List.map_set] at this
  exact this
end Go.Proofs.YtmlpibdincfgbaaDoor
/-
 (second part)
-/
namespace Go.Proofs.YtmlpibdincfgbaaDoor
open Go.RowKit
open Dig (val Ws Nz)
end Go.Proofs.YtmlpibdincfgbaaDoor
/-
 (second part)
-/
namespace Go.Proofs.YtmlpibdincfgbaaDoor
open Go.RowKit
open Dig (val Ws Nz)
def ND (d:DV) (w:World) (m:Nat):Prop:=d.is w fun l=>Nz l∧val l=m∧l.length≤many
theorem ND.on {d:DV} {w w':World} {m:Nat} (h:ND d w m) (hb:Below w.heap.size w w'):ND d w' m:=DV.is.on h hb
theorem ND.nil (w:World):ND ⟨none,0,0⟩ w 0:=⟨[],rfl,DigIs.nil w,Nz.nil,rfl,by simp⟩
end Go.Proofs.YtmlpibdincfgbaaDoor
/-
 (second part)
-/
namespace Go.Proofs.YtmlpibdincfgbaaDoor
open Go.RowKit
open Dig (val Ws Nz)
theorem ND.len {d e:DV} {w w':World} {m k:Nat} (hd:ND d w m) (he:ND e w' k) (h:m≤k):d.n≤e.n:=by
 obtain ⟨l,e1,e2,e3,e4,e5⟩:=hd
 obtain ⟨j,f1,f2,f3,f4,f5⟩:=he
 rw [← e1,← f1]
 rcases Nat.lt_or_ge j.length l.length with h1 | h1
 ·have:=Dig.lt_of_length f2.ws e3 h1
  omega
 ·exact h1
structure RDivSt (w:World) (go n:Nat) (a:List Nat) (B i:Nat) (ds:List Nat) (R:Nat) (rest:DV) (wr:World):Prop where
 len:ds.length+i=n
 ws:Ws ds
 eq:val (a.drop i)=val ds * B+R
 lt:R<B
 out:Own wr go 3 ((List.replicate i 0++ds).map d64)
 bel:Below w.heap.size w wr
 rest:ND rest wr R
theorem RDivSt.step {w:World} {go n:Nat} {a:List Nat} {B m:Nat} {ds:List Nat} {R:Nat} {rest:DV} {wr:World} (h:RDivSt w go n a B (m+1) ds R rest wr) (hg:w.heap.size≤go) (hm:m<a.length) {w':World} (hb:Below wr.heap.size wr w')
 {q:Nat} (hq:q<10000) {y:DV} (hy:ND y w' (a[m]+10000 * R - B * q)) (h1:B * q≤a[m]+10000 * R) (h2:a[m]+10000 * R<B * (q+1)) {s:Int} (hs:s=(q:Int)) (hgy:∀ g off,y.A=some ⟨g,off,none⟩→y.n≠0→g≠go) :
 RDivSt w go n a B m (q :: ds) (a[m]+10000 * R - B * q) y (w'.setCell ⟨go,m,none⟩ (.int .i64 s)):=by
 subst hs
 refine ⟨by have:=h.len;simp;omega,Ws.cons hq h.ws,?_,?_,?_,?_,?_⟩
 ·rw [Dig.val_drop_cons hm,Dig.getD_lt hm,h.eq,Dig.val_cons]
  have:(q+10000 * val ds) * B=B * q+10000 * (val ds * B):=by grind
  rw [this]
  omega
 ·rw [Nat.mul_add,Nat.mul_one] at h2
  omega
 ·have:=(h.out.on hb).set_ m (d64 q)
  rw [← List.map_set] at this
  have e:(List.replicate (m+1) 0++ds).set m q=List.replicate m 0++q :: ds:=by
   rw [List.replicate_succ',List.append_assoc,List.set_append_right _ _ (by simp)]
   simp
  rw [e] at this
  exact this
 ·exact (h.bel.trans (hb.mono h.bel.size)).setCell hg _
 ·obtain ⟨l,k1,k2,k3,k4,k5⟩:=hy
  refine ⟨l,k1,⟨fun hn=>?_,k2.ws,k2.cap,k2.mx⟩,k3,k4,k5⟩
  obtain ⟨g,off,e,hg',hc⟩:=k2.sl hn
  refine ⟨g,off,e,by simpa [World.setCell] using hg',fun i x hx=>?_⟩
  rw [World.cell?_setCell_other]
  ·exact hc i x hx
  ·intro ee
   injection ee with e1 e2
   have hne:y.n≠0:=by
    intro h0
    rw [h0] at k1
    exact hn (by simp [List.eq_nil_of_length_eq_zero k1])
   exact hgy g off e hne e1.symm
theorem ND.parts {d:DV} {w:World} {m:Nat} (h:ND d w m):∃ l,DigIs w d.A l d.c∧l.length=d.n∧val l=m:=by
 obtain ⟨l,e1,e2,e3,e4,e5⟩:=h
 exact ⟨l,e2,e1,e4⟩
end Go.Proofs.YtmlpibdincfgbaaDoor
/-
 (second part)
-/
namespace Go.Proofs.YtmlpibdincfgbaaDoor
open Go.RowKit
open Dig (val Ws Nz)
section
variable {P:Program} {c:Code} {Q:Exit→Act→World→Prop} {a:Act} {w:World} {T U V X:TypeId} {xs ys zs us:List Value}
end
end Go.Proofs.YtmlpibdincfgbaaDoor
/-
 (second part)
-/
namespace Go.Proofs.YtmlpibdincfgbaaDoor
open Go.RowKit
open Dig (val Ws Nz)
end Go.Proofs.YtmlpibdincfgbaaDoor
/-
 (second part)
-/
namespace Go.Proofs.YtmlpibdincfgbaaDoor
open Go.RowKit
open Dig (val Ws Nz)
end Go.Proofs.YtmlpibdincfgbaaDoor
