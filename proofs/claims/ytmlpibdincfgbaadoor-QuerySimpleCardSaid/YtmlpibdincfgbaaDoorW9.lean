/-
  Contracts of package wide: Sub, times, Mul.
-/
import Derived.Test.YtmlpibdincfgbaaDoorW5
import Derived.Test.YtmlpibdincfgbaaDoorShelf
namespace Go.Proofs.YtmlpibdincfgbaaDoor
open Go.RowKit Mag
structure MulSt (w:World) (B go:Nat) (n:Nat) (z:Nat) (S:List Nat) (wr:World):Prop where
 len:S.length=n
 ws:Ws S
 zero:∀ j,z≤j→S.getD j 0=0
 out:Own wr go 175 (S.map w32)
 bel:Below B w wr
theorem MulSt.cell {w:World} {B go n z:Nat} {S:List Nat} {wr:World} (h:MulSt w B go n z S wr) {j:Nat} (hj:j<n):wr.cell? ⟨go,j,none⟩=some (.int .u32 (S.getD j 0:Nat)):=by
 have hl:=h.len
 rw [h.out.cell,List.getElem?_map,List.getElem?_eq_getElem (by omega),getD_lt (by omega)];rfl
theorem MulSt.set_ {w:World} {B go n z:Nat} {S:List Nat} {wr:World} (h:MulSt w B go n z S wr) (hB:B≤go) {j x z':Nat} (hx:x<4294967296) (hz:z≤z') (hj:j<z') {s:Int} (hs:s=(x:Int)) :
 MulSt w B go n z' (S.set j x) (wr.setCell ⟨go,j,none⟩ (.int .u32 s)):=by
 subst hs
 refine ⟨by simp [h.len],h.ws.set j hx,fun i hi=>?_,?_,h.bel.setCell hB _⟩
 ·have:=h.zero i (by omega)
  rw [List.getD_eq_getElem?_getD,List.getElem?_set_ne (by omega),← List.getD_eq_getElem?_getD,this]
 ·have:=h.out.set_ j (w32 x)
  rw [← List.map_set] at this
  exact this
end Go.Proofs.YtmlpibdincfgbaaDoor
/-
 (second part)
-/
namespace Go.Proofs.YtmlpibdincfgbaaDoor
open Go.RowKit Mag
structure ShortSt (w:World) (B go n:Nat) (a:List Nat) (q k:Nat) (S:List Nat) (r:Nat) (wr:World):Prop where
 st:MulSt w B go n n S wr
 eq:val (a.drop k)=val (S.drop k) * q+r
 lt:r<q
theorem ShortSt.step {w:World} {B go n q k:Nat} {a S:List Nat} {r:Nat} {wr:World} (h:ShortSt w B go n a q (k+1) S r wr) (hn:n=a.length) (hB:B≤go) (hk:k<n) (hq:q<4294967296)
 {s:Int} {d r':Nat} (hd:d=(r * 4294967296+a.getD k 0) / q) (hr:r'=(r * 4294967296+a.getD k 0) % q) (hs:s=(d:Int)):d<4294967296→ShortSt w B go n a q k (S.set k d) r' (wr.setCell ⟨go,k,none⟩ (.int .u32 s)):=by
 intro hd32
 have hlt:=h.lt
 refine ⟨h.st.set_ hB hd32 (Nat.le_refl _) hk hs,?_,by rw [hr];exact Nat.mod_lt _ (by omega)⟩
 have hl:=h.st.len
 have e1:=val_drop_cons (l:=a) (j:=k) (by omega)
 have e2:=val_drop_cons (l:=S.set k d) (j:=k) (by rw [List.length_set];omega)
 have e3:(S.set k d).getD k 0=d:=by rw [List.getD_eq_getElem?_getD,List.getElem?_set_self (by omega)];rfl
 have e4:(S.set k d).drop (k+1)=S.drop (k+1):=List.drop_set_of_lt (by omega)
 rw [e3,e4] at e2
 rw [e1,e2,short_step (x:=a.getD k 0) h.eq,hr,hd]
end Go.Proofs.YtmlpibdincfgbaaDoor
/-
 (second part)
-/
namespace Go.Proofs.YtmlpibdincfgbaaDoor
open Go.RowKit Mag
theorem win_cell {U ds:List Nat} {j k:Nat} (hk:ds.length=k) (hj:j+k<U.length):((U.take j++ds++U.drop (j+k)).map w32)[j+k]? = some (.int .u32 (U.getD (j+k) 0:Nat)):=by
 rw [List.getElem?_map,List.getElem?_append_right (by simp;omega)]
 rw [show j+k - (U.take j++ds).length=0 by simp;omega,List.getElem?_drop,Nat.add_zero,getD_lt hj,List.getElem?_eq_getElem hj];rfl
theorem win_set {U ds:List Nat} {j k:Nat} (hk:ds.length=k) (hj:j+k<U.length) (x:Nat):((U.take j++ds++U.drop (j+k)).map w32).set (j+k) (w32 x)=(U.take j++(ds++[x])++U.drop (j+(k+1))).map w32:=by
 rw [← List.map_set,List.set_append_right _ _ (by simp;omega),show j+k - (U.take j++ds).length=0 by simp;omega,List.drop_eq_getElem_cons hj,List.set_cons_zero]
 simp [Nat.add_assoc]
structure TakeSt (w:World) (g:Nat) (U v:List Nat) (j q k:Nat) (ds:List Nat) (c bw:Nat) (wr:World):Prop where
 len:ds.length=k
 ws:Ws ds
 c1:c<4294967296
 b1:bw≤1
 c0:v.length<k→c=0
 eq:val ds+q * val (v.take k)=val ((U.drop j).take k)+(c+bw) * 4294967296 ^ k
 out:Own wr g 175 ((U.take j++ds++U.drop (j+k)).map w32)
 grw:w.grownBy wr (some g)
theorem TakeSt.step {w:World} {g:Nat} {U v:List Nat} {j q k:Nat} {ds:List Nat} {c bw:Nat} {wr:World} (h:TakeSt w g U v j q k ds c bw wr) (hj:j+k<U.length)
 {p t2 b2:Nat} {s:Int} (hp:p=c+q * v.getD k 0) (hp2:p / 4294967296<4294967296) (hb:b2≤1) (he:t2 % 4294967296+p % 4294967296+bw=U.getD (j+k) 0+b2 * 4294967296) (hs:s=((t2 % 4294967296:Nat):Int)) :
 TakeSt w g U v j q (k+1) (ds++[t2 % 4294967296]) (p / 4294967296) b2 (wr.setCell ⟨g,j+k,none⟩ (.int .u32 s)):=by
 subst hs
 refine ⟨by simp [h.len],h.ws.append (Ws.cons (by omega) Ws.nil),hp2,hb,fun hv=>?_,take_step h.len h.eq ?_,?_,grown_trans' h.grw (grown_set _ _ _ _)⟩
 ·rw [getD_ge (by omega),Nat.mul_zero,Nat.add_zero] at hp
  have:=h.c1
  omega
 ·rw [getD_drop']
  have:p=4294967296 * (p / 4294967296)+p % 4294967296:=by omega
  generalize q * v.getD k 0=z at *
  omega
 ·have:=h.out.set_ (j+k) (w32 (t2 % 4294967296))
  rw [win_set h.len hj] at this
  exact this
end Go.Proofs.YtmlpibdincfgbaaDoor
/-
 (second part)
-/
namespace Go.Proofs.YtmlpibdincfgbaaDoor
open Go.RowKit Mag
theorem MagIs.nil_ (w:World):MagIs w none [] 0:=⟨Sl.nil_,Ws.nil,Nz.nil,by simp,by unfold maxLen;omega⟩
end Go.Proofs.YtmlpibdincfgbaaDoor
