/-
  Contract of package wide: divide, the long division.
-/
import Derived.Test.YtmlpibdincfgbaaDoorW9
import Derived.Test.YtmlpibdincfgbaaDoorT1
import Derived.Deep.LoopGhost
import Derived.StillTailTactics
namespace Go.Proofs.YtmlpibdincfgbaaDoor
open Go.RowKit Mag
structure DivSt (w:World) (gu gv go m x Av:Nat) (v:List Nat) (k:Nat) (u out:List Nat) (wr:World):Prop where
 ul:u.length=m+3+x
 uw:Ws u
 ol:out.length=x+1
 ow:Ws out
 eq:Av=val (out.drop k) * 4294967296 ^ k * val v+val u
 lt:val (u.drop k)<val v
 uo:Own wr gu 175 (u.map w32)
 oo:Own wr go 175 (out.map w32)
 vo:∀ i,i<m+2→wr.cell? ⟨gv,i,none⟩=some (.int .u32 (v.getD i 0:Nat))
 gl:gv<wr.heap.size
 bel:Below w.heap.size w wr
theorem DivSt.drewN {w wr:World} {gu gv go m x Av:Nat} {v:List Nat} {k:Nat} {u out:List Nat} (h:DivSt w gu gv go m x Av v k u out wr) (n:Nat):DivSt w gu gv go m x Av v k u out (wr.drewN n):=
 ⟨h.ul,h.uw,h.ol,h.ow,h.eq,h.lt,h.uo,h.oo,h.vo,h.gl,below_drewN' h.bel n⟩
theorem win_len {u ds:List Nat} {j n:Nat} (hd:ds.length=n) (hj:j+n≤u.length):(u.take j++ds++u.drop (j+n)).length=u.length:=by simp;omega
theorem win_take {u ds:List Nat} {j n:Nat} (hj:j≤u.length):(u.take j++ds++u.drop (j+n)).take j=u.take j:=by
 rw [List.append_assoc,List.take_append_of_le_length (by simp;omega),List.take_take,Nat.min_self]
theorem win_drop {u ds:List Nat} {j n:Nat} (hj:j≤u.length):(u.take j++ds++u.drop (j+n)).drop j=ds++u.drop (j+n):=by
 rw [List.append_assoc,List.drop_append_of_le_length (by simp;omega),List.drop_of_length_le (by rw [List.length_take];omega),List.nil_append]
theorem DivSt.next {w wr w':World} {gu gv go m x Av j q' W:Nat} {v u out ds:List Nat} (h:DivSt w gu gv go m x Av v (j+1) u out wr) (hj:j+1≤x+1) (hdl:ds.length=m+3) (hdw:Ws ds)
 (hq:q'<4294967296) (hW:W=val ((u.drop j).take (m+3))) (he:val ds+q' * val v=W) (hlt:val ds<val v) (hz:val (u.drop (j+(m+2)+1))=0)
 (hu:Own w' gu 175 ((u.take j++ds++u.drop (j+(m+3))).map w32)) (ho:Own w' go 175 ((out.set j q').map w32)) (hv:∀ i,i<m+2→w'.cell? ⟨gv,i,none⟩=some (.int .u32 (v.getD i 0:Nat)))
 (hgl:gv<w'.heap.size) (hb:Below w.heap.size w w'):DivSt w gu gv go m x Av v j (u.take j++ds++u.drop (j+(m+3))) (out.set j q') w':=by
 have hul:=h.ul
 have hol:=h.ol
 have e1:=win_len (u:=u) (j:=j) hdl (by omega)
 have e2:=win_take (u:=u) (ds:=ds) (j:=j) (n:=m+3) (by omega)
 have e3:=win_drop (u:=u) (ds:=ds) (j:=j) (n:=m+3) (by omega)
 have e4:(u.take j++ds++u.drop (j+(m+3))).drop (j+(m+2)+1)=u.drop (j+(m+2)+1):=by
  rw [show j+(m+2)+1=j+(m+3) by omega,← List.drop_drop,e3,List.drop_append_of_le_length (by omega),List.drop_of_length_le (by omega),List.nil_append]
 have e5:((u.take j++ds++u.drop (j+(m+3))).drop j).take (m+2+1)=ds:=by
  rw [e3,List.take_append_of_le_length (by omega),List.take_of_length_le (by omega)]
 have hp:=digit_put (n:=m+2) (by omega) (by omega) h.eq (q:=q') (by rw [e5,show m+2+1=m+3 by omega,← hW];exact he) hz e1 e2 e4
 refine ⟨by rw [e1,hul],((h.uw.take j).append hdw).append (h.uw.drop _),by simp [hol],h.ow.set j hq,hp.1,?_,hu,ho,hv,hgl,hb⟩
 rw [hp.2,e5]
 exact hlt
structure BackSt (w:World) (gu gv gw gc m j:Nat) (u1 v ds outq:List Nat) (k:Nat) (es:List Nat) (cy:Nat) (wr:World):Prop where
 len:es.length=k
 ws:Ws es
 cy1:cy≤1
 eq:val es+cy * 4294967296 ^ k=val (ds.take k)+val (v.take k)
 uo:Own wr gu 175 ((u1.take j++es++u1.drop (j+k)).map w32)
 oo:Own wr gw 175 (outq.map w32)
 car:Own wr gc 155 [.int .u64 (cy:Nat)]
 vo:∀ i,i<m+2→wr.cell? ⟨gv,i,none⟩=some (.int .u32 (v.getD i 0:Nat))
 gl:gv<wr.heap.size
 bel:Below w.heap.size w wr
theorem BackSt.cell {w wr w1:World} {gu gv gw gc m j k cy:Nat} {u1 v ds outq es:List Nat} (h:BackSt w gu gv gw gc m j u1 v ds outq k es cy wr) (hj:j+k<u1.length) (hne:gu≠gc) (hg:wr.grownBy w1 (some gc)) :
 w1.cell? ⟨gu,j+k,none⟩=some (.int .u32 (u1.getD (j+k) 0:Nat))∧w1.frozen? ⟨gu,j+k,none⟩=false:=by
 have hO:=h.uo.grown hg (by intro e;injection e;omega)
 exact ⟨by rw [hO.cell,win_cell h.len hj],hO.frozen _⟩
theorem BackSt.step {w wr w1:World} {gu gv gw gc m j k cy:Nat} {u1 v ds outq es:List Nat} (h:BackSt w gu gv gw gc m j u1 v ds outq k es cy wr) (hj:j+k<u1.length) (hds:Ws ds) (hv:Ws v)
 (h1:gu≠gc) (h2:gu≠gw) (h3:gw≠gc) (h4:gv≠gc) (h5:gv≠gu) (hB:w.heap.size≤gu) (hB':w.heap.size≤gc)
 {s:Int} (hs:s=((cy+(ds.getD k 0+v.getD k 0):Nat):Int)) (hc:Own w1 gc 155 [.int .u64 (s / 4294967296)]) (hg:wr.grownBy w1 (some gc)) :
 BackSt w gu gv gw gc m j u1 v ds outq (k+1) (es++[(cy+(ds.getD k 0+v.getD k 0)) % 4294967296]) ((cy+(ds.getD k 0+v.getD k 0)) / 4294967296) (w1.setCell ⟨gu,j+k,none⟩ (.int .u32 (s % 4294967296))):=by
 subst hs
 have hO:=h.uo.grown hg (by intro e;injection e;omega)
 have hO2:=h.oo.grown hg (by intro e;injection e;omega)
 have hst:=sum_step (i:=k) (c:=cy) hds hv h.len h.cy1 h.eq
 refine ⟨by simp [h.len],h.ws.append (Ws.cons (by omega) Ws.nil),hst.1,hst.2,?_,hO2.far (p:=⟨gu,j+k,none⟩) (fun e=>h2 e.symm) _,hc.far (p:=⟨gu,j+k,none⟩) (fun e=>h1 e.symm) _,fun i hi=>?_,?_,(below_grown h.bel hg hB' h.bel.size).setCell hB _⟩
 ·have:=hO.set_ (j+k) (w32 ((cy+(ds.getD k 0+v.getD k 0)) % 4294967296))
  rw [win_set h.len hj] at this
  exact this
 ·rw [cell_put _ _ (by intro e;injection e with e;exact h5 e.symm),World.cell?_of_block (hg.block gv h.gl (by intro e;injection e with e;exact h4 e))]
  exact h.vo i hi
 ·have:=Nat.lt_of_lt_of_le h.gl hg.size
  simpa [World.setCell] using this
structure UnSt (w:World) (gu gw gr m D:Nat) (u out:List Nat) (k:Nat) (ds:List Nat) (wr:World):Prop where
 len:ds.length=k
 ws:Ws ds
 eq:val ds * D+u.getD 0 0 % D=val (u.take k)+u.getD k 0 % D * 4294967296 ^ k
 ro:Own wr gr 175 ((ds++List.replicate (m+2 - k) 0).map w32)
 uo:Own wr gu 175 (u.map w32)
 oo:Own wr gw 175 (out.map w32)
 bel:Below w.heap.size w wr
theorem UnSt.step {w wr:World} {gu gw gr m D E k:Nat} {u out ds:List Nat} (h:UnSt w gu gw gr m D u out k ds wr) (hk:k<m+2) (hu:Ws u) (hDE:D * E=4294967296) (h1:gu≠gr) (h2:gw≠gr) (hB:w.heap.size≤gr)
 {s:Int} (hs:s=(((u.getD (k+1) 0 * 4294967296+u.getD k 0) / D % 4294967296:Nat):Int)) :
 UnSt w gu gw gr m D u out (k+1) (ds++[(u.getD (k+1) 0 * 4294967296+u.getD k 0) / D % 4294967296]) (wr.setCell ⟨gr,k,none⟩ (.int .u32 s)):=by
 subst hs
 obtain ⟨e1,e2⟩:=unshift_word (u1:=u.getD (k+1) 0) hDE (hu.getD k)
 refine ⟨by simp [h.len],h.ws.append (Ws.cons (by omega) Ws.nil),unshift_step h.len hDE h.eq e1,?_,h.uo.far (p:=⟨gr,k,none⟩) h1 _,h.oo.far (p:=⟨gr,k,none⟩) h2 _,h.bel.setCell hB _⟩
 have:=h.ro.set_ k (w32 ((u.getD (k+1) 0 * 4294967296+u.getD k 0) / D % 4294967296))
 rw [mid_set h.len (by omega)] at this
 rw [show m+2 - (k+1)=m+2 - k - 1 by omega]
 exact this
theorem UnSt.drew {w wr:World} {gu gw gr m D k:Nat} {u out ds:List Nat} (h:UnSt w gu gw gr m D u out k ds wr):UnSt w gu gw gr m D u out k ds wr.drew:=
 ⟨h.len,h.ws,h.eq,h.ro,h.uo,h.oo,⟨h.bel.os,h.bel.tape,h.bel.output,h.bel.size,h.bel.block⟩⟩
end Go.Proofs.YtmlpibdincfgbaaDoor
