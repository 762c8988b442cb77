/-
  Contracts of package wide: carrier, sum.
-/
import Derived.Test.YtmlpibdincfgbaaDoorT1
namespace Go.Proofs.YtmlpibdincfgbaaDoor
open Go.RowKit Mag
structure SumSt (w:World) (B go gc n:Nat) (a b:List Nat) (k:Nat) (ds:List Nat) (cy:Nat) (wr:World):Prop where
 len:ds.length=k
 ws:Ws ds
 cy1:cy≤1
 eq:val ds+cy * 4294967296 ^ k=val (a.take k)+val (b.take k)
 out:Own wr go 175 ((ds++List.replicate (n - k) 0).map w32)
 car:Own wr gc 155 [.int .u64 (cy:Nat)]
 bel:Below B w wr
theorem SumSt.cell {w:World} {B go gc n:Nat} {a b:List Nat} {k:Nat} {ds:List Nat} {cy:Nat} {wr w1:World} (h:SumSt w B go gc n a b k ds cy wr) (hk:k<n) (hne:go≠gc) (hg:wr.grownBy w1 (some gc)) :
 w1.cell? ⟨go,k,none⟩=some (w32 0)∧w1.frozen? ⟨go,k,none⟩=false:=by
 have hO:=h.out.grown hg (by intro e;injection e;omega)
 exact ⟨by rw [hO.cell,mid_cell h.len (by omega)],hO.frozen k⟩
theorem SumSt.step {w:World} {B go gc n:Nat} {a b:List Nat} {k:Nat} {ds:List Nat} {cy:Nat} {wr w1:World} (h:SumSt w B go gc n a b k ds cy wr) (hk:k<n) (hne:go≠gc) (hwa:Ws a) (hwb:Ws b)
 {s:Int} (hs:s=((cy+(a.getD k 0+b.getD k 0):Nat):Int)) (hc:Own w1 gc 155 [.int .u64 (s / 4294967296)]) (hg:wr.grownBy w1 (some gc)) (hB:B≤go) (hB':B≤gc) (hBw:B≤w.heap.size) :
 SumSt w B go gc n a b (k+1) (ds++[(cy+(a.getD k 0+b.getD k 0)) % 4294967296]) ((cy+(a.getD k 0+b.getD k 0)) / 4294967296) (w1.setCell ⟨go,k,none⟩ (.int .u32 (s % 4294967296))):=by
 subst hs
 have hO:=h.out.grown hg (by intro e;injection e;omega)
 have hst:=sum_step (i:=k) (c:=cy) hwa hwb h.len h.cy1 h.eq
 refine ⟨by simp [h.len],h.ws.append (Ws.cons (by omega) Ws.nil),hst.1,hst.2,?_,?_,(below_grown h.bel hg hB' (by have:=h.bel.size;omega)).setCell hB _⟩
 ·have:=hO.set_ k (w32 ((cy+(a.getD k 0+b.getD k 0)) % 4294967296))
  rw [mid_set h.len (by omega)] at this
  rw [show n - (k+1)=n - k - 1 by omega]
  exact this
 ·exact Own.far (p:=⟨go,k,none⟩) hc (fun e=>hne e.symm) _
end Go.Proofs.YtmlpibdincfgbaaDoor
/-
 (second part)
-/
namespace Go.Proofs.YtmlpibdincfgbaaDoor
open Go.RowKit Mag
structure SubSt (w:World) (g:Nat) (a b:List Nat) (k:Nat) (ds:List Nat) (cy:Nat) (wr:World):Prop where
 len:ds.length=k
 ws:Ws ds
 cy1:cy≤1
 eq:val ds+val (b.take k)=val (a.take k)+cy * 4294967296 ^ k
 out:Own wr g 175 ((ds++a.drop k).map w32)
 grw:w.grownBy wr (some g)
theorem SubSt.step {w:World} {g:Nat} {a b:List Nat} {k:Nat} {ds:List Nat} {cy:Nat} {wr:World} (h:SubSt w g a b k ds cy wr) (hk:k<a.length)
 {s:Int} {d c':Nat} (hs:s=(d:Int)) (hd:d<4294967296) (hc:c'≤1) (he:d+(cy+b.getD k 0)=a.getD k 0+c' * 4294967296) :
 SubSt w g a b (k+1) (ds++[d]) c' (wr.setCell ⟨g,k,none⟩ (.int .u32 s)):=by
 subst hs
 refine ⟨by simp [h.len],h.ws.append (Ws.cons hd Ws.nil),hc,sub_step h.len h.eq he,?_,grown_trans' h.grw (grown_set _ _ _ _)⟩
 have:=h.out.set_ k (w32 d)
 rw [mid_set2 h.len hk] at this
 exact this
end Go.Proofs.YtmlpibdincfgbaaDoor
/-
 (second part)
-/
namespace Go.Proofs.YtmlpibdincfgbaaDoor
open Go.RowKit Mag
theorem Sl.put {w:World} {B:Nat} {A:Option Addr} {l:List Nat} (h:Sl w B A (l.map w32)) {p:Addr} {v:Value} (hp:w.cell? p=some v) (hv:∀ n,v≠.int .u32 n) (u:Value):Sl (w.setCell p u) B A (l.map w32):=by
 intro hn
 obtain ⟨g,off,rfl,hg,hc⟩:=h hn
 refine ⟨g,off,rfl,hg,fun i x hx=>?_⟩
 have h1:=hc i x hx
 rw [World.cell?_setCell_other _ _ _ _ ?_]
 ·exact h1
 ·intro e
  have h2:w.cell? ⟨g,off+i,none⟩=some v:=by rw [← hp,e]
  rw [h2] at h1
  rw [List.getElem?_map] at hx
  cases hl:l[i]? with
  | none=>rw [hl] at hx;cases hx
  | some y=>
   rw [hl] at hx
   injection hx with hx
   injection h1 with h1
   exact hv y (h1.trans hx.symm)
structure Box3 (w W:World) (x0 x1 y0 y1 z0 z1:Value):Prop where
 x0:W.cell? ⟨w.heap.size,0,none⟩=some x0
 x1:W.cell? ⟨w.heap.size,1,none⟩=some x1
 y0:W.cell? ⟨w.heap.size+1,0,none⟩=some y0
 y1:W.cell? ⟨w.heap.size+1,1,none⟩=some y1
 z0:W.cell? ⟨w.heap.size+1+1,0,none⟩=some z0
 z1:W.cell? ⟨w.heap.size+1+1,1,none⟩=some z1
 fx:∀ o,W.frozen? ⟨w.heap.size,o,none⟩=false
 fy:∀ o,W.frozen? ⟨w.heap.size+1,o,none⟩=false
 fz:∀ o,W.frozen? ⟨w.heap.size+1+1,o,none⟩=false
 bel:Below w.heap.size w W
 sz:w.heap.size+2<W.heap.size
theorem Box3.on {w W W':World} {x0 x1 y0 y1 z0 z1:Value} (h:Box3 w W x0 x1 y0 y1 z0 z1) (hb:Below W.heap.size W W'):Box3 w W' x0 x1 y0 y1 z0 z1:=by
 obtain ⟨hc,hf⟩:=bcell hb
 have h1:=h.sz
 have h2:=hb.size
 exact ⟨(hc _ _ (by omega)).trans h.x0,(hc _ _ (by omega)).trans h.x1,(hc _ _ (by omega)).trans h.y0,(hc _ _ (by omega)).trans h.y1,(hc _ _ (by omega)).trans h.z0,(hc _ _ (by omega)).trans h.z1,
  fun o=>(hf _ _ (by omega)).trans (h.fx o),fun o=>(hf _ _ (by omega)).trans (h.fy o),fun o=>(hf _ _ (by omega)).trans (h.fz o),h.bel.trans (hb.mono (by omega)),by omega⟩
theorem Box3.put {w W:World} {x0 x1 y0 y1 z0 z1:Value} (h:Box3 w W x0 x1 y0 y1 z0 z1) (u v:Value):Box3 w ((W.setCell ⟨w.heap.size+1+1,0,none⟩ u).setCell ⟨w.heap.size+1+1,1,none⟩ v) x0 x1 y0 y1 u v:=by
 have h0:=h.sz
 have e0:=h.z0
 have e1:=h.z1
 have far:∀ b o,b≠w.heap.size+1+1→((W.setCell ⟨w.heap.size+1+1,0,none⟩ u).setCell ⟨w.heap.size+1+1,1,none⟩ v).cell? ⟨b,o,none⟩=W.cell? ⟨b,o,none⟩:=fun b o hb=>
  (World.cell?_setCell_other _ ⟨_,1,none⟩ ⟨b,o,none⟩ v (by intro e;injection e;omega)).trans (World.cell?_setCell_other _ ⟨_,0,none⟩ ⟨b,o,none⟩ u (by intro e;injection e;omega))
 have fr:∀ b o,((W.setCell ⟨w.heap.size+1+1,0,none⟩ u).setCell ⟨w.heap.size+1+1,1,none⟩ v).frozen? ⟨b,o,none⟩=W.frozen? ⟨b,o,none⟩:=fun b o=>by simp [go_sem]
 refine ⟨(far _ _ (by omega)).trans h.x0,(far _ _ (by omega)).trans h.x1,(far _ _ (by omega)).trans h.y0,(far _ _ (by omega)).trans h.y1,by simp [go_sem,e0],by simp [go_sem,e1],fun o=>(fr _ _).trans (h.fx o),fun o=>(fr _ _).trans (h.fy o),fun o=>(fr _ _).trans (h.fz o),by have:=h.bel;go_grown,by simp [World.setCell];omega⟩
theorem MagIs.put {w:World} {A:Option Addr} {l:List Nat} {c:Nat} (h:MagIs w A l c) {p:Addr} {v:Value} (hp:w.cell? p=some v) (hv:∀ n,v≠.int .u32 n) (u:Value):MagIs (w.setCell p u) A l c:=by
 refine ⟨?_,h.ws,h.nz,h.cap,h.mx⟩
 have:=h.sl.put hp hv u
 simpa [World.setCell] using this
theorem MagIs.drewN {w:World} {A:Option Addr} {l:List Nat} {c:Nat} (h:MagIs w A l c) (n:Nat):MagIs (w.drewN n) A l c:=⟨h.sl,h.ws,h.nz,h.cap,h.mx⟩
theorem Box3.drewN {w W:World} {x0 x1 y0 y1 z0 z1:Value} (h:Box3 w W x0 x1 y0 y1 z0 z1) (n:Nat):Box3 w (W.drewN n) x0 x1 y0 y1 z0 z1:=
 ⟨h.x0,h.x1,h.y0,h.y1,h.z0,h.z1,h.fx,h.fy,h.fz,below_drewN' h.bel n,h.sz⟩
theorem cell_put (w:World) {p q:Addr} (u:Value) (h:p≠q):(w.setCell p u).cell? q=w.cell? q:=World.cell?_setCell_other w p q u h
theorem frz_put (w:World) (p:Addr) (u:Value) (b o:Nat):(w.setCell p u).frozen? ⟨b,o,none⟩=w.frozen? ⟨b,o,none⟩:=by simp [go_sem]
end Go.Proofs.YtmlpibdincfgbaaDoor
