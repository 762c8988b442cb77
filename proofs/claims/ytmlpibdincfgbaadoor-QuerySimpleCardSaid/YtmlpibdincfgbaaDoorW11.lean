/-
  Contracts of package wide: From, Small.
-/
import Derived.Test.YtmlpibdincfgbaaDoorW9
import Derived.Test.YtmlpibdincfgbaaDoorT1
import Derived.Test.YtmlpibdincfgbaaDoorW10
import Derived.RegionTactic
import Derived.ChangeAlike
namespace Go.Proofs.YtmlpibdincfgbaaDoor
open Go.RowKit Mag
end Go.Proofs.YtmlpibdincfgbaaDoor
/-
 (second part)
-/
namespace Go.Proofs.YtmlpibdincfgbaaDoor
open Go.RowKit Mag
structure Box4 (w W:World) (x0 x1 y0 y1 z0 z1 u0 u1:Value):Prop where
 x0:W.cell? ⟨w.heap.size,0,none⟩=some x0
 x1:W.cell? ⟨w.heap.size,1,none⟩=some x1
 y0:W.cell? ⟨w.heap.size+1,0,none⟩=some y0
 y1:W.cell? ⟨w.heap.size+1,1,none⟩=some y1
 z0:W.cell? ⟨w.heap.size+1+1,0,none⟩=some z0
 z1:W.cell? ⟨w.heap.size+1+1,1,none⟩=some z1
 u0:W.cell? ⟨w.heap.size+1+1+1,0,none⟩=some u0
 u1:W.cell? ⟨w.heap.size+1+1+1,1,none⟩=some u1
 fx:∀ o,W.frozen? ⟨w.heap.size,o,none⟩=false
 fy:∀ o,W.frozen? ⟨w.heap.size+1,o,none⟩=false
 fz:∀ o,W.frozen? ⟨w.heap.size+1+1,o,none⟩=false
 fu:∀ o,W.frozen? ⟨w.heap.size+1+1+1,o,none⟩=false
 bel:Below w.heap.size w W
 sz:w.heap.size+3<W.heap.size
theorem Box4.on {w W W':World} {x0 x1 y0 y1 z0 z1 u0 u1:Value} (h:Box4 w W x0 x1 y0 y1 z0 z1 u0 u1) (hb:Below W.heap.size W W'):Box4 w W' x0 x1 y0 y1 z0 z1 u0 u1:=by
 obtain ⟨hc,hf⟩:=bcell hb
 have h1:=h.sz
 have h2:=hb.size
 exact ⟨(hc _ _ (by omega)).trans h.x0,(hc _ _ (by omega)).trans h.x1,(hc _ _ (by omega)).trans h.y0,(hc _ _ (by omega)).trans h.y1,(hc _ _ (by omega)).trans h.z0,(hc _ _ (by omega)).trans h.z1,(hc _ _ (by omega)).trans h.u0,(hc _ _ (by omega)).trans h.u1,
  fun o=>(hf _ _ (by omega)).trans (h.fx o),fun o=>(hf _ _ (by omega)).trans (h.fy o),fun o=>(hf _ _ (by omega)).trans (h.fz o),fun o=>(hf _ _ (by omega)).trans (h.fu o),h.bel.trans (hb.mono (by omega)),by omega⟩
theorem Box4.put {w W:World} {x0 x1 y0 y1 z0 z1 u0 u1:Value} (h:Box4 w W x0 x1 y0 y1 z0 z1 u0 u1) (a b c d:Value) :
 Box4 w ((((W.setCell ⟨w.heap.size+1+1,0,none⟩ a).setCell ⟨w.heap.size+1+1,1,none⟩ b).setCell ⟨w.heap.size+1+1+1,0,none⟩ c).setCell ⟨w.heap.size+1+1+1,1,none⟩ d) x0 x1 y0 y1 a b c d:=by
 have h0:=h.sz
 have e0:=h.z0
 have e1:=h.z1
 have e2:=h.u0
 have e3:=h.u1
 have far:∀ b' o,b'≠w.heap.size+1+1→b'≠w.heap.size+1+1+1→((((W.setCell ⟨w.heap.size+1+1,0,none⟩ a).setCell ⟨w.heap.size+1+1,1,none⟩ b).setCell ⟨w.heap.size+1+1+1,0,none⟩ c).setCell ⟨w.heap.size+1+1+1,1,none⟩ d).cell? ⟨b',o,none⟩=W.cell? ⟨b',o,none⟩:=fun b' o h1 h2=>by
  rw [cell_put,cell_put,cell_put,cell_put]
  all_goals (intro e;injection e;omega)
 have fr:∀ b' o,((((W.setCell ⟨w.heap.size+1+1,0,none⟩ a).setCell ⟨w.heap.size+1+1,1,none⟩ b).setCell ⟨w.heap.size+1+1+1,0,none⟩ c).setCell ⟨w.heap.size+1+1+1,1,none⟩ d).frozen? ⟨b',o,none⟩=W.frozen? ⟨b',o,none⟩:=fun b' o=>by rw [frz_put,frz_put,frz_put,frz_put]
 refine ⟨(far _ _ (by omega) (by omega)).trans h.x0,(far _ _ (by omega) (by omega)).trans h.x1,(far _ _ (by omega) (by omega)).trans h.y0,(far _ _ (by omega) (by omega)).trans h.y1,by simp [go_sem,e0],by simp [go_sem,e1],by simp [go_sem,e2],by simp [go_sem,e3],fun o=>(fr _ _).trans (h.fx o),fun o=>(fr _ _).trans (h.fy o),fun o=>(fr _ _).trans (h.fz o),fun o=>(fr _ _).trans (h.fu o),(((h.bel.setCell (by simp;omega) _).setCell (by simp;omega) _).setCell (by simp;omega) _).setCell (by simp;omega) _,by simp [World.setCell];omega⟩
structure Mg (w:World) (A:Option Addr) (l:List Nat) (c:Nat):Prop where
 sl:Sl w w.heap.size A (l.map w32)
 ws:Ws l
 cap:l.length≤c
 mx:c≤maxLen
theorem Mg.on {w w':World} {A:Option Addr} {l:List Nat} {c:Nat} (h:Mg w A l c) (hb:Below w.heap.size w w'):Mg w' A l c:=⟨h.sl.on hb,h.ws,h.cap,h.mx⟩
structure DivMid (w:World) (n1 n2:Bool) (x0 x1 y0 y1:Value) (q r:Int) (Q:Option Addr) (cq:Nat) (lq:List Nat) (R:Option Addr) (cr:Nat) (lr:List Nat) (wx:World):Prop where
 mq:Mg wx Q lq cq
 mr:Mg wx R lr cr
 bx:Box4 w wx x0 x1 y0 y1 (.bool false) (.slice none 0 0) (.bool false) (.slice none 0 0)
 vq:Hid (sgn (n1 != n2) (val lq)=q)
 vr:Hid (sgn false (val lr)=r)
 tq:val lq<top
 tr:val lr<top
end Go.Proofs.YtmlpibdincfgbaaDoor
