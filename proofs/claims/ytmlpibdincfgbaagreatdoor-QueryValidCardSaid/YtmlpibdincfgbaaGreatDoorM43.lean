/-
  Chapter 38: queries in a row.
-/
import Derived.Test.YtmlpibdincfgbaaGreatDoorM42
namespace Go.Proofs.YtmlpibdincfgbaaGreatDoor
open Go.RowKit
set_option linter.unusedSimpArgs false
set_option linter.unusedVariables false
theorem qryV.isQ {w0 w:World} {q:Qy.Qry} {v:Value} (h:qryV w0 q v w):IsQry w q v:=by
 obtain ⟨n0,s1,n2,n3,n4,n5,n6,n7,A8,l8,c8,vA,vl,vc,e,hvl,hR,hI,h1,h2⟩:=h.lit
 exact ⟨n0,s1,n2,n3,n4,n5,n6,n7,A8,l8,c8,vA,vl,vc,e,hvl,RegAt.keep (Nat.le_refl _) (fun _ _ _=>⟨trivial,rfl⟩) _ _ hR,hI.keep (Nat.le_refl _) fun _ _ _=>⟨trivial,rfl⟩,h1,h2⟩
def QB (w:World) (x:Value):Prop:=∃ q:Qy.Qry,IsQry w q x∧Qy.nodes q.reg≤900000∧q.offs.length≤900000
theorem QB.on {w w':World} {x:Value} (h:QB w x) (k:Below w.heap.size w w'):QB w' x:=by
 obtain ⟨q,h1,h2⟩:=h
 exact ⟨q,h1.on k,h2⟩
def sQB (m k:Nat):Spec Bel:=⟨fun v w=>∃ x:Value,v=x∧∃ q:Qy.Qry,IsQry w q x∧Qy.nodes q.reg≤m∧q.offs.length≤k,fun ⟨x,e,q,h,h2⟩ k=>⟨x,e,q,h.on k,h2⟩⟩
def QN (n:Nat) (w:World) (g:Nat):Prop:=g<w.heap.size∧∀ i,i<n→∃ (q:Qy.Qry) (xs:List Value),xs.length=14∧IsQry w q (.agg xs.toArray)∧Qy.nodes q.reg≤900000∧q.offs.length≤900000∧∀ j u,xs[j]? = some u→w.cell? ⟨g,i * 14+j,none⟩=some u
theorem QN.on {n:Nat} {w w':World} {g:Nat} (h:QN n w g) (k:Below w.heap.size w w'):QN n w' g:=by
 refine ⟨Nat.lt_of_lt_of_le h.1 k.size,fun i hi=>?_⟩
 obtain ⟨q,xs,h0,h1,h2,h3,h4⟩:=h.2 i hi
 exact ⟨q,xs,h0,h1.on k,h2,h3,fun j u hj=>(k.cell (p:=⟨g,i * 14+j,none⟩) h.1).trans (h4 j u hj)⟩
def sQN (n:Nat):Spec Bel:=⟨fun v w=>∃ g,v=.slice (some ⟨g,0,none⟩) n n∧QN n w g,fun ⟨g,e,h⟩ k=>⟨g,e,h.on k⟩⟩
theorem QN.lit {n:Nat} {w:World} {g:Nat} (h:QN n w g) {i:Nat} (hi:i<n):∃ (q:Qy.Qry) (n0:Int) (s1:ByteArray) (n2 n3 n4 n5 n6 n7:Int) (A8:Option Addr) (l8 c8:Nat) (vA:Option Addr) (vl vc:Nat),
 IsQry w q (.agg #[.int .i64 q.kind,.int .i64 n0,.string s1,.int .i64 n2,.int .i64 n3,.int .i64 n4,.int .i64 n5,.int .i64 n6,.int .i64 n7,.slice A8 l8 c8,.int .i64 q.vkind,.slice vA vl vc,.int .i64 q.day,.int .i64 q.scale])∧Qy.nodes q.reg≤900000∧q.offs.length≤900000∧
 ∀ j u,[Value.int .i64 q.kind,.int .i64 n0,.string s1,.int .i64 n2,.int .i64 n3,.int .i64 n4,.int .i64 n5,.int .i64 n6,.int .i64 n7,.slice A8 l8 c8,.int .i64 q.vkind,.slice vA vl vc,.int .i64 q.day,.int .i64 q.scale][j]? = some u→w.cell? ⟨g,i * 14+j,none⟩=some u:=by
 obtain ⟨q,xs,h0,h1,h2,h3,h4⟩:=h.2 i hi
 have hq:=h1
 obtain ⟨n0,s1,n2,n3,n4,n5,n6,n7,A8,l8,c8,vA,vl,vc,e,_⟩:=h1
 have e2:xs=[.int .i64 q.kind,.int .i64 n0,.string s1,.int .i64 n2,.int .i64 n3,.int .i64 n4,.int .i64 n5,.int .i64 n6,.int .i64 n7,.slice A8 l8 c8,.int .i64 q.vkind,.slice vA vl vc,.int .i64 q.day,.int .i64 q.scale]:=by
  injection e with e
  exact congrArg Array.toList e
 subst e2
 exact ⟨q,n0,s1,n2,n3,n4,n5,n6,n7,A8,l8,c8,vA,vl,vc,hq,h2,h3,h4⟩
theorem flatten_at14:∀ (css:List (List Value)) (j i:Nat) (cs:List Value),(∀ c∈css,c.length=14)→css[j]? = some cs→i<14→css.flatten[j * 14+i]? = cs[i]?
 | [],j,i,cs,_,h,_=>by simp at h
 | c :: css,0,i,cs,hl,h,hi=>by
  simp only [List.getElem?_cons_zero,Option.some.injEq] at h
  subst h
  rw [List.flatten_cons,List.getElem?_append_left (by have:=hl c (by simp);omega)]
  simp
 | c :: css,j+1,i,cs,hl,h,hi=>by
  have h14:=hl c (by simp)
  rw [List.flatten_cons,List.getElem?_append_right (by omega),h14,show (j+1) * 14+i - 14=j * 14+i by omega]
  exact flatten_at14 css j i cs (fun x hx=>hl x (List.mem_cons_of_mem _ hx)) (by simpa using h) hi
theorem QN.mk {w:World} {t:TypeId} (L:List (List Value)) (hL:∀ xs∈L,xs.length=14∧QB w (.agg xs.toArray)):QN L.length (w.alloc (.cells L.flatten.toArray t)) w.heap.size:=by
 have hO:Own (w.alloc (.cells L.flatten.toArray t)) w.heap.size t L.flatten:=Own.new w t _
 have hb:=below_new w (.cells L.flatten.toArray t)
 refine ⟨hO.lt,fun i hi=>?_⟩
 obtain ⟨h1,q,h2,h3,h4⟩:=hL L[i] (List.getElem_mem hi)
 refine ⟨q,L[i],h1,h2.on hb,h3,h4,fun j u hj=>?_⟩
 have hj14:j<14:=by
  have:=(List.getElem?_eq_some_iff.1 hj).1
  omega
 rw [hO.cell,flatten_at14 L i j L[i] (fun c hc=>(hL c hc).1) (List.getElem?_eq_getElem hi) hj14]
 exact hj
end Go.Proofs.YtmlpibdincfgbaaGreatDoor
