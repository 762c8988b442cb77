/-
  Package query: tokens, readers and regions in memory.
-/
import Derived.Test.YtmlpibdincfgbaaDoorProg
import Derived.Test.YtmlpibdincfgbaaDoorK4
import Derived.Test.YtmlpibdincfgbaaDoorT1
import Derived.Test.YtmlpibdincfgbaaDoorReg
import Derived.Below
import Derived.Lib.Hide
import Derived.WalkKit
import Derived.Laws.AppendOwn
namespace Go.Proofs.YtmlpibdincfgbaaDoor
open Go.RowKit
def bs (t:Qy.Bs):ByteArray:=⟨t.toArray⟩
theorem bs_list (t:Qy.Bs):(bs t).data.toList=t:=rfl
def At1 (r:Nat) (w w':World):Prop:=w.grownBy w' (some r)
theorem At1.refl (r:Nat) (w:World):At1 r w w:=⟨rfl,rfl,rfl,Nat.le_refl _,fun _ _ _=>rfl⟩
theorem At1.trans {r:Nat} {a b c:World} (h:At1 r a b) (k:At1 r b c):At1 r a c:=
 ⟨k.os.trans h.os,k.tape.trans h.tape,k.output.trans h.output,Nat.le_trans h.size k.size,fun j hj hr=>(k.block j (Nat.lt_of_lt_of_le hj h.size) hr).trans (h.block j hj hr)⟩
theorem At1.of_below {r:Nat} {w w':World} (h:Below w.heap.size w w'):At1 r w w':=⟨h.os,h.tape,h.output,h.size,fun k hk _=>h.block k hk⟩
theorem At1.below {r:Nat} {w w':World} (h:At1 r w w') (hr:r≤w.heap.size):Below r w w':=Below.grown (Below.refl r w) h hr fun k hk=>by cases hk;exact Nat.le_refl _
theorem At1.heap {r g:Nat} {w w':World} (h:At1 r w w') (hg:g<w.heap.size) (hne:g≠r):w'.heap[g]? = w.heap[g]?:=h.block g hg (fun e=>hne (by cases e;rfl))
theorem heap_lt {w:World} {g:Nat} {o:Obj} (h:w.heap[g]? = some o):g<w.heap.size:=by
 rcases Nat.lt_or_ge g w.heap.size with k | k
 ·exact k
 ·rw [Array.getElem?_eq_none k] at h;cases h
def TksAt (w:World) (B r:Nat) (A:Option Addr) (c:Nat) (l:List Qy.Tok):Prop:=
 l=[]∨∃ g off,A=some ⟨g,off,none⟩∧g≠r∧g<B∧g<w.heap.size∧l.length≤c∧∀ j t,l[j]? = some t→w.cell? ⟨g,off+j * 2,none⟩=some (.string (bs t.text))∧w.cell? ⟨g,off+j * 2+1,none⟩=some (.int .i64 (t.at_:Int))
theorem TksAt.at1 {w w':World} {B r:Nat} {A:Option Addr} {c:Nat} {l:List Qy.Tok} (h:TksAt w B r A c l) (k:At1 r w w'):TksAt w' B r A c l:=by
 rcases h with h | ⟨g,off,h1,h2,hb,h3,h4,h5⟩
 ·exact .inl h
 ·refine .inr ⟨g,off,h1,h2,hb,Nat.lt_of_lt_of_le h3 k.size,h4,fun j t ht=>?_⟩
  have e:∀ o,w'.cell? ⟨g,o,none⟩=w.cell? ⟨g,o,none⟩:=fun o=>World.cell?_of_block (a:=⟨g,o,none⟩) (k.heap h3 h2)
  rw [e,e]
  exact h5 j t ht
def RdAt (B r:Nat) (l:List Qy.Tok) (w:World):Prop:=
 r<B∧B≤w.heap.size∧∃ t rest A c,l=t :: rest∧Own w r 83 [.string (bs t.text),.int .i64 (t.at_:Int),.slice A rest.length c]∧TksAt w B r A c rest
theorem RdAt.lt {B r:Nat} {l:List Qy.Tok} {w:World} (h:RdAt B r l w):r<w.heap.size:=by
 exact Nat.lt_of_lt_of_le h.1 h.2.1
theorem RdAt.on {B r:Nat} {l:List Qy.Tok} {w w':World} (h:RdAt B r l w) (hb:Below w.heap.size w w'):RdAt B r l w':=by
 obtain ⟨b1,b2,t,rest,A,c,h1,h2,h3⟩:=h
 exact ⟨b1,Nat.le_trans b2 hb.size,t,rest,A,c,h1,h2.on hb,h3.at1 (At1.of_below hb)⟩
mutual
def RegAt (w:World) (S:Nat→Prop):List Value→Qy.Reg→Prop
 | cs,.mk k nm ax ay b0 b1 b2 b3 kids=>∃ A c,cs=[.int .i64 k,.string (bs nm),.int .i64 ax,.int .i64 ay,.int .i64 b0,.int .i64 b1,.int .i64 b2,.int .i64 b3,.slice A kids.length c]∧KidsAt w S A 0 kids
def KidsAt (w:World) (S:Nat→Prop) (A:Option Addr):Nat→List Qy.Reg→Prop
 | _,[]=>True
 | i,r :: l=>(∃ g off cs,A=some ⟨g,off,none⟩∧S g∧g<w.heap.size∧(∀ j v,cs[j]? = some v→w.cell? ⟨g,off+i * 9+j,none⟩=some v)∧RegAt w S cs r)∧KidsAt w S A (i+1) l
end
mutual
theorem RegAt.keep {w w':World} {S S':Nat→Prop} (hz:w.heap.size≤w'.heap.size) (hS:∀ g,S g→g<w.heap.size→S' g∧w'.heap[g]? = w.heap[g]?):∀ (cs:List Value) (R:Qy.Reg),RegAt w S cs R→RegAt w' S' cs R
 | cs,.mk k nm ax ay b0 b1 b2 b3 kids,h=>by
  rw [RegAt] at h ⊢
  obtain ⟨A,c,h1,h2⟩:=h
  exact ⟨A,c,h1,KidsAt.keep hz hS A 0 kids h2⟩
theorem KidsAt.keep {w w':World} {S S':Nat→Prop} (hz:w.heap.size≤w'.heap.size) (hS:∀ g,S g→g<w.heap.size→S' g∧w'.heap[g]? = w.heap[g]?) (A:Option Addr):∀ (i:Nat) (l:List Qy.Reg),KidsAt w S A i l→KidsAt w' S' A i l
 | _,[],_=>by rw [KidsAt];trivial
 | i,r :: l,h=>by
  rw [KidsAt] at h ⊢
  obtain ⟨⟨g,off,cs,h1,h2,h3,h4,h5⟩,h6⟩:=h
  obtain ⟨k1,k2⟩:=hS g h2 h3
  exact ⟨⟨g,off,cs,h1,k1,Nat.lt_of_lt_of_le h3 hz,fun j v hj=>(World.cell?_of_block (a:=⟨g,_,none⟩) k2).trans (h4 j v hj),RegAt.keep hz hS cs r h5⟩,KidsAt.keep hz hS A (i+1) l h6⟩
end
end Go.Proofs.YtmlpibdincfgbaaDoor
