/-
  Chapter 38's reference: tokens.
-/
import Derived.Test.YtmlpibdincfgbaaGreatDoorM6
import Derived.Test.YtmlpibdincfgbaaGreatDoorK17
import Derived.Test.YtmlpibdincfgbaaGreatDoorK19
import Derived.Test.YtmlpibdincfgbaaGreatDoorL34
namespace Qy
end Qy
namespace Go.Proofs.YtmlpibdincfgbaaGreatDoor
open Go.RowKit
set_option linter.unusedSimpArgs false
set_option linter.unusedVariables false
theorem owns_below {w w':World} {B n:Nat} {v:Value} {e:TypeId} {sz:Nat} {xs:List Value} (h:w.ownsRow B e sz v n xs) (k:Below w.heap.size w w'):w'.ownsRow B e sz v n xs:=by
 refine ⟨h.1,?_⟩
 rcases h.2 with h | ⟨g,cap,cur,e,k2,k3,k4⟩
 ·exact .inl h
 ·exact .inr ⟨g,cap,cur,e,k2,(k.block g (heap_lt k3)).trans k3,k4⟩
theorem below_row {w wr w6 w7:World} {v:Value} {n:Nat} {e:TypeId} {sz:Nat} {xs:List Value} (h:Below w.heap.size w wr) (k:Below wr.heap.size wr w6) (hr:wr.ownsRow w.heap.size e sz v n xs) (hg:w6.grownBy w7 v.ownBlock):Below w.heap.size w w7:=by
 have hv:∀ g,v.ownBlock=some g→w.heap.size≤g:=fun g e=>by
  rcases hr.2 with ⟨e1,_⟩ | ⟨g9,_,_,e1,e2,_⟩
  ·rw [e1] at e;cases e
  ·rw [e1] at e;cases e;exact e2
 exact ⟨hg.os.trans (k.os.trans h.os),hg.tape.trans (k.tape.trans h.tape),hg.output.trans (k.output.trans h.output),Nat.le_trans h.size (Nat.le_trans k.size hg.size),fun j hj=>
  (hg.block j (Nat.lt_of_lt_of_le hj (Nat.le_trans h.size k.size)) (fun e=>by have:=hv j e.symm;omega)).trans ((k.block j (Nat.lt_of_lt_of_le hj h.size)).trans (h.block j hj))⟩
theorem owns_slice {w:World} {B n:Nat} {v:Value} {e:TypeId} {sz:Nat} {xs:List Value} (h:w.ownsRow B e sz v n xs):∃ A c,v=.slice A n c:=by
 rcases h.2 with ⟨rfl,h0⟩ | ⟨g,cap,cur,rfl,_⟩
 ·exact ⟨none,0,by rw [h0]⟩
 ·exact ⟨_,_,rfl⟩
end Go.Proofs.YtmlpibdincfgbaaGreatDoor
