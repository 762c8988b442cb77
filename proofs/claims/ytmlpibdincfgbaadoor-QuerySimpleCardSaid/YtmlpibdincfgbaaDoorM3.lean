/-
  Chapter 38's reference: class, integer.
-/
import Derived.Test.YtmlpibdincfgbaaDoorM1
namespace Qy
end Qy
namespace Go.Proofs.YtmlpibdincfgbaaDoor
open Go.RowKit
set_option linter.unusedSimpArgs false
set_option linter.unusedVariables false
end Go.Proofs.YtmlpibdincfgbaaDoor
/-
 (second part)
-/
namespace Qy
theorem see_none {s:St} (h:see s≠[32]):s.2=none∧see s=hd s.1:=by
 obtain ⟨l,o⟩:=s
 cases o with
 | none=>exact ⟨rfl,rfl⟩
 | some y=>exact absurd see_bad h
end Qy
namespace Go.Proofs.YtmlpibdincfgbaaDoor
open Go.RowKit
set_option linter.unusedSimpArgs false
set_option linter.unusedVariables false
def EndF {α:Type} (B r:Nat) (w:World) (res:α × Qy.St) (val:α→Value→World→Prop) (e:Ending) (w':World):Prop:=
 At1 r w w'∧(∃ v,e=.returned v∧val res.1 v w')∧RfAt B r res.2 w'
theorem RfAt.far {B r:Nat} {s:Qy.St} {w:World} (h:RfAt B r s w) {g0:Nat} (hg:B≤g0) (i:Nat) (u:Value):RfAt B r s (w.setCell ⟨g0,i,none⟩ u):=
 h.keep ((Below.refl 0 w).setCell (Nat.zero_le _) u).size fun g hgb=>Below.heap_setCell w ⟨g0,i,none⟩ u g (show g≠g0 by omega)
end Go.Proofs.YtmlpibdincfgbaaDoor
