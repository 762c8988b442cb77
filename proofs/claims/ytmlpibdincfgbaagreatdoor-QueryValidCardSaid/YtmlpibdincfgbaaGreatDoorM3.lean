/-
  Chapter 38's reference: class, integer.
-/
import Derived.Test.YtmlpibdincfgbaaGreatDoorM1
namespace Qy
def cls (n:Nat):Nat:=if n=32 then 0 else if 97≤n∧n≤122 then 1 else if 48≤n∧n≤57 then 2 else if n=45 then 3 else 4
theorem cls_isD {c:UInt8} (h:isD c=true):cls c.toNat=2:=by
 simp only [isD,Bool.and_eq_true,decide_eq_true_eq] at h
 unfold cls
 rw [if_neg (by omega),if_neg (by omega),if_pos h]
theorem cls_notD {c:UInt8} (h:isD c=false):cls c.toNat≠2:=by
 simp only [isD,Bool.and_eq_false_iff,decide_eq_false_iff_not] at h
 unfold cls
 repeat' split
 all_goals omega
theorem cls_lt (n:Nat):cls n≤4:=by
 unfold cls
 repeat' split
 all_goals omega
end Qy
namespace Go.Proofs.YtmlpibdincfgbaaGreatDoor
open Go.RowKit
set_option linter.unusedSimpArgs false
set_option linter.unusedVariables false
set_option maxRecDepth 100000 in
theorem class_any (c:UInt8) (w:World):Calls Tryz.prog 63 #[.int .u8 (c.toNat:Int)] w fun e w'=>e=.returned (.int .i64 (Qy.cls c.toNat:Int))∧w'=w:=by
 generalize c.toNat=n
 unfold Qy.cls
 by_cases h1:n=32
 ·subst h1
  go_enter Tryz.func63,Tryz.ntmps63
  go_wp2
  go_returns
  exact ⟨rfl,rfl⟩
 rw [if_neg h1]
 have k1:¬ ((n:Int)=32):=by omega
 by_cases h2:97≤n
 ·have k2:(97:Int)≤(n:Int):=by omega
  by_cases h3:n≤122
  ·have k3:(n:Int)≤122:=by omega
   rw [if_pos ⟨h2,h3⟩]
   clear h1 h2 h3
   go_enter Tryz.func63,Tryz.ntmps63
   go_wp2
   go_returns
   exact ⟨rfl,rfl⟩
  ·have k3:¬ (n:Int)≤122:=by omega
   rw [if_neg (by omega),if_neg (by omega),if_neg (by omega)]
   have k4:(48:Int)≤(n:Int):=by omega
   have k5:¬ (n:Int)≤57:=by omega
   have k6:¬ ((n:Int)=45):=by omega
   clear h1 h2 h3
   go_enter Tryz.func63,Tryz.ntmps63
   go_wp2
   go_returns
   exact ⟨rfl,rfl⟩
 ·have k2:¬ (97:Int)≤(n:Int):=by omega
  rw [if_neg (by omega)]
  by_cases h3:48≤n
  ·have k3:(48:Int)≤(n:Int):=by omega
   by_cases h4:n≤57
   ·have k4:(n:Int)≤57:=by omega
    rw [if_pos ⟨h3,h4⟩]
    clear h1 h2 h3 h4
    go_enter Tryz.func63,Tryz.ntmps63
    go_wp2
    go_returns
    exact ⟨rfl,rfl⟩
   ·have k4:¬ (n:Int)≤57:=by omega
    have k5:¬ ((n:Int)=45):=by omega
    rw [if_neg (by omega),if_neg (by omega)]
    clear h1 h2 h3 h4
    go_enter Tryz.func63,Tryz.ntmps63
    go_wp2
    go_returns
    exact ⟨rfl,rfl⟩
  ·have k3:¬ (48:Int)≤(n:Int):=by omega
   rw [if_neg (by omega)]
   by_cases h4:n=45
   ·subst h4
    clear h1 h2 h3
    go_enter Tryz.func63,Tryz.ntmps63
    go_wp2
    go_returns
    exact ⟨rfl,rfl⟩
   ·have k4:¬ ((n:Int)=45):=by omega
    rw [if_neg h4]
    clear h1 h2 h3 h4
    go_enter Tryz.func63,Tryz.ntmps63
    go_wp2
    go_returns
    exact ⟨rfl,rfl⟩
end Go.Proofs.YtmlpibdincfgbaaGreatDoor
/-
 (second part)
-/
namespace Qy
theorem see_none {s:St} (h:see s≠[32]):s.2=none∧see s=hd s.1:=by
 obtain ⟨l,o⟩:=s
 cases o with
 | none=>exact ⟨rfl,rfl⟩
 | some y=>exact absurd see_bad h
end Qy
namespace Go.Proofs.YtmlpibdincfgbaaGreatDoor
open Go.RowKit
set_option linter.unusedSimpArgs false
set_option linter.unusedVariables false
def EndF {α:Type} (B r:Nat) (w:World) (res:α × Qy.St) (val:α→Value→World→Prop) (e:Ending) (w':World):Prop:=
 At1 r w w'∧(∃ v,e=.returned v∧val res.1 v w')∧RfAt B r res.2 w'
theorem RfAt.far {B r:Nat} {s:Qy.St} {w:World} (h:RfAt B r s w) {g0:Nat} (hg:B≤g0) (i:Nat) (u:Value):RfAt B r s (w.setCell ⟨g0,i,none⟩ u):=
 h.keep ((Below.refl 0 w).setCell (Nat.zero_le _) u).size fun g hgb=>Below.heap_setCell w ⟨g0,i,none⟩ u g (show g≠g0 by omega)
end Go.Proofs.YtmlpibdincfgbaaGreatDoor
