/-
  What keeps an Int and a fraction: the words stay.
-/
import Derived.Test.YthafhbogpfggjaaGreatDoorReg
import Derived.Test.YthafhbogpfggjaaGreatDoorF3
namespace Go.Proofs.YthafhbogpfggjaaGreatDoor
open Go.RowKit Mag

theorem WI.keeps {w w' : World} {neg : Bool} {A : Option Addr} {n c : Nat} {z : Int} (h : WI w neg A n c z) (k : Keeps w w') : WI w' neg A n c z := by
  obtain ⟨l, h1, h2, h3, h4⟩ := h
  refine ⟨l, h1, h2, ⟨fun hn => ?_, h3.ws, h3.nz, h3.cap, h3.mx⟩, h4⟩
  obtain ⟨g, off, e, hg, hc⟩ := h3.sl hn
  refine ⟨g, off, e, Nat.lt_of_lt_of_le hg k.size, fun i x hx => k.cell _ _ (hc i x hx) ?_⟩
  obtain ⟨y, _, rfl⟩ := List.mem_map.1 (List.mem_of_getElem? hx)
  exact ⟨_, .inl rfl⟩
theorem IV.is.keeps {x : IV} {w w' : World} {z : Int} (h : x.is w z) (k : Keeps w w') : x.is w' z := WI.keeps h k
theorem FV.is.keeps {f : FV} {w w' : World} {p q : Int} (h : f.is w p q) (k : Keeps w w') : f.is w' p q := ⟨h.num.keeps k, h.less.keeps k, h.pos, h.fits, h.cop⟩
end Go.Proofs.YthafhbogpfggjaaGreatDoor
