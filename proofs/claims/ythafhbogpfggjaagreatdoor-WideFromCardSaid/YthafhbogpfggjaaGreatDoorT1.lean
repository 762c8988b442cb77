/-
  Texts as values.
-/
import Derived.Test.YthafhbogpfggjaaGreatDoorW2
import Derived.Test.YthafhbogpfggjaaGreatDoorT0
namespace Go.Proofs.YthafhbogpfggjaaGreatDoor
open Go.RowKit

def strV (l : List UInt8) : Value := .string ⟨l.toArray⟩
def TxtPost (w : World) (l : List UInt8) (e : Ending) (w' : World) : Prop := e = .returned (.string ⟨l.toArray⟩) ∧ Below w.heap.size w w'
theorem str_eq {s : ByteArray} {l : List UInt8} (h : s.data.toList = l) : s = ⟨l.toArray⟩ := by
  subst h
  cases s
  simp
theorem str_size {s : ByteArray} {l : List UInt8} (h : s.data.toList = l) : s.size = l.length := by
  subst h
  rw [Array.length_toList]; rfl
theorem str_cat (a b : ByteArray) : (a ++ b).data.toList = a.data.toList ++ b.data.toList := by
  simp
end Go.Proofs.YthafhbogpfggjaaGreatDoor
