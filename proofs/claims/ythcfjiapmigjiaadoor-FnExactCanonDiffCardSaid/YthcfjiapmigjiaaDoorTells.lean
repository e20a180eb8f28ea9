/- What a test answers. -/
import Derived.Test.YthcfjiapmigjiaaDoorBase
namespace Go.Proofs.YthcfjiapmigjiaaDoor
open Go.RowKit

/-- A test that answers whether P holds. -/
def Tells (P : Prop) (w : World) (e : Ending) (w' : World) : Prop := ∃ b : Bool, e = .returned (.bool b) ∧ (b = true ↔ P) ∧ Below w.heap.size w w'
theorem Tells.yes {P : Prop} (h : P) {w w' : World} (hb : Below w.heap.size w w') : Tells P w (.returned (.bool true)) w' := ⟨true, rfl, by simp [h], hb⟩
theorem Tells.no {P : Prop} (h : ¬ P) {w w' : World} (hb : Below w.heap.size w w') : Tells P w (.returned (.bool false)) w' := ⟨false, rfl, by simp [h], hb⟩
theorem same_tells {P : Prop} {a b : Bool} (ha : a = true ↔ P) (hb : b = true ↔ P) : a = b := by
  rw [Bool.eq_iff_iff]; exact ha.trans hb.symm
end Go.Proofs.YthcfjiapmigjiaaDoor
