/- What two contents' comparison answers. Over any program. -/
import Derived.Test.YthcfjiapmigjiaaDoorQ
namespace Go.Proofs.YthcfjiapmigjiaaDoor
theorem if2_yes {α : Type} {x y z u : Int} {a b : α} (h : (x == z && y == u) = true) : (if x = z then if y = u then a else b else b) = a := by
  simp at h; rw [if_pos h.1, if_pos h.2]
theorem if2_no {α : Type} {x y z u : Int} {a b : α} (h : (x == z && y == u) = false) : (if x = z then if y = u then a else b else b) = b := by
  by_cases h1 : x = z
  · by_cases h2 : y = u
    · simp [h1, h2] at h
    · rw [if_pos h1, if_neg h2]
  · rw [if_neg h1]
end Go.Proofs.YthcfjiapmigjiaaDoor
