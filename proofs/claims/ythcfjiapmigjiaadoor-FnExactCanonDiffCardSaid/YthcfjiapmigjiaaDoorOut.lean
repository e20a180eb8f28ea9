/- Slices that a function hands back, with a Bool or a number beside them. -/
import Derived.Test.YthcfjiapmigjiaaDoorAppend
namespace Go.Proofs.YthcfjiapmigjiaaDoor
open Go.RowKit
set_option linter.unusedVariables false

/-- A slice of the call's own that holds a list of which R tells. -/
def OutR {α : Type} (enc : α → List Value) (k : Nat) (e : TypeId) (R : List α → Prop) (w : World) (en : Ending) (w' : World) : Prop :=
  ∃ A c ys, en = .returned (.slice A ys.length c) ∧ R ys ∧ w'.ownsRow w.heap.size e k (.slice A ys.length c) ys.length (ys.flatMap enc) ∧ Below w.heap.size w w'
def OutB {α : Type} (enc : α → List Value) (k : Nat) (e : TypeId) (R : List α → Bool → Prop) (w : World) (en : Ending) (w' : World) : Prop :=
  ∃ A c ys b, en = .returned (.tuple #[.slice A ys.length c, .bool b]) ∧ R ys b ∧ w'.ownsRow w.heap.size e k (.slice A ys.length c) ys.length (ys.flatMap enc) ∧ Below w.heap.size w w'
def OutZ {α : Type} (enc : α → List Value) (k : Nat) (e : TypeId) (R : List α → Int → Prop) (w : World) (en : Ending) (w' : World) : Prop :=
  ∃ A c ys z, en = .returned (.tuple #[.slice A ys.length c, .int .i64 z]) ∧ R ys z ∧ w'.ownsRow w.heap.size e k (.slice A ys.length c) ys.length (ys.flatMap enc) ∧ Below w.heap.size w w'
section
variable {α : Type} {enc : α → List Value} {k : Nat} {e : TypeId} {w w' : World} {v : Value} {ys : List α} {n : Nat}
theorem OutR.of {R : List α → Prop} (hn : ys.length = n) (hR : R ys) (h : w'.ownsRow w.heap.size e k v n (ys.flatMap enc)) (hb : Below w.heap.size w w') : OutR enc k e R w (.returned v) w' := by
  subst hn
  obtain ⟨A, c, rfl, _, _, _⟩ := own_form h
  exact ⟨A, c, ys, rfl, hR, h, hb⟩
theorem OutR.nil {R : List α → Prop} (hR : R []) (hb : Below w.heap.size w w') : OutR enc k e R w (.returned (.slice none 0 0)) w' :=
  ⟨none, 0, [], rfl, hR, World.ownsRow_nil _ _ _ _, hb⟩
theorem OutB.nil {R : List α → Bool → Prop} {b : Bool} (hR : R [] b) (hb : Below w.heap.size w w') : OutB enc k e R w (.returned (.tuple #[.slice none 0 0, .bool b])) w' :=
  ⟨none, 0, [], b, rfl, hR, World.ownsRow_nil _ _ _ _, hb⟩
theorem OutZ.nil {R : List α → Int → Prop} {z : Int} (hR : R [] z) (hb : Below w.heap.size w w') : OutZ enc k e R w (.returned (.tuple #[.slice none 0 0, .int .i64 z])) w' :=
  ⟨none, 0, [], z, rfl, hR, World.ownsRow_nil _ _ _ _, hb⟩
end
end Go.Proofs.YthcfjiapmigjiaaDoor
