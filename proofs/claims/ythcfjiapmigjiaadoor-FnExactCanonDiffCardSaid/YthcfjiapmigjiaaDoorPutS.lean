/- A content put at a path of a tree, by the reference. -/
import Derived.Test.YthcfjiapmigjiaaDoorTreeV
import Derived.Test.YthcfjiapmigjiaaDoorOut
namespace Go.Proofs.YthcfjiapmigjiaaDoor
open Go.RowKit
set_option linter.unusedVariables false
set_option linter.unusedSimpArgs false
set_option maxRecDepth 20000

section
variable {α : Type} {enc : α → List Value} {k : Nat} {e : TypeId} {w W : World}
theorem OutB.lit {R : List α → Bool → Prop} {b : Bool} (hR : R [] b) (hb : Below w.heap.size w W) : OutB enc k e R w (.returned (.tuple #[.slice (some ⟨W.heap.size, 0, none⟩) 0 0, .bool b])) (W.alloc (.cells #[] e)) :=
  ⟨_, _, [], b, rfl, hR, World.ownsRow_lit W #[] 0 hb.size (by decide) (by simp), below_alloc hb _⟩
theorem OutZ.lit {R : List α → Int → Prop} {z : Int} (hR : R [] z) (hb : Below w.heap.size w W) : OutZ enc k e R w (.returned (.tuple #[.slice (some ⟨W.heap.size, 0, none⟩) 0 0, .int .i64 z])) (W.alloc (.cells #[] e)) :=
  ⟨_, _, [], z, rfl, hR, World.ownsRow_lit W #[] 0 hb.size (by decide) (by simp), below_alloc hb _⟩
end

theorem goP_nil (q : Nod) (d : Bool) : goP q d [] = if d then [] else [q] := by rw [goP]
theorem goP_ins {q n : Nod} {l : List Nod} (h : Op.bytesLess q.s n.s = true) : goP q false (n :: l) = q :: n :: goP q true l := by
  rw [goP, if_pos (by rw [h]; rfl)]
theorem goP_same {q n : Nod} {l : List Nod} {d : Bool} (h : n.s = q.s) : goP q d (n :: l) = if d then goP q true l else q :: goP q true l := by
  have hb : Op.bytesLess q.s n.s = false := by rw [h]; exact bl_irr _
  rw [goP, if_neg (by rw [hb]; simp), if_pos h]
theorem goP_keep {q n : Nod} {l : List Nod} {d : Bool} (h1 : d = true ∨ Op.bytesLess q.s n.s = false) (h : n.s ≠ q.s) : goP q d (n :: l) = n :: goP q d l := by
  rw [goP, if_neg (by rcases h1 with h1 | h1 <;> rw [h1] <;> simp), if_neg h]

/-- What TreePut answers. -/
def PutG (l : List Nod) (q : Nod) : Prop := (TreeP l ∧ 0 < depthL q.s ∧ okC q.x q.y = true) ∧ TreeP (putL l q)
def PutR (l : List Nod) (q : Nod) (ys : List Nod) (b : Bool) : Prop := b = true ∧ PutG l q ∧ ys = putL l q ∨ b = false ∧ ¬ PutG l q ∧ ys = []
theorem PutR.same {l : List Nod} {q : Nod} {a b : List Nod} {c d : Bool} (h : PutR l q a c) (k : PutR l q b d) : a = b ∧ c = d := by
  rcases h with ⟨rfl, h, rfl⟩ | ⟨rfl, h, rfl⟩ <;> rcases k with ⟨rfl, k, rfl⟩ | ⟨rfl, k, rfl⟩
  · exact ⟨rfl, rfl⟩
  · exact absurd h k
  · exact absurd k h
  · exact ⟨rfl, rfl⟩
theorem PutR.len {l : List Nod} {q : Nod} {a : List Nod} {c : Bool} (h : PutR l q a c) : a.length ≤ l.length + 1 := by
  rcases h with ⟨_, _, rfl⟩ | ⟨_, _, rfl⟩
  · exact put_len l q
  · exact Nat.zero_le _

end Go.Proofs.YthcfjiapmigjiaaDoor
