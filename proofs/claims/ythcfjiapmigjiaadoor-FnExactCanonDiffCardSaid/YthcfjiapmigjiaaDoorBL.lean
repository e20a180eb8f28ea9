/- The order of texts, byte by byte. No program in sight. -/
import Derived.Test.YthcfjiapmigjiaaDoorBase
namespace Go.Proofs.YthcfjiapmigjiaaDoor
set_option linter.unusedVariables false

theorem bl_irr : ∀ a : List UInt8, Op.bytesLess a a = false
  | [] => rfl
  | x :: a => by simp [Op.bytesLess, bl_irr a]
theorem bl_total : ∀ a b : List UInt8, a ≠ b → Op.bytesLess b a = !Op.bytesLess a b
  | [], [], h => absurd rfl h
  | [], y :: b, _ => rfl
  | x :: a, [], _ => rfl
  | x :: a, y :: b, h => by
    unfold Op.bytesLess
    by_cases hxy : x = y
    · subst hxy
      have := bl_total a b (fun e => h (by rw [e]))
      simp [this]
    · have h1 : (x == y) = false := by simpa using hxy
      have h2 : (y == x) = false := by simpa using Ne.symm hxy
      rw [h1, h2]
      have h3 : x.toNat ≠ y.toNat := fun e => hxy (UInt8.toNat_inj.1 e)
      have h4 : (decide (y < x)) = !(decide (x < y)) := by
        rw [Bool.eq_iff_iff]; simp [UInt8.lt_iff_toNat_lt]; omega
      simp only [Bool.false_and, Bool.or_false]
      exact h4
theorem gt_eq (a b : List UInt8) : (!Op.bytesLess a b && !(a == b)) = Op.bytesLess b a := by
  by_cases h : a = b
  · subst h; simp [bl_irr]
  · rw [bl_total a b h]; have : (a == b) = false := by simpa using h
    rw [this]; simp
theorem leq_eq (a b : List UInt8) : (Op.bytesLess a b || a == b) = !Op.bytesLess b a := by
  rw [← gt_eq a b]; simp
theorem bl_trans : ∀ a b c : List UInt8, Op.bytesLess a b = true → Op.bytesLess b c = true → Op.bytesLess a c = true
  | _, [], _, h, _ => by cases ‹List UInt8› <;> simp [Op.bytesLess] at h
  | _, _ :: _, [], _, h => by simp [Op.bytesLess] at h
  | [], _ :: _, _ :: _, _, _ => rfl
  | x :: a, y :: b, z :: c, h1, h2 => by
    unfold Op.bytesLess at h1 h2 ⊢
    simp only [Bool.or_eq_true, Bool.and_eq_true, decide_eq_true_eq, beq_iff_eq, UInt8.lt_iff_toNat_lt] at h1 h2 ⊢
    rcases h1 with h1 | ⟨rfl, h1⟩ <;> rcases h2 with h2 | ⟨rfl, h2⟩
    · exact .inl (by omega)
    · exact .inl h1
    · exact .inl h2
    · exact .inr ⟨rfl, bl_trans a b c h1 h2⟩
theorem bl_ne {a b : List UInt8} (h : Op.bytesLess a b = true) : a ≠ b := by rintro rfl; rw [bl_irr] at h; cases h
theorem bl_asym {a b : List UInt8} (h : Op.bytesLess a b = true) : Op.bytesLess b a = false := by rw [bl_total a b (bl_ne h), h]; rfl
end Go.Proofs.YthcfjiapmigjiaaDoor
