/- Contents: the range test, the validity of a content by both texts, the copy of a content; and the law on it. -/
import Derived.Test.YthcfjiapmigjiaaDoorProg
import Derived.Test.YthcfjiapmigjiaaDoorBase
import Derived.Deep.QuietTactic
import Derived.BigQuiet
import Derived.KernelRfl
namespace Go.Proofs.YthcfjiapmigjiaaDoor
open Go.RowKit
set_option linter.unusedSimpArgs false
set_option maxRecDepth 20000

def inB (n lo hi : Int) : Bool := decide (lo ≤ n ∧ n ≤ hi)
def okC (x y : Int) : Bool := decide ((x = 0 ∨ x = 1) ∧ y = 0 ∨ x = 2 ∧ 0 ≤ y ∧ y ≤ 99)

theorem implIn_any (n lo hi : Int) (w : World) : Calls Tryd.prog 70 #[.int .i64 n, .int .i64 lo, .int .i64 hi] w fun e w' => e = .returned (.bool (inB n lo hi)) ∧ w = w' := by
  go_enter Tryd.func70, Tryd.ntmps70
  go_wp2
  all_goals (go_ret; exact ⟨ret_bool (by unfold inB; simp; omega), rfl⟩)
theorem specIn_any (n lo hi : Int) (w : World) : Calls Tryd.prog 67 #[.int .i64 n, .int .i64 lo, .int .i64 hi] w fun e w' => e = .returned (.bool (inB n lo hi)) ∧ w = w' := by
  go_enter Tryd.func67, Tryd.ntmps67
  go_wp2
  all_goals (go_ret; exact ⟨ret_bool (by unfold inB; simp; omega), rfl⟩)

theorem okC_w0 {x y : Int} (h : (x == 0) = true) : (y == 0) = okC x y := by
  rw [beq_iff_eq] at h; subst h; rw [Bool.eq_iff_iff]; simp [okC]
theorem okC_w1 {x y : Int} (h : (x == 1) = true) : (y == 0) = okC x y := by
  rw [beq_iff_eq] at h; subst h; rw [Bool.eq_iff_iff]; simp [okC]
theorem okC_w2 {x y : Int} (h : (x == 2) = true) : inB y 0 99 = okC x y := by
  rw [beq_iff_eq] at h; subst h; rw [Bool.eq_iff_iff]; simp [okC, inB]
theorem okC_w3 {x y : Int} (h0 : (x == 0) = false) (h1 : (x == 1) = false) (h2 : (x == 2) = false) : false = okC x y := by
  rw [beq_eq_false_iff_ne] at h0 h1 h2; rw [Bool.eq_iff_iff]; simp [okC]; omega

theorem implContentValid_any (x y : Int) (w : World) : Calls Tryd.prog 53 #[.agg #[.int .i64 x, .int .i64 y]] w fun e w' => e = .returned (.bool (okC x y)) ∧ Below w.heap.size w w' := by
  go_enter Tryd.func53, Tryd.ntmps53
  go_wp2_with (go_at_call 70; refine (implIn_any _ _ _ _).mono ?_; rintro e w' ⟨rfl, rfl⟩)
  all_goals go_ret
  all_goals refine ⟨?_, (Below.refl _ _).alloc (Nat.le_refl _) _⟩
  · exact ret_bool (okC_w0 (by assumption))
  · exact ret_bool (okC_w1 (by assumption))
  · exact ret_bool (okC_w2 (by assumption))
  · exact ret_bool (okC_w3 (by assumption) (by assumption) (by assumption))
theorem specContentValid_any (x y : Int) (w : World) : Calls Tryd.prog 47 #[.agg #[.int .i64 x, .int .i64 y]] w fun e w' => e = .returned (.bool (okC x y)) ∧ Below w.heap.size w w' := by
  go_enter Tryd.func47, Tryd.ntmps47
  go_wp2_with (go_at_call 67; refine (specIn_any _ _ _ _).mono ?_; rintro e w' ⟨rfl, rfl⟩)
  all_goals go_ret
  all_goals refine ⟨ret_bool ?_, (Below.refl _ _).alloc (Nat.le_refl _) _⟩
  all_goals unfold okC
  all_goals first | (rw [Bool.eq_iff_iff]; simp [inB, *]; done) | (rw [Bool.eq_iff_iff]; simp [inB, *]; omega)

theorem toContent_any (x y : Int) (w : World) : Calls Tryd.prog 51 #[.agg #[.int .i64 x, .int .i64 y]] w fun e w' => e = .returned (.agg #[.int .i64 x, .int .i64 y]) ∧ Below w.heap.size w w' := by
  go_enter Tryd.func51, Tryd.ntmps51
  go_wp2
  refine bodyPost_ret (v := .agg #[.int .i64 x, .int .i64 y]) (by simp [results, Tryd.results51, go_sem]) rfl ⟨rfl, ?_⟩
  exact (((Below.refl _ _).alloc (Nat.le_refl _) _).alloc (by simp) _).alloc (by simp; omega) _
theorem eqContent_any (x y u v : Int) (w : World) : Calls Tryd.prog 62 #[.agg #[.int .i64 x, .int .i64 y], .agg #[.int .i64 u, .int .i64 v]] w fun e w' => e = .returned (.bool (decide (x = u ∧ y = v))) ∧ Below w.heap.size w w' := by
 by_cases h1 : x = u
 · by_cases h2 : y = v
   · subst h1 h2
     go_enter Tryd.func62, Tryd.ntmps62
     go_wp2_with fail
     go_ret
     exact ⟨ret_bool (by simp), below_alloc (below_alloc (Below.refl _ _) _) _⟩
   · have H2 := Lib.hid h2
     subst h1
     go_enter Tryd.func62, Tryd.ntmps62
     go_wp2_with fail
     go_ret
     exact ⟨ret_bool (decide_eq_false fun h => H2.out h.2).symm, below_alloc (below_alloc (Below.refl _ _) _) _⟩
 · have H1 := Lib.hid h1
   go_enter Tryd.func62, Tryd.ntmps62
   go_wp2_with fail
   go_ret
   exact ⟨ret_bool (decide_eq_false fun h => H1.out h.1).symm, below_alloc (below_alloc (Below.refl _ _) _) _⟩
end Go.Proofs.YthcfjiapmigjiaaDoor
