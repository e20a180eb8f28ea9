/- The walks of the exact laws on paths. -/
import Derived.Test.YtlemkfpgdlfdnaaDoorPath2
namespace Go.Proofs.YtlemkfpgdlfdnaaDoor
open Go.RowKit
set_option linter.unusedVariables false
set_option linter.unusedSimpArgs false

theorem bool_ne_self (b : Bool) : (!(b == b)) = false := by simp

theorem walk_FnExactPathValid (s : ByteArray) (ws : s.size ≤ maxLen) (w : World) (hm : MaxAt w) :
    Calls Tryd.prog 4 #[.string s] w fun e w' => e = .returned (.bool true) ∧ Below w.heap.size w w' := by
  unfold maxLen at ws
  by_cases hbig : 1048576 < s.size
  · go_enter Tryd.func4, Tryd.ntmps4
    go_wp2_with fail
    go_ret
    exact ⟨rfl, Below.refl _ _⟩
  generalize hb : pathB s.data.toList = b
  have HB := Lib.hid hb
  clear hb
  have HM := Lib.hid hm
  clear hm
  go_enter Tryd.func4, Tryd.ntmps4
  go_wp2_with fail
  refine (specPath_any s _ (by omega)).mono ?_
  rw [HB.out]
  rintro e w1 ⟨rfl, hb1⟩
  go_wp2_with fail
  refine (implPath_any s _ (by omega) (HM.out.belowS hb1)).mono ?_
  rw [HB.out]
  rintro e w2 ⟨rfl, hb2⟩
  have bw := below_step hb1 hb2
  cases b <;> (go_wp2_with fail; go_ret; exact ⟨rfl, bw⟩)
end Go.Proofs.YtlemkfpgdlfdnaaDoor
