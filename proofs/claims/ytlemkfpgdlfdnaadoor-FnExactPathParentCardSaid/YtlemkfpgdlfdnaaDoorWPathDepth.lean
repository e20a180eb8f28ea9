/- The walks of the exact laws on depths, parents. -/
import Derived.Test.YtlemkfpgdlfdnaaDoorPath3
namespace Go.Proofs.YtlemkfpgdlfdnaaDoor
open Go.RowKit
set_option linter.unusedVariables false
set_option linter.unusedSimpArgs false

theorem walk_FnExactPathDepth (s : ByteArray) (ws : s.size ≤ maxLen) (w : World) (hm : MaxAt w) :
    Calls Tryd.prog 5 #[.string s] w fun e w' => e = .returned (.bool true) ∧ Below w.heap.size w w' := by
  unfold maxLen at ws
  by_cases hbig : 1048576 < s.size
  · go_enter Tryd.func5, Tryd.ntmps5
    go_wp2_with fail
    go_ret
    exact ⟨rfl, Below.refl _ _⟩
  generalize hb : depthL s.data.toList = b
  have HB := Lib.hid hb
  have HM := Lib.hid hm
  have hx : (b != b) = false := by simp
  clear hm hb
  go_enter Tryd.func5, Tryd.ntmps5
  go_wp2_with fail
  refine (specDepth_any s _ (by omega)).mono ?_
  rw [HB.out]
  rintro e w1 ⟨rfl, hb1⟩
  go_wp2_with fail
  refine (implDepth_any s _ (by omega) (HM.out.belowS hb1)).mono ?_
  rw [HB.out]
  rintro e w2 ⟨rfl, hb2⟩
  have bw := below_step hb1 hb2
  go_wp2_with fail
  go_ret
  exact ⟨rfl, bw⟩
theorem walk_FnExactPathParent (s : ByteArray) (ws : s.size ≤ maxLen) (w : World) (hm : MaxAt w) :
    Calls Tryd.prog 10 #[.string s] w fun e w' => e = .returned (.bool true) ∧ Below w.heap.size w w' := by
  unfold maxLen at ws
  by_cases hbig : 1048576 < s.size
  · go_enter Tryd.func10, Tryd.ntmps10
    go_wp2_with fail
    go_ret
    exact ⟨rfl, Below.refl _ _⟩
  have HM := Lib.hid hm
  clear hm
  go_enter Tryd.func10, Tryd.ntmps10
  go_wp2_with fail
  refine (specParent_any s _ (by omega)).mono ?_
  rintro e w1 ⟨t1, rfl, ht1, hb1⟩
  have HT1 := Lib.hid ht1
  clear ht1
  go_wp2_with fail
  refine (implPathParent_any s _ (by omega) (HM.out.belowS hb1)).mono ?_
  rintro e w2 ⟨t2, rfl, ht2, hb2⟩
  have hx : (t2.toList == t1.toList) = true := by rw [toList_is ht2, toList_is HT1.out]; simp
  have bw := below_step hb1 hb2
  clear ht2
  go_wp2_with fail
  go_ret
  exact ⟨rfl, bw⟩
end Go.Proofs.YtlemkfpgdlfdnaaDoor
