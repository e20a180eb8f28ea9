/- Depths, parents and what is under a path, by both texts. -/
import Derived.Test.YtmhmfdikncgdgaaDoorPath2
import Derived.Test.YtmhmfdikncgdgaaDoorPathL
namespace Go.Proofs.YtmhmfdikncgdgaaDoor
open Go.RowKit
set_option linter.unusedVariables false
set_option linter.unusedSimpArgs false
set_option maxRecDepth 20000

theorem specDepth_any (s : ByteArray) (w : World) (hs : s.size ≤ 1048576) : Calls Tryd.prog 57 #[.string s] w fun e w' => e = .returned (.int .i64 (depthL s.data.toList)) ∧ Below w.heap.size w w' := by
  have hd : depthL s.data.toList = if pathB s.data.toList = true then ((s.size / 2 : Nat) : Int) else -1 := by unfold depthL; rw [Lib.size_eq]
  cases hb : pathB s.data.toList with
  | true =>
    have HD := Lib.hid (hd.trans (if_pos hb))
    have HB := Lib.hid hb
    clear hd hb
    go_enter Tryd.func57, Tryd.ntmps57
    go_wp2_with fail
    refine (specPath_any s _ hs).mono ?_
    rw [HB.out]
    rintro e w1 ⟨rfl, hb1⟩
    go_wp2_with fail
    go_ret
    exact ⟨ret_int (by rw [HD.out]; omega), hb1⟩
  | false =>
    have HD := Lib.hid (hd.trans (if_neg (by rw [hb]; simp)))
    have HB := Lib.hid hb
    clear hd hb
    go_enter Tryd.func57, Tryd.ntmps57
    go_wp2_with fail
    refine (specPath_any s _ hs).mono ?_
    rw [HB.out]
    rintro e w1 ⟨rfl, hb1⟩
    go_wp2_with fail
    go_ret
    exact ⟨ret_int HD.out.symm, hb1⟩
/-- A text that is handed back. -/
def RetS (l : List UInt8) (w : World) (e : Ending) (w' : World) : Prop := ∃ s : ByteArray, e = .returned (.string s) ∧ s.data.toList = l ∧ w = w'
def RetSB (l : List UInt8) (w : World) (e : Ending) (w' : World) : Prop := ∃ s : ByteArray, e = .returned (.string s) ∧ s.data.toList = l ∧ Below w.heap.size w w'

/-- The parent of a path; none of the root and of what is no path. -/
def pathParentL (l : List UInt8) : List UInt8 := if 0 < depthL l then parentL l else []
end Go.Proofs.YtmhmfdikncgdgaaDoor
