/- Depths, parents and what is under a path, by both texts. -/
import Derived.Test.YthcfjiapmigjiaaDoorPath2
import Derived.Test.YthcfjiapmigjiaaDoorPathL
namespace Go.Proofs.YthcfjiapmigjiaaDoor
open Go.RowKit
set_option linter.unusedVariables false
set_option linter.unusedSimpArgs false
set_option maxRecDepth 20000

theorem specDepth_any (s : ByteArray) (w : World) (hs : s.size ≤ 1048576) : Calls Tryd.prog 46 #[.string s] w fun e w' => e = .returned (.int .i64 (depthL s.data.toList)) ∧ Below w.heap.size w w' := by
  have hd : depthL s.data.toList = if pathB s.data.toList = true then ((s.size / 2 : Nat) : Int) else -1 := by unfold depthL; rw [Lib.size_eq]
  cases hb : pathB s.data.toList with
  | true =>
    have HD := Lib.hid (hd.trans (if_pos hb))
    have HB := Lib.hid hb
    clear hd hb
    go_enter Tryd.func46, Tryd.ntmps46
    go_wp2_with fail
    refine (specPath_any s _ hs).mono ?_
    rw [HB.out]
    rintro e w1 ⟨rfl, hb1⟩
    go_wp2_with fail
    go_ret
    exact ⟨ret_int (by rw [HD.out]; omega), hb1⟩
  | false =>
    have HD := Lib.hid (hd.trans (if_neg (by rw [hb]; simp)))
    have HB := Lib.hid hb
    clear hd hb
    go_enter Tryd.func46, Tryd.ntmps46
    go_wp2_with fail
    refine (specPath_any s _ hs).mono ?_
    rw [HB.out]
    rintro e w1 ⟨rfl, hb1⟩
    go_wp2_with fail
    go_ret
    exact ⟨ret_int HD.out.symm, hb1⟩
/-- A text that is handed back. -/
def RetS (l : List UInt8) (w : World) (e : Ending) (w' : World) : Prop := ∃ s : ByteArray, e = .returned (.string s) ∧ s.data.toList = l ∧ w = w'
def RetSB (l : List UInt8) (w : World) (e : Ending) (w' : World) : Prop := ∃ s : ByteArray, e = .returned (.string s) ∧ s.data.toList = l ∧ Below w.heap.size w w'

theorem specL1Parent_any (s : ByteArray) (w : World) (hs : s.size ≤ 1048576) : Calls Tryd.prog 48 #[.string s] w (RetS (parentL s.data.toList) w) := by
  have hd : parentL s.data.toList = if s.size ≤ 2 then [47] else s.data.toList.take (s.size - 2) := by unfold parentL; rw [Lib.size_eq]
  by_cases h2 : s.size ≤ 2
  · have HD := Lib.hid (hd.trans (if_pos h2))
    clear hd
    go_enter Tryd.func48, Tryd.ntmps48
    go_wp2_with fail
    go_ret
    exact ⟨_, rfl, HD.out.symm, rfl⟩
  · have HD := Lib.hid (hd.trans (if_neg h2))
    clear hd
    go_enter Tryd.func48, Tryd.ntmps48
    go_wp2_with fail
    go_ret
    refine ⟨_, rfl, ?_, rfl⟩
    rw [HD.out]
    first | exact Lib.extract_from_zero s (s.size - 2) | (rw [Lib.extract_data]; simp; done)
theorem implParent_any (s : ByteArray) (w : World) (hs : s.size ≤ 1048576) (h2 : 2 ≤ s.size) : Calls Tryd.prog 56 #[.string s] w (RetS (parentL s.data.toList) w) := by
  have hd : parentL s.data.toList = if s.size ≤ 2 then [47] else s.data.toList.take (s.size - 2) := by unfold parentL; rw [Lib.size_eq]
  by_cases h3 : s.size = 2
  · have HD := Lib.hid (hd.trans (if_pos (by omega)))
    have hb : ((s.size : Int) == 2) = true := by rw [h3]; rfl
    clear hd h3
    go_enter Tryd.func56, Tryd.ntmps56
    go_wp2_with fail
    go_ret
    exact ⟨_, rfl, HD.out.symm, rfl⟩
  · have HD := Lib.hid (hd.trans (if_neg (by omega)))
    have hb : ((s.size : Int) == 2) = false := beq_eq_false_iff_ne.2 (by omega)
    clear hd
    go_enter Tryd.func56, Tryd.ntmps56
    go_wp2_with fail
    go_ret
    refine ⟨_, rfl, ?_, rfl⟩
    rw [HD.out]
    first | exact Lib.extract_from_zero s (s.size - 2) | (rw [Lib.extract_data]; simp; done)

/-- The parent of a path; none of the root and of what is no path. -/
def pathParentL (l : List UInt8) : List UInt8 := if 0 < depthL l then parentL l else []
end Go.Proofs.YthcfjiapmigjiaaDoor
