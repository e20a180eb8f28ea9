/- Depths, parents and what is under a path, by both texts. -/
import Derived.Test.YtokapkpebadcaaaDoorPath2
import Derived.Test.YtokapkpebadcaaaDoorPathL
namespace Go.Proofs.YtokapkpebadcaaaDoor
open Go.RowKit
set_option linter.unusedVariables false
set_option linter.unusedSimpArgs false
set_option maxRecDepth 20000

theorem specDepth_any (s : ByteArray) (w : World) (hs : s.size ≤ 1048576) : Calls Tryd.prog 43 #[.string s] w fun e w' => e = .returned (.int .i64 (depthL s.data.toList)) ∧ Below w.heap.size w w' := by
  have hd : depthL s.data.toList = if pathB s.data.toList = true then ((s.size / 2 : Nat) : Int) else -1 := by unfold depthL; rw [Lib.size_eq]
  cases hb : pathB s.data.toList with
  | true =>
    have HD := Lib.hid (hd.trans (if_pos hb))
    have HB := Lib.hid hb
    clear hd hb
    go_enter Tryd.func43, Tryd.ntmps43
    go_wp2_with fail
    refine (specPath_any s _ hs).mono ?_
    rw [HB.out]
    rintro e w1 ⟨rfl, hb1⟩
    go_wp2_with fail
    go_ret
    exact ⟨ret_int (by rw [HD.out]; omega), hb1⟩
  | false =>
    have HD := Lib.hid (hd.trans (if_neg (by rw [hb]; simp)))
    have HB := Lib.hid hb
    clear hd hb
    go_enter Tryd.func43, Tryd.ntmps43
    go_wp2_with fail
    refine (specPath_any s _ hs).mono ?_
    rw [HB.out]
    rintro e w1 ⟨rfl, hb1⟩
    go_wp2_with fail
    go_ret
    exact ⟨ret_int HD.out.symm, hb1⟩
theorem implDepth_any (s : ByteArray) (w : World) (hs : s.size ≤ 1048576) (hm : MaxAt w) : Calls Tryd.prog 22 #[.string s] w fun e w' => e = .returned (.int .i64 (depthL s.data.toList)) ∧ Below w.heap.size w w' := by
  have hd : depthL s.data.toList = if pathB s.data.toList = true then ((s.size / 2 : Nat) : Int) else -1 := by unfold depthL; rw [Lib.size_eq]
  have HM := Lib.hid hm
  clear hm
  cases hb : pathB s.data.toList with
  | true =>
    have HD := Lib.hid (hd.trans (if_pos hb))
    have HB := Lib.hid hb
    clear hd hb
    go_enter Tryd.func22, Tryd.ntmps22
    go_wp2_with fail
    refine (implPath_any s _ hs HM.out).mono ?_
    rw [HB.out]
    rintro e w1 ⟨rfl, hb1⟩
    go_wp2_with fail
    go_ret
    exact ⟨ret_int (by rw [HD.out]; omega), hb1⟩
  | false =>
    have HD := Lib.hid (hd.trans (if_neg (by rw [hb]; simp)))
    have HB := Lib.hid hb
    clear hd hb
    go_enter Tryd.func22, Tryd.ntmps22
    go_wp2_with fail
    refine (implPath_any s _ hs HM.out).mono ?_
    rw [HB.out]
    rintro e w1 ⟨rfl, hb1⟩
    go_wp2_with fail
    go_ret
    exact ⟨ret_int HD.out.symm, hb1⟩

/-- A text that is handed back. -/
def RetS (l : List UInt8) (w : World) (e : Ending) (w' : World) : Prop := ∃ s : ByteArray, e = .returned (.string s) ∧ s.data.toList = l ∧ w = w'
def RetSB (l : List UInt8) (w : World) (e : Ending) (w' : World) : Prop := ∃ s : ByteArray, e = .returned (.string s) ∧ s.data.toList = l ∧ Below w.heap.size w w'

theorem specL1Parent_any (s : ByteArray) (w : World) (hs : s.size ≤ 1048576) : Calls Tryd.prog 44 #[.string s] w (RetS (parentL s.data.toList) w) := by
  have hd : parentL s.data.toList = if s.size ≤ 2 then [47] else s.data.toList.take (s.size - 2) := by unfold parentL; rw [Lib.size_eq]
  by_cases h2 : s.size ≤ 2
  · have HD := Lib.hid (hd.trans (if_pos h2))
    clear hd
    go_enter Tryd.func44, Tryd.ntmps44
    go_wp2_with fail
    go_ret
    exact ⟨_, rfl, HD.out.symm, rfl⟩
  · have HD := Lib.hid (hd.trans (if_neg h2))
    clear hd
    go_enter Tryd.func44, Tryd.ntmps44
    go_wp2_with fail
    go_ret
    refine ⟨_, rfl, ?_, rfl⟩
    rw [HD.out]
    first | exact Lib.extract_from_zero s (s.size - 2) | (rw [Lib.extract_data]; simp; done)
theorem implParent_any (s : ByteArray) (w : World) (hs : s.size ≤ 1048576) (h2 : 2 ≤ s.size) : Calls Tryd.prog 49 #[.string s] w (RetS (parentL s.data.toList) w) := by
  have hd : parentL s.data.toList = if s.size ≤ 2 then [47] else s.data.toList.take (s.size - 2) := by unfold parentL; rw [Lib.size_eq]
  by_cases h3 : s.size = 2
  · have HD := Lib.hid (hd.trans (if_pos (by omega)))
    have hb : ((s.size : Int) == 2) = true := by rw [h3]; rfl
    clear hd h3
    go_enter Tryd.func49, Tryd.ntmps49
    go_wp2_with fail
    go_ret
    exact ⟨_, rfl, HD.out.symm, rfl⟩
  · have HD := Lib.hid (hd.trans (if_neg (by omega)))
    have hb : ((s.size : Int) == 2) = false := beq_eq_false_iff_ne.2 (by omega)
    clear hd
    go_enter Tryd.func49, Tryd.ntmps49
    go_wp2_with fail
    go_ret
    refine ⟨_, rfl, ?_, rfl⟩
    rw [HD.out]
    first | exact Lib.extract_from_zero s (s.size - 2) | (rw [Lib.extract_data]; simp; done)

/-- The parent of a path; none of the root and of what is no path. -/
def pathParentL (l : List UInt8) : List UInt8 := if 0 < depthL l then parentL l else []
theorem specParent_any (s : ByteArray) (w : World) (hs : s.size ≤ 1048576) : Calls Tryd.prog 21 #[.string s] w (RetSB (pathParentL s.data.toList) w) := by
  by_cases hp : 0 < depthL s.data.toList
  · have HD := Lib.hid (show pathParentL s.data.toList = parentL s.data.toList from if_pos hp)
    go_enter Tryd.func21, Tryd.ntmps21
    go_wp2_with fail
    refine (specDepth_any s _ hs).mono ?_
    rintro e w1 ⟨rfl, hb1⟩
    go_wp2_with fail
    refine (specL1Parent_any s _ hs).mono ?_
    rintro e w2 ⟨t, rfl, ht, rfl⟩
    have HT := Lib.hid ht
    clear ht
    go_wp2_with fail
    go_ret
    exact ⟨t, rfl, HT.out.trans HD.out.symm, hb1⟩
  · have HD := Lib.hid (show pathParentL s.data.toList = [] from if_neg hp)
    go_enter Tryd.func21, Tryd.ntmps21
    go_wp2_with fail
    refine (specDepth_any s _ hs).mono ?_
    rintro e w1 ⟨rfl, hb1⟩
    go_wp2_with fail
    go_ret
    exact ⟨_, rfl, HD.out.symm, hb1⟩
theorem implPathParent_any (s : ByteArray) (w : World) (hs : s.size ≤ 1048576) (hm : MaxAt w) : Calls Tryd.prog 19 #[.string s] w (RetSB (pathParentL s.data.toList) w) := by
  have HM := Lib.hid hm
  clear hm
  by_cases hp : 0 < depthL s.data.toList
  · have HD := Lib.hid (show pathParentL s.data.toList = parentL s.data.toList from if_pos hp)
    have h1 := depth_pos.1 hp
    have hr : (s.toList == [47]) = false := by rw [toList_is rfl]; simpa using h1.2
    have h2 : 2 ≤ s.size := by rw [Lib.size_eq]; exact ((path_len h1.1).2.2 h1.2).1
    have HB := Lib.hid h1.1
    clear h1 hp
    go_enter Tryd.func19, Tryd.ntmps19
    go_wp2_with fail
    refine (implPath_any s _ hs HM.out).mono ?_
    rw [HB.out]
    rintro e w1 ⟨rfl, hb1⟩
    go_wp2_with fail
    refine (implParent_any s _ hs h2).mono ?_
    rintro e w2 ⟨t, rfl, ht, rfl⟩
    have HT := Lib.hid ht
    clear ht
    go_wp2_with fail
    go_ret
    exact ⟨t, rfl, HT.out.trans HD.out.symm, hb1⟩
  · have HD := Lib.hid (show pathParentL s.data.toList = [] from if_neg hp)
    cases hb : pathB s.data.toList with
    | true =>
      have hr : (s.toList == [47]) = true := by
        rw [toList_is rfl, beq_iff_eq]
        by_cases h : s.data.toList = [47]
        · exact h
        · exact absurd (depth_pos.2 ⟨hb, h⟩) hp
      have HB := Lib.hid hb
      clear hb hp
      go_enter Tryd.func19, Tryd.ntmps19
      go_wp2_with fail
      refine (implPath_any s _ hs HM.out).mono ?_
      rw [HB.out]
      rintro e w1 ⟨rfl, hb1⟩
      go_wp2_with fail
      go_ret
      exact ⟨_, rfl, HD.out.symm, hb1⟩
    | false =>
      have HB := Lib.hid hb
      clear hb hp
      go_enter Tryd.func19, Tryd.ntmps19
      go_wp2_with fail
      refine (implPath_any s _ hs HM.out).mono ?_
      rw [HB.out]
      rintro e w1 ⟨rfl, hb1⟩
      go_wp2_with fail
      go_ret
      exact ⟨_, rfl, HD.out.symm, hb1⟩
end Go.Proofs.YtokapkpebadcaaaDoor
