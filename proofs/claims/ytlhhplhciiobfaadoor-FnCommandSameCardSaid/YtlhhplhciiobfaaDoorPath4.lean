/- What is under a path, by both texts. -/
import Derived.Test.YtlhhplhciiobfaaDoorPath3
namespace Go.Proofs.YtlhhplhciiobfaaDoor
open Go.RowKit
set_option linter.unusedVariables false
set_option linter.unusedSimpArgs false
set_option maxRecDepth 20000

theorem specUnder_any (a b : ByteArray) (w : World) (ha : a.size ≤ 1048576) (hb : b.size ≤ 1048576) : Calls Tryd.prog 65 #[.string a, .string b] w fun e w' => e = .returned (.bool (underL a.data.toList b.data.toList)) ∧ w = w' := by
  have hu : underL a.data.toList b.data.toList = (decide (a.data.toList = [47]) && !decide (b.data.toList = [47]) || decide (a.size < b.size) && decide ((b.extract 0 a.size).data.toList = a.data.toList)) := by
    unfold underL
    rw [Lib.extract_from_zero, Lib.size_eq a, Lib.size_eq b]
  have e1 : (a.toList == [47]) = decide (a.data.toList = [47]) := toList_beq rfl _
  have e2 : (b.toList == [47]) = decide (b.data.toList = [47]) := toList_beq rfl _
  have e3 : ((b.extract 0 a.size).toList == a.toList) = decide ((b.extract 0 a.size).data.toList = a.data.toList) := by rw [toList_is rfl (s := a)]; exact toList_beq rfl _
  cases h1 : decide (a.data.toList = [47]) with
  | true =>
    cases h2 : decide (b.data.toList = [47]) with
    | false =>
      rw [h1] at e1 hu
      rw [h2] at e2 hu
      have HU := Lib.hid hu
      clear hu e3 h1 h2
      go_enter Tryd.func65, Tryd.ntmps65
      go_wp2_with fail
      go_ret
      exact ⟨ret_bool (by rw [HU.out]; rfl), rfl⟩
    | true =>
      rw [h1] at e1 hu
      rw [h2] at e2 hu
      have HU := Lib.hid hu
      have hs : ¬ a.size < b.size := by
        rw [size_is (of_decide_eq_true h1), size_is (of_decide_eq_true h2)]; simp
      clear hu e3 h1 h2
      go_enter Tryd.func65, Tryd.ntmps65
      go_wp2_with fail
      go_ret
      exact ⟨ret_bool (by rw [HU.out, decide_eq_false hs]; rfl), rfl⟩
  | false =>
    rw [h1] at e1 hu
    by_cases hs : a.size < b.size
    · rw [decide_eq_true hs] at hu
      have HU := Lib.hid hu
      cases h3 : decide ((b.extract 0 a.size).data.toList = a.data.toList) with
      | true =>
        rw [h3] at e3
        have H3 := Lib.hid h3
        clear hu h1 h3 e2
        go_enter Tryd.func65, Tryd.ntmps65
        go_wp2_with fail
        go_ret
        exact ⟨ret_bool (by rw [HU.out, H3.out]; rfl), rfl⟩
      | false =>
        rw [h3] at e3
        have H3 := Lib.hid h3
        clear hu h1 h3 e2
        go_enter Tryd.func65, Tryd.ntmps65
        go_wp2_with fail
        go_ret
        exact ⟨ret_bool (by rw [HU.out, H3.out]; rfl), rfl⟩
    · rw [decide_eq_false hs] at hu
      have HU := Lib.hid hu
      clear hu h1 e3 e2
      go_enter Tryd.func65, Tryd.ntmps65
      go_wp2_with fail
      go_ret
      exact ⟨ret_bool (by rw [HU.out]; rfl), rfl⟩

theorem implUnder_any (a b : ByteArray) (w : World) (ha : pathB a.data.toList = true) (hb : pathB b.data.toList = true) : Calls Tryd.prog 69 #[.string a, .string b] w fun e w' => e = .returned (.bool (underL a.data.toList b.data.toList)) ∧ w = w' := by
  have e1 : (a.toList == [47]) = decide (a.data.toList = [47]) := toList_beq rfl _
  have e2 : (b.toList == [47]) = decide (b.data.toList = [47]) := toList_beq rfl _
  by_cases h1 : a.data.toList = [47]
  · have hu : underL a.data.toList b.data.toList = !decide (b.data.toList = [47]) := by rw [h1]; exact under_root_path hb
    rw [decide_eq_true h1] at e1
    have HU := Lib.hid hu
    cases h2 : decide (b.data.toList = [47]) with
    | true =>
      rw [h2] at e2
      have H2 := Lib.hid h2
      clear hu h1 h2 ha hb
      go_enter Tryd.func69, Tryd.ntmps69
      go_wp2_with fail
      go_ret
      exact ⟨ret_bool (by rw [HU.out, H2.out]; rfl), rfl⟩
    | false =>
      rw [h2] at e2
      have H2 := Lib.hid h2
      clear hu h1 h2 ha hb
      go_enter Tryd.func69, Tryd.ntmps69
      go_wp2_with fail
      go_ret
      exact ⟨ret_bool (by rw [HU.out, H2.out]; rfl), rfl⟩
  · have hu := under_prefix ha hb h1
    have hsa : a.size ≤ 8 := by rw [Lib.size_eq]; exact (path_len ha).2.1
    rw [decide_eq_false h1] at e1
    have HU := Lib.hid hu
    clear hu h1 e2 ha hb
    go_enter Tryd.func69, Tryd.ntmps69
    go_wp2_with fail
    refine (Tryd.strings_HasPrefix _ _ _).mono ?_
    rintro e w' ⟨rfl, rfl⟩
    go_wp2_with fail
    go_ret
    refine ⟨ret_bool ?_, rfl⟩
    rw [HU.out]
    unfold Lib.hasPrefix
    congr 1

def underAll (a b : List UInt8) : Bool := pathB a && pathB b && underL a b
end Go.Proofs.YtlhhplhciiobfaaDoor
