/- The walks of the laws on depths of paths. -/
import Derived.Test.YtlemkfpgdlfdnaaDoorPath3
import Derived.Test.YtlemkfpgdlfdnaaDoorDrawP
import Derived.Test.YtlemkfpgdlfdnaaDoorOpen
namespace Go.Proofs.YtlemkfpgdlfdnaaDoor
open Go.RowKit
set_option linter.unusedVariables false
set_option linter.unusedSimpArgs false

/-- A text that is drawn for a law. -/
def IsS (m : Nat) (w : World) (e : Ending) (w' : World) : Prop := ∃ s : ByteArray, e = .returned (.string s) ∧ s.size ≤ m ∧ Below w.heap.size w w'
theorem u8_bd' {l : List Int} (h : ∀ u ∈ l, (Lit.int .u8 u).wf = true) : ∀ z ∈ l, 0 ≤ z ∧ z ≤ 255 := fun z hz => bounds_u8 (h z hz)
theorem drawPathDepth_any (A : Option Addr) (n c : Nat) (l : List Int) (w : World) (hl : l.length = n) (hnc : n ≤ c) (ha : At encU8 1 w A l) (hby : ∀ z ∈ l, 0 ≤ z ∧ z ≤ 255) (hn : n ≤ 140737488355328) :
    Calls Tryd.prog 31 #[.slice A n c] w (IsS 10 w) := by
  go_enter Tryd.func31, Tryd.ntmps31
  go_wp2_with fail
  refine (l6Open_any A n c l _ hl hnc ha hby hn).mono ?_
  rintro e w1 ⟨g, rfl, hr, hg, hb1⟩
  clear hl
  go_wp2_with fail
  refine (l91Path_any g 0 _ hr (by omega)).mono ?_
  rintro e w2 ⟨s, rfl, hs, hr2, hg2⟩
  go_wp2_with fail
  go_ret
  exact ⟨s, rfl, hs, below_only hb1 hg2 (fun b hb => by injection hb with hb; omega)⟩
theorem depth_cases (s : ByteArray) : (pathB s.data.toList = false ∧ depthL s.data.toList = -1) ∨ (s.data.toList = [47] ∧ pathB s.data.toList = true ∧ depthL s.data.toList = 0) ∨ ∃ k : Nat, 1 ≤ k ∧ k ≤ 4 ∧ s.size = 2 * k ∧ (s.toList == [47]) = false ∧ pathB s.data.toList = true ∧ depthL s.data.toList = k := by
  by_cases h : pathB s.data.toList = true
  · by_cases hr : s.data.toList = [47]
    · exact .inr (.inl ⟨hr, h, by rw [hr]; exact depth_root⟩)
    · have h1 := path_len h
      have h2 := h1.2.2 hr
      rw [← Lib.size_eq] at h1 h2
      refine .inr (.inr ⟨s.size / 2, by omega, by omega, by omega, by rw [toList_is rfl]; simpa using hr, h, ?_⟩)
      unfold depthL; rw [if_pos h, ← Lib.size_eq]
  · exact .inl ⟨by simpa using h, by unfold depthL; rw [if_neg h]⟩

set_option maxHeartbeats 1000000 in
theorem walk_FnPathDepth (A0 : Option Addr) (n0 c0 : Nat) (l0 : List Int) (hl0 : l0.length = n0) (hnc0 : n0 ≤ c0) (hcm0 : c0 ≤ maxLen) (w : World) (ha0 : At encU 1 w A0 l0) (hw0 : ∀ u ∈ l0, (Lit.int .u8 u).wf = true) (hm : MaxAt w) :
   Calls Tryd.prog 11 #[.slice A0 n0 c0] w fun e w' => e = .returned (.bool true) ∧ Below w.heap.size w w' := by
 have H0 := Lib.hid hl0
 have HM := Lib.hid hm
 clear hl0 hm
 unfold maxLen at hcm0
 by_cases hb0 : 1048576 < n0
 · go_enter Tryd.func11, Tryd.ntmps11
   go_wp2
   go_ret
   exact ⟨rfl, Below.refl _ _⟩
 go_enter Tryd.func11, Tryd.ntmps11
 go_wp2_with fail
 refine (drawPathDepth_any A0 n0 c0 l0 _ H0.out hnc0 ha0 (u8_bd' hw0) (by omega)).mono ?_
 rintro e w1 ⟨s, rfl, hs, hb1⟩
 rcases depth_cases s with ⟨hp, hd⟩ | ⟨hr, hp, hd⟩ | ⟨k, hk1, hk4, hsz, hr, hp, hd⟩
 · have HP := Lib.hid hp
   have HD := Lib.hid hd
   clear hp hd
   go_wp2_with fail
   refine (implDepth_any s _ (by omega) (HM.out.belowS hb1)).mono ?_
   rw [HD.out]
   rintro e w2 ⟨rfl, hb2⟩
   have bw2 := below_step hb1 hb2
   go_wp2_with fail
   refine (specDepth_any s _ (by omega)).mono ?_
   rw [HD.out]
   rintro e w3 ⟨rfl, hb3⟩
   have bw3 := below_step bw2 hb3
   go_wp2_with fail
   go_ret
   exact ⟨rfl, bw3⟩
 · have hrb : (s.toList == [47]) = true := by rw [toList_is rfl, hr]; rfl
   have HP := Lib.hid hp
   have HD := Lib.hid hd
   clear hp hd hr
   go_wp2_with fail
   refine (implDepth_any s _ (by omega) (HM.out.belowS hb1)).mono ?_
   rw [HD.out]
   rintro e w2 ⟨rfl, hb2⟩
   have bw2 := below_step hb1 hb2
   go_wp2_with fail
   refine (specDepth_any s _ (by omega)).mono ?_
   rw [HD.out]
   rintro e w3 ⟨rfl, hb3⟩
   have bw3 := below_step bw2 hb3
   go_wp2_with fail
   refine (implPath_any s _ (by omega) (HM.out.belowS (below_step bw2 hb3))).mono ?_
   rw [HP.out]
   rintro e w4 ⟨rfl, hb4⟩
   have bw4 := below_step bw3 hb4
   go_wp2_with fail
   go_ret
   exact ⟨rfl, bw4⟩
 · have hx1 : ((k : Int) != (k : Int)) = false := by simp
   have hx2 : (2 * (k : Int) == (s.size : Int)) = true := by rw [beq_iff_eq]; omega
   have HP := Lib.hid hp
   have HD := Lib.hid hd
   clear hp hd hsz
   go_wp2_with fail
   refine (implDepth_any s _ (by omega) (HM.out.belowS hb1)).mono ?_
   rw [HD.out]
   rintro e w2 ⟨rfl, hb2⟩
   have bw2 := below_step hb1 hb2
   go_wp2_with fail
   refine (specDepth_any s _ (by omega)).mono ?_
   rw [HD.out]
   rintro e w3 ⟨rfl, hb3⟩
   have bw3 := below_step bw2 hb3
   go_wp2_with fail
   refine (implPath_any s _ (by omega) (HM.out.belowS (below_step bw2 hb3))).mono ?_
   rw [HP.out]
   rintro e w4 ⟨rfl, hb4⟩
   have bw4 := below_step bw3 hb4
   go_wp2_with fail
   go_ret
   exact ⟨ret_bool (b := decide ((k : Int) ≤ 4)) (decide_eq_true (by omega)), bw4⟩

set_option maxHeartbeats 1000000 in
theorem walk_FnPathDepthBad (A0 : Option Addr) (n0 c0 : Nat) (l0 : List Int) (hl0 : l0.length = n0) (hnc0 : n0 ≤ c0) (hcm0 : c0 ≤ maxLen) (w : World) (ha0 : At encU 1 w A0 l0) (hw0 : ∀ u ∈ l0, (Lit.int .u8 u).wf = true) (hm : MaxAt w) :
   Calls Tryd.prog 12 #[.slice A0 n0 c0] w fun e w' => e = .returned (.bool true) ∧ Below w.heap.size w w' := by
 have H0 := Lib.hid hl0
 have HM := Lib.hid hm
 clear hl0 hm
 unfold maxLen at hcm0
 by_cases hb0 : 1048576 < n0
 · go_enter Tryd.func12, Tryd.ntmps12
   go_wp2
   go_ret
   exact ⟨rfl, Below.refl _ _⟩
 go_enter Tryd.func12, Tryd.ntmps12
 go_wp2_with fail
 refine (drawPathDepth_any A0 n0 c0 l0 _ H0.out hnc0 ha0 (u8_bd' hw0) (by omega)).mono ?_
 rintro e w1 ⟨s, rfl, hs, hb1⟩
 obtain ⟨d, b, hd, hp, hdb⟩ : ∃ (d : Int) (b : Bool), depthL s.data.toList = d ∧ pathB s.data.toList = b ∧ (d == -1) = !b := by
   rcases depth_cases s with ⟨hp, hd⟩ | ⟨hr, hp, hd⟩ | ⟨k, hk1, hk4, hsz, hr, hp, hd⟩
   · exact ⟨_, _, hd, hp, rfl⟩
   · exact ⟨_, _, hd, hp, rfl⟩
   · exact ⟨_, _, hd, hp, beq_eq_false_iff_ne.2 (by omega)⟩
 have hx1 : (d != d) = false := by simp
 have HP := Lib.hid hp
 have HD := Lib.hid hd
 clear hp hd
 go_wp2_with fail
 refine (implDepth_any s _ (by omega) (HM.out.belowS hb1)).mono ?_
 rw [HD.out]
 rintro e w2 ⟨rfl, hb2⟩
 have bw2 := below_step hb1 hb2
 go_wp2_with fail
 refine (specDepth_any s _ (by omega)).mono ?_
 rw [HD.out]
 rintro e w3 ⟨rfl, hb3⟩
 have bw3 := below_step bw2 hb3
 cases b
 all_goals
   go_wp2_with fail
   refine (implPath_any s _ (by omega) (HM.out.belowS (below_step bw2 hb3))).mono ?_
   rw [HP.out]
   rintro e w4 ⟨rfl, hb4⟩
   have bw4 := below_step bw3 hb4
   go_wp2_with fail
   go_ret
   exact ⟨rfl, bw4⟩
end Go.Proofs.YtlemkfpgdlfdnaaDoor
