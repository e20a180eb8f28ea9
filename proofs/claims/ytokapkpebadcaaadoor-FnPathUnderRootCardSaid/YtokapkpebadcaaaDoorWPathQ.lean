/- The walks of the laws on parents and on what is under a path. -/
import Derived.Test.YtokapkpebadcaaaDoorPath4
import Derived.Test.YtokapkpebadcaaaDoorDrawP
import Derived.Test.YtokapkpebadcaaaDoorOpen
import Derived.Test.YtokapkpebadcaaaDoorPathM
namespace Go.Proofs.YtokapkpebadcaaaDoor
open Go.RowKit
set_option linter.unusedVariables false
set_option linter.unusedSimpArgs false
set_option maxRecDepth 20000

theorem drawPathParent_any (A : Option Addr) (n c : Nat) (l : List Int) (w : World) (hl : l.length = n) (hnc : n ≤ c) (ha : At encU8 1 w A l) (hby : ∀ z ∈ l, 0 ≤ z ∧ z ≤ 255) (hn : n ≤ 140737488355328) :
    Calls Tryd.prog 20 #[.slice A n c] w (IsS 10 w) := by
  go_enter Tryd.func20, Tryd.ntmps20
  go_wp2_with fail
  refine (l6Open_any A n c l _ hl hnc ha hby hn).mono ?_
  rintro e w1 ⟨g, rfl, hr, hg, hb1⟩
  clear hl
  go_wp2_with fail
  refine (l91Path_any g 0 _ hr (by omega)).mono ?_
  rintro e w2 ⟨s, rfl, hs, hr2, hg2⟩
  go_wp2_with fail
  go_ret
  exact ⟨s, rfl, hs, below_only hb1 hg2 (fun b hb => by injection hb with hb; omega)⟩

/-- Two texts that are drawn for a law. -/
def IsSS (m : Nat) (w : World) (e : Ending) (w' : World) : Prop := ∃ s t : ByteArray, e = .returned (.tuple #[.string s, .string t]) ∧ s.size ≤ m ∧ t.size ≤ m ∧ Below w.heap.size w w'
theorem parentL_len (l : List UInt8) : (parentL l).length ≤ 1 + l.length := by
  unfold parentL
  split
  · simp
  · rw [List.length_take]; omega
set_option maxHeartbeats 1000000 in
theorem drawPathUnder_any (A : Option Addr) (n c : Nat) (l : List Int) (w : World) (hl : l.length = n) (hnc : n ≤ c) (ha : At encU8 1 w A l) (hby : ∀ z ∈ l, 0 ≤ z ∧ z ≤ 255) (hn : n ≤ 140737488355328) :
    Calls Tryd.prog 15 #[.slice A n c] w (IsSS 11 w) := by
  go_enter Tryd.func15, Tryd.ntmps15
  go_wp2_with fail
  refine (l6Open_any A n c l _ hl hnc ha hby hn).mono ?_
  rintro e w1 ⟨g, rfl, hr, hg, hb1⟩
  clear hl
  go_wp2_with fail
  refine (l91Path_any g 0 _ hr (by omega)).mono ?_
  rintro e w2 ⟨s, rfl, hs, hr2, hg2⟩
  have bw2 := below_only hb1 hg2 (fun b hb => by injection hb with hb; omega)
  clear hg2 hb1
  go_wp2_with fail
  refine (pick_any 2 g (0 + 8) _ hr2 (by omega) (by omega) (by omega)).mono ?_
  rintro e w3 ⟨r3, rfl, h30, h31, -, hr3, hg3⟩
  have bw3 := below_only bw2 hg3 (fun b hb => by injection hb with hb; omega)
  clear hg3 h31 hr2
  by_cases k0 : r3 = 0
  · subst k0
    go_wp2_with fail
    refine (specDepth_any s _ (by omega)).mono ?_
    rintro e w4 ⟨rfl, hb4⟩
    have bw4 := below_step bw3 hb4
    have hr4 := hr3.below hb4
    by_cases hd : 0 < depthL s.data.toList
    · go_wp2_with fail
      refine (specL1Parent_any s _ (by omega)).mono ?_
      rintro e w5 ⟨t, rfl, ht, rfl⟩
      have htz : t.size ≤ 11 := by rw [Lib.size_eq, ht]; have := parentL_len s.data.toList; rw [← Lib.size_eq] at this; omega
      clear ht
      go_wp2_with fail
      refine bodyPost_ret (v := .tuple #[.string t, .string s]) (by simp [results, Tryd.results15, go_sem]) rfl ?_
      exact ⟨t, s, rfl, htz, by omega, bw4⟩
    · go_wp2_with fail
      refine (l91Path_any g (0 + 8 + 1) _ hr4 (by omega)).mono ?_
      rintro e w5 ⟨t, rfl, ht, hr5, hg5⟩
      go_wp2_with fail
      refine bodyPost_ret (v := .tuple #[.string s, .string t]) (by simp [results, Tryd.results15, go_sem]) rfl ?_
      exact ⟨s, t, rfl, by omega, by omega, below_only bw4 hg5 (fun b hb => by injection hb with hb; omega)⟩
  · have k0' : (r3 == 0) = false := by simpa using k0
    clear k0
    go_wp2_with fail
    refine (l91Path_any g (0 + 8 + 1) _ hr3 (by omega)).mono ?_
    rintro e w5 ⟨t, rfl, ht, hr5, hg5⟩
    go_wp2_with fail
    refine bodyPost_ret (v := .tuple #[.string s, .string t]) (by simp [results, Tryd.results15, go_sem]) rfl ?_
    exact ⟨s, t, rfl, by omega, by omega, below_only bw3 hg5 (fun b hb => by injection hb with hb; omega)⟩

set_option maxHeartbeats 1000000 in
theorem walk_FnPathParent (A0 : Option Addr) (n0 c0 : Nat) (l0 : List Int) (hl0 : l0.length = n0) (hnc0 : n0 ≤ c0) (hcm0 : c0 ≤ maxLen) (w : World) (ha0 : At encU 1 w A0 l0) (hw0 : ∀ u ∈ l0, (Lit.int .u8 u).wf = true) (hm : MaxAt w) :
    Calls Tryd.prog 5 #[.slice A0 n0 c0] w fun e w' => e = .returned (.bool true) ∧ Below w.heap.size w w' := by
  have H0 := Lib.hid hl0
  have HM := Lib.hid hm
  clear hl0 hm
  unfold maxLen at hcm0
  by_cases hb0 : 1048576 < n0
  · go_enter Tryd.func5, Tryd.ntmps5
    go_wp2
    go_ret
    exact ⟨rfl, Below.refl _ _⟩
  go_enter Tryd.func5, Tryd.ntmps5
  go_wp2_with fail
  refine (drawPathParent_any A0 n0 c0 l0 _ H0.out hnc0 ha0 (u8_bd' hw0) (by omega)).mono ?_
  rintro e w1 ⟨s, rfl, hs, bw1⟩
  have HM1 := Lib.hid (HM.out.belowS bw1)
  go_wp2_with fail
  refine (implPathParent_any s _ (by omega) HM1.out).mono ?_
  rintro e w2 ⟨t, rfl, ht, hb2⟩
  have bw2 := below_step bw1 hb2
  have HM2 := Lib.hid (HM1.out.belowS hb2)
  have HT := Lib.hid ht
  clear ht
  go_wp2_with fail
  refine (specParent_any s _ (by omega)).mono ?_
  rintro e w3 ⟨u, rfl, hu, hb3⟩
  have bw3 := below_step bw2 hb3
  have HM3 := Lib.hid (HM2.out.belowS hb3)
  have hx1 : (t.toList == u.toList) = true := by rw [toList_is HT.out, toList_is hu]; simp
  by_cases hd : 0 < depthL s.data.toList
  · obtain ⟨p, k, h1, h2, hp8, h3, h4, hk, h5, h6⟩ := parent_facts hd
    have hpp : pathParentL s.data.toList = p := (if_pos hd).trans h1
    have hx2 : (u.toList == []) = false := by rw [toList_is hu, hpp]; simpa using h2
    have htp := HT.out.trans hpp
    have htz : t.size ≤ 8 := by rw [Lib.size_eq, htp]; exact hp8
    have HP := Lib.hid htp
    have H3 := Lib.hid h3
    have H4 := Lib.hid h4
    have H5 := Lib.hid h5
    have H6 := Lib.hid h6
    clear h1 h2 h3 h4 h5 h6 hpp htp hu hd
    go_wp2_with fail
    refine (implDepth_any t _ (by omega) HM3.out).mono ?_
    rw [HP.out, H3.out]
    rintro e w4 ⟨rfl, hb4⟩
    have bw4 := below_step bw3 hb4
    have HM4 := Lib.hid (HM3.out.belowS hb4)
    go_wp2_with fail
    refine (implDepth_any s _ (by omega) HM4.out).mono ?_
    rw [H4.out]
    rintro e w5 ⟨rfl, hb5⟩
    have bw5 := below_step bw4 hb5
    have HM5 := Lib.hid (HM4.out.belowS hb5)
    have hw5 : IntKind.i64.wrap (((k + 1 : Nat) : Int) - 1) = (k : Int) := by rw [IntWalk.i64_in _ (by omega)]; omega
    go_wp2_with fail
    refine (implPathUnder_any t s _ (by omega) (by omega) HM5.out).mono ?_
    unfold underAll
    rw [HP.out, H5.out]
    rintro e w6 ⟨rfl, hb6⟩
    have bw6 := below_step bw5 hb6
    have HM6 := Lib.hid (HM5.out.belowS hb6)
    go_wp2_with fail
    refine (implPathUnder_any s t _ (by omega) (by omega) HM6.out).mono ?_
    unfold underAll
    rw [HP.out, H6.out]
    rintro e w7 ⟨rfl, hb7⟩
    have bw7 := below_step bw6 hb7
    go_wp2_with fail
    go_ret
    exact ⟨rfl, bw7⟩
  · have hpp : pathParentL s.data.toList = [] := if_neg hd
    have hx2 : (u.toList == []) = true := by rw [toList_is hu, hpp]; rfl
    clear hu hd
    go_wp2_with fail
    go_ret
    exact ⟨rfl, bw3⟩

set_option maxHeartbeats 1000000 in
theorem walk_FnPathUnder (A0 : Option Addr) (n0 c0 : Nat) (l0 : List Int) (hl0 : l0.length = n0) (hnc0 : n0 ≤ c0) (hcm0 : c0 ≤ maxLen) (w : World) (ha0 : At encU 1 w A0 l0) (hw0 : ∀ u ∈ l0, (Lit.int .u8 u).wf = true) (hm : MaxAt w) :
    Calls Tryd.prog 4 #[.slice A0 n0 c0] w fun e w' => e = .returned (.bool true) ∧ Below w.heap.size w w' := by
  have H0 := Lib.hid hl0
  have HM := Lib.hid hm
  clear hl0 hm
  unfold maxLen at hcm0
  by_cases hb0 : 1048576 < n0
  · go_enter Tryd.func4, Tryd.ntmps4
    go_wp2
    go_ret
    exact ⟨rfl, Below.refl _ _⟩
  go_enter Tryd.func4, Tryd.ntmps4
  go_wp2_with fail
  refine (drawPathUnder_any A0 n0 c0 l0 _ H0.out hnc0 ha0 (u8_bd' hw0) (by omega)).mono ?_
  rintro e w1 ⟨a, b, rfl, ha, hb, bw1⟩
  have HM1 := Lib.hid (HM.out.belowS bw1)
  cases hx : underAll a.data.toList b.data.toList with
  | false =>
    have HX := Lib.hid hx
    clear hx
    go_wp2_with fail
    refine (implPathUnder_any a b _ (by omega) (by omega) HM1.out).mono ?_
    rw [HX.out]
    rintro e w2 ⟨rfl, hb2⟩
    have bw2 := below_step bw1 hb2
    go_wp2_with fail
    refine (specPathUnder_any a b _ (by omega) (by omega)).mono ?_
    rw [HX.out]
    rintro e w3 ⟨rfl, hb3⟩
    have bw3 := below_step bw2 hb3
    go_wp2_with fail
    go_ret
    exact ⟨rfl, bw3⟩
  | true =>
    have HX := Lib.hid hx
    obtain ⟨p, hp, hp8, hpa⟩ := under_parent hx
    have HP := Lib.hid (show pathParentL b.data.toList = p from hp)
    clear hx hp
    go_wp2_with fail
    refine (implPathUnder_any a b _ (by omega) (by omega) HM1.out).mono ?_
    rw [HX.out]
    rintro e w2 ⟨rfl, hb2⟩
    have bw2 := below_step bw1 hb2
    have HM2 := Lib.hid (HM1.out.belowS hb2)
    go_wp2_with fail
    refine (specPathUnder_any a b _ (by omega) (by omega)).mono ?_
    rw [HX.out]
    rintro e w3 ⟨rfl, hb3⟩
    have bw3 := below_step bw2 hb3
    have HM3 := Lib.hid (HM2.out.belowS hb3)
    go_wp2_with fail
    refine (implPathParent_any b _ (by omega) HM3.out).mono ?_
    rw [HP.out]
    rintro e w4 ⟨t, rfl, ht, hb4⟩
    have bw4 := below_step bw3 hb4
    have HM4 := Lib.hid (HM3.out.belowS hb4)
    have htz : t.size ≤ 8 := by rw [Lib.size_eq, ht]; exact hp8
    by_cases hpe : p = a.data.toList
    · have hx1 : (t.toList == a.toList) = true := by rw [toList_is ht, toList_is rfl, hpe]; simp
      clear ht hpe hpa
      go_wp2_with fail
      go_ret
      exact ⟨rfl, bw4⟩
    · have hx1 : (t.toList == a.toList) = false := by rw [toList_is ht, toList_is rfl]; simpa using hpe
      have HU := Lib.hid (show underAll a.data.toList t.data.toList = true by rw [ht]; exact hpa.resolve_left hpe)
      clear ht hpe hpa
      go_wp2_with fail
      refine (implPathUnder_any a t _ (by omega) (by omega) HM4.out).mono ?_
      rw [HU.out]
      rintro e w5 ⟨rfl, hb5⟩
      have bw5 := below_step bw4 hb5
      go_wp2_with fail
      go_ret
      exact ⟨rfl, bw5⟩

set_option maxHeartbeats 1000000 in
theorem walk_FnPathUnderRoot (A0 : Option Addr) (n0 c0 : Nat) (l0 : List Int) (hl0 : l0.length = n0) (hnc0 : n0 ≤ c0) (hcm0 : c0 ≤ maxLen) (w : World) (ha0 : At encU 1 w A0 l0) (hw0 : ∀ u ∈ l0, (Lit.int .u8 u).wf = true) (hm : MaxAt w) :
    Calls Tryd.prog 3 #[.slice A0 n0 c0] w fun e w' => e = .returned (.bool true) ∧ Below w.heap.size w w' := by
  have H0 := Lib.hid hl0
  have HM := Lib.hid hm
  clear hl0 hm
  unfold maxLen at hcm0
  by_cases hb0 : 1048576 < n0
  · go_enter Tryd.func3, Tryd.ntmps3
    go_wp2
    go_ret
    exact ⟨rfl, Below.refl _ _⟩
  go_enter Tryd.func3, Tryd.ntmps3
  go_wp2_with fail
  refine (drawPathUnder_any A0 n0 c0 l0 _ H0.out hnc0 ha0 (u8_bd' hw0) (by omega)).mono ?_
  rintro e w1 ⟨a, b, rfl, ha, hb, bw1⟩
  have HM1 := Lib.hid (HM.out.belowS bw1)
  obtain ⟨x, hx⟩ : ∃ x, underAll a.data.toList b.data.toList = x := ⟨_, rfl⟩
  have HX := Lib.hid hx
  have hxx : (x != x) = false := by simp
  have hxy : (x == x) = true := by simp
  clear hx
  go_wp2_with fail
  refine (implPathUnder_any a b _ (by omega) (by omega) HM1.out).mono ?_
  rw [HX.out]
  rintro e w2 ⟨rfl, hb2⟩
  have bw2 := below_step bw1 hb2
  have HM2 := Lib.hid (HM1.out.belowS hb2)
  go_wp2_with fail
  refine (specPathUnder_any a b _ (by omega) (by omega)).mono ?_
  rw [HX.out]
  rintro e w3 ⟨rfl, hb3⟩
  have bw3 := below_step bw2 hb3
  have HM3 := Lib.hid (HM2.out.belowS hb3)
  cases hpb : pathB b.data.toList with
  | false =>
    have HB := Lib.hid hpb
    clear hpb
    go_wp2_with fail
    refine (specPath_any b _ (by omega)).mono ?_
    rw [HB.out]
    rintro e w4 ⟨rfl, hb4⟩
    have bw4 := below_step bw3 hb4
    go_wp2_with fail
    go_ret
    exact ⟨ret_bool (by first | rfl | exact hxy), bw4⟩
  | true =>
    have HB := Lib.hid hpb
    have HR := Lib.hid (show underAll (⟨#[47]⟩ : ByteArray).data.toList b.data.toList = !decide (b.data.toList = [47]) by unfold underAll; rw [show (⟨#[47]⟩ : ByteArray).data.toList = [47] from rfl, pathB_root, hpb, under_root_path hpb]; rfl)
    have HS := Lib.hid (show underAll b.data.toList b.data.toList = false by unfold underAll; rw [under_self]; simp)
    have hz : (⟨#[47]⟩ : ByteArray).size ≤ 1048576 := by decide
    have hx1 : (b.toList == [47]) = decide (b.data.toList = [47]) := toList_beq rfl _
    obtain ⟨y, hy⟩ : ∃ y, decide (b.data.toList = [47]) = y := ⟨_, rfl⟩
    rw [hy] at hx1
    have HY := Lib.hid hy
    clear hpb hy
    go_wp2_with fail
    refine (specPath_any b _ (by omega)).mono ?_
    rw [HB.out]
    rintro e w4 ⟨rfl, hb4⟩
    have bw4 := below_step bw3 hb4
    have HM4 := Lib.hid (HM3.out.belowS hb4)
    go_wp2_with fail
    refine (implPathUnder_any ⟨#[47]⟩ b _ hz (by omega) HM4.out).mono ?_
    rw [HR.out, HY.out]
    rintro e w5 ⟨rfl, hb5⟩
    have bw5 := below_step bw4 hb5
    have HM5 := Lib.hid (HM4.out.belowS hb5)
    have hyy : (!y) = !y := rfl
    cases y
    all_goals
      go_wp2_with fail
      refine (implPathUnder_any b b _ (by omega) (by omega) HM5.out).mono ?_
      rw [HS.out]
      rintro e w6 ⟨rfl, hb6⟩
      have bw6 := below_step bw5 hb6
      go_wp2_with fail
      go_ret
      exact ⟨rfl, bw6⟩
end Go.Proofs.YtokapkpebadcaaaDoor
