/- The walks of the laws on normal paths. -/
import Derived.Test.YtokapkpebadcaaaDoorNormI
import Derived.Test.YtokapkpebadcaaaDoorDrawP
import Derived.Test.YtokapkpebadcaaaDoorOpen
namespace Go.Proofs.YtokapkpebadcaaaDoor
open Go.RowKit
set_option linter.unusedVariables false
set_option linter.unusedSimpArgs false
set_option maxRecDepth 20000

theorem walk_FnExactPathNormal (s : ByteArray) (ws : s.size ≤ maxLen) (w : World) (hm : MaxAt w) :
    Calls Tryd.prog 6 #[.string s] w fun e w' => e = .returned (.bool true) ∧ Below w.heap.size w w' := by
  unfold maxLen at ws
  by_cases hbig : 1048576 < s.size
  · go_enter Tryd.func6, Tryd.ntmps6
    go_wp2_with fail
    go_ret
    exact ⟨rfl, Below.refl _ _⟩
  have HM := Lib.hid hm
  clear hm
  go_enter Tryd.func6, Tryd.ntmps6
  go_wp2_with fail
  refine (specNorm_any s _ (by omega)).mono ?_
  rintro e w1 ⟨t, b, rfl, h1, hb1⟩
  have H1 := Lib.hid h1
  clear h1
  go_wp2_with fail
  refine (implNorm_any s _ (by omega) (HM.out.belowS hb1)).mono ?_
  rintro e w2 ⟨u, b', rfl, h2, hb2⟩
  have h3 := H1.out.symm.trans h2
  injection h3 with h3 h4
  subst h4
  have bw := below_step hb1 hb2
  have hx1 : (u.toList == t.toList) = true := by rw [toList_is h3.symm, toList_is rfl]; simp
  have hx2 : (b != b) = false := by simp
  clear h2 h3
  go_wp2_with fail
  go_ret
  exact ⟨rfl, bw⟩

def textsN : List ByteArray := [⟨#[97]⟩, ⟨#[98]⟩, ⟨#[99]⟩, ⟨#[46, 46]⟩, ⟨#[46]⟩, ⟨#[]⟩, ⟨#[97]⟩, ⟨#[98]⟩, ⟨#[101]⟩]
def lettersN : List ByteArray := [⟨#[97]⟩, ⟨#[100]⟩, ⟨#[46, 46]⟩]
theorem textsN_le : ∀ s ∈ textsN, s.size ≤ 2 := by decide
theorem lettersN_le : ∀ s ∈ lettersN, s.size ≤ 2 := by decide
theorem extract_le (s : ByteArray) (i : Nat) : (s.extract i s.size).size ≤ s.size := by simp

set_option maxHeartbeats 2000000 in
theorem drawNorm_any (A : Option Addr) (n c : Nat) (l : List Int) (w : World) (hl : l.length = n) (hnc : n ≤ c) (ha : At encU8 1 w A l) (hby : ∀ z ∈ l, 0 ≤ z ∧ z ≤ 255) (hn : n ≤ 140737488355328) :
    Calls Tryd.prog 27 #[.slice A n c] w (IsS 30 w) := by
  go_enter Tryd.func27, Tryd.ntmps27
  go_wp2_with fail
  refine (l6Open_any A n c l _ hl hnc ha hby hn).mono ?_
  rintro e w1 ⟨g, rfl, hr, hg, hb1⟩
  clear hl
  go_wp2_with fail
  refine (pick_any 7 g 0 _ hr (by omega) (by omega) (by omega)).mono ?_
  rintro e w2 ⟨r, rfl, h20, h21, -, hr2, hg2⟩
  have hl2 := h21 (by omega)
  clear h21
  obtain ⟨N, rfl⟩ := Int.eq_ofNat_of_zero_le h20
  have bw2 := below_only hb1 hg2 (fun b hb => by injection hb with hb; omega)
  clear hg2 hb1 hr
  go_wp2_with fail
  go_loopw [4, 6] (fun o i wr => ∃ (k : Nat) (t : ByteArray), i = .int .i64 k ∧ o = .string t ∧ k ≤ N ∧ 1 ≤ t.size ∧ t.size ≤ 1 + 3 * k ∧ Rd wr g (1 + k) ∧ Below w.heap.size w wr) (fun _ i _ => N - (intOf i).toNat)
  case atStart => exact ⟨0, ⟨#[47]⟩, rfl, rfl, Nat.zero_le _, Nat.le_refl _, Nat.le_refl _, hr2, bw2⟩
  case round =>
    clear hr2 bw2
    obtain ⟨k, t, rfl, rfl, hk, ht1, ht, hrk, hwk⟩ := hrel
    have hgl := hrk.lt
    by_cases hlt : k < N
    · have hn3 := at_new (enc := encS) wr encS_len textsN 9 #[.string ⟨#[97]⟩, .string ⟨#[98]⟩, .string ⟨#[99]⟩, .string ⟨#[46, 46]⟩, .string ⟨#[46]⟩, .string ⟨#[]⟩, .string ⟨#[97]⟩, .string ⟨#[98]⟩, .string ⟨#[101]⟩] rfl (show 9 ≤ maxLen by decide)
      go_wp2_with fail
      refine (of_any 2 g (1 + k) _ 9 _ textsN _ (hrk.alloc _) (by omega) rfl (by omega) (by omega) hn3 hgl textsN_le).mono ?_
      rintro e w5 ⟨s, rfl, hs, hr5, hg5⟩
      have hs1 : (t ++ s : ByteArray).size ≤ 3 + 3 * k := by rw [ByteArray.size_append]; omega
      go_wp2_with fail
      go_roundw
      case rel => exact ⟨k + 1, _, by go_num, rfl, by omega, by rw [ByteArray.size_append, ByteArray.size_append]; omega, by rw [ByteArray.size_append]; show _ + 1 ≤ _; omega, hr5.more (by omega), below_only (below_alloc hwk _) hg5 (fun b hb => by injection hb with hb; omega)⟩
      case measure => simp [intOf]; omega
    · obtain rfl : N = k := by omega
      have ht2 : t.size ≤ 19 := by omega
      go_wp2_with fail
      refine (pick_any 2 g (1 + N) _ hrk (by omega) (by omega) (by omega)).mono ?_
      rintro e w6 ⟨r6, rfl, h60, h61, -, hr6, hg6⟩
      have bw6 := below_only hwk hg6 (fun b hb => by injection hb with hb; omega)
      have hgl6 := hr6.lt
      clear h61 hg6
      by_cases k6 : r6 = 0
      · subst k6
        have hn7 := at_new (enc := encS) w6 encS_len lettersN 9 #[.string ⟨#[97]⟩, .string ⟨#[100]⟩, .string ⟨#[46, 46]⟩] rfl (show 3 ≤ maxLen by decide)
        go_wp2_with fail
        refine (of_any 2 g (1 + N + 1) _ 3 _ lettersN _ (hr6.alloc _) (by omega) rfl (by omega) (by omega) hn7 hgl6 lettersN_le).mono ?_
        rintro e w7 ⟨s, rfl, hs, hr7, hg7⟩
        have bw7 := below_only (below_alloc bw6 _) hg7 (fun b hb => by injection hb with hb; omega)
        have hs1 : (t ++ s : ByteArray).size ≤ 21 := by rw [ByteArray.size_append]; omega
        have hs2 : 1 ≤ (t ++ s : ByteArray).size := by rw [ByteArray.size_append]; omega
        obtain ⟨u, hu⟩ : ∃ u, (t ++ s : ByteArray) = u := ⟨_, rfl⟩
        have HU := Lib.hid hu
        rw [hu] at hs1 hs2
        clear hu
        go_wp2_with fail
        try rw [HU.out]
        refine (pick_any 20 g (1 + N + 1 + 1) _ hr7 (by omega) (by omega) (by omega)).mono ?_
        rintro e w8 ⟨r8, rfl, h80, h81, -, hr8, hg8⟩
        have bw8 := below_only bw7 hg8 (fun b hb => by injection hb with hb; omega)
        by_cases k8 : r8 = 0
        · subst k8
          go_wp2_with fail
          go_ret
          exact ⟨_, rfl, by have := extract_le (u) 1; omega, bw8⟩
        · have k8' : (r8 == 0) = false := by simpa using k8
          clear k8
          go_wp2_with fail
          go_ret
          exact ⟨_, rfl, by omega, bw8⟩
      · have k6' : (r6 == 0) = false := by simpa using k6
        clear k6
        go_wp2_with fail
        refine (pick_any 20 g (1 + N + 1) _ hr6 (by omega) (by omega) (by omega)).mono ?_
        rintro e w8 ⟨r8, rfl, h80, h81, -, hr8, hg8⟩
        have bw8 := below_only bw6 hg8 (fun b hb => by injection hb with hb; omega)
        by_cases k8 : r8 = 0
        · subst k8
          go_wp2_with fail
          go_ret
          exact ⟨_, rfl, by have := extract_le (t) 1; omega, bw8⟩
        · have k8' : (r8 == 0) = false := by simpa using k8
          clear k8
          go_wp2_with fail
          go_ret
          exact ⟨_, rfl, by omega, bw8⟩

theorem drawPathValid_any (A : Option Addr) (n c : Nat) (l : List Int) (w : World) (hl : l.length = n) (hnc : n ≤ c) (ha : At encU8 1 w A l) (hby : ∀ z ∈ l, 0 ≤ z ∧ z ≤ 255) (hn : n ≤ 140737488355328) :
    Calls Tryd.prog 25 #[.slice A n c] w (IsS 10 w) := by
  go_enter Tryd.func25, Tryd.ntmps25
  go_wp2_with fail
  refine (l6Open_any A n c l _ hl hnc ha hby hn).mono ?_
  rintro e w1 ⟨g, rfl, hr, hg, hb1⟩
  clear hl
  go_wp2_with fail
  refine (l91Path_any g 0 _ hr (by omega)).mono ?_
  rintro e w2 ⟨s, rfl, hs, hr2, hg2⟩
  go_wp2_with fail
  go_ret
  exact ⟨s, rfl, hs, below_only hb1 hg2 (fun b hb => by injection hb with hb; omega)⟩

set_option maxHeartbeats 1000000 in
theorem walk_FnPathNormalSame (A0 : Option Addr) (n0 c0 : Nat) (l0 : List Int) (hl0 : l0.length = n0) (hnc0 : n0 ≤ c0) (hcm0 : c0 ≤ maxLen) (w : World) (ha0 : At encU 1 w A0 l0) (hw0 : ∀ u ∈ l0, (Lit.int .u8 u).wf = true) (hm : MaxAt w) :
    Calls Tryd.prog 7 #[.slice A0 n0 c0] w fun e w' => e = .returned (.bool true) ∧ Below w.heap.size w w' := by
  have H0 := Lib.hid hl0
  have HM := Lib.hid hm
  clear hl0 hm
  unfold maxLen at hcm0
  by_cases hb0 : 1048576 < n0
  · go_enter Tryd.func7, Tryd.ntmps7
    go_wp2
    go_ret
    exact ⟨rfl, Below.refl _ _⟩
  go_enter Tryd.func7, Tryd.ntmps7
  go_wp2_with fail
  refine (drawPathValid_any A0 n0 c0 l0 _ H0.out hnc0 ha0 (u8_bd' hw0) (by omega)).mono ?_
  rintro e w1 ⟨s, rfl, hs, bw1⟩
  have HM1 := Lib.hid (HM.out.belowS bw1)
  cases hp : pathB s.data.toList with
  | false =>
    have HP := Lib.hid hp
    clear hp
    go_wp2_with fail
    refine (implPath_any s _ (by omega) HM1.out).mono ?_
    rw [HP.out]
    rintro e w2 ⟨rfl, hb2⟩
    have bw2 := below_step bw1 hb2
    go_wp2_with fail
    refine (specPath_any s _ (by omega)).mono ?_
    rw [HP.out]
    rintro e w3 ⟨rfl, hb3⟩
    have bw3 := below_step bw2 hb3
    go_wp2_with fail
    go_ret
    exact ⟨rfl, bw3⟩
  | true =>
    have HP := Lib.hid hp
    have HN := Lib.hid (normR_some (norm_path hp))
    clear hp
    go_wp2_with fail
    refine (implPath_any s _ (by omega) HM1.out).mono ?_
    rw [HP.out]
    rintro e w2 ⟨rfl, hb2⟩
    have bw2 := below_step bw1 hb2
    have HM2 := Lib.hid (HM1.out.belowS hb2)
    go_wp2_with fail
    refine (specPath_any s _ (by omega)).mono ?_
    rw [HP.out]
    rintro e w3 ⟨rfl, hb3⟩
    have bw3 := below_step bw2 hb3
    have HM3 := Lib.hid (HM2.out.belowS hb3)
    go_wp2_with fail
    refine (implNorm_any s _ (by omega) HM3.out).mono ?_
    rintro e w4 ⟨t, b, rfl, h4, hb4⟩
    have h5 := HN.out.symm.trans h4
    injection h5 with h5 h6
    subst h6
    have bw4 := below_step bw3 hb4
    have hx1 : (t.toList == s.toList) = true := by rw [toList_is h5.symm, toList_is rfl]; simp
    clear h4 h5
    go_wp2_with fail
    go_ret
    exact ⟨rfl, bw4⟩

theorem norm_cases (l : List UInt8) : normR l = ([], false) ∨ ∃ p, normL l = some p ∧ normR l = (p, true) ∧ pathB p = true ∧ p.length ≤ 8 ∧ normR p = (p, true) := by
  cases h : normL l with
  | none => exact .inl (normR_none h)
  | some p => exact .inr ⟨p, rfl, normR_some h, norm_is_path h, (path_len (norm_is_path h)).2.1, normR_some (norm_path (norm_is_path h))⟩

set_option maxHeartbeats 1000000 in
theorem walk_FnPathNormal (A0 : Option Addr) (n0 c0 : Nat) (l0 : List Int) (hl0 : l0.length = n0) (hnc0 : n0 ≤ c0) (hcm0 : c0 ≤ maxLen) (w : World) (ha0 : At encU 1 w A0 l0) (hw0 : ∀ u ∈ l0, (Lit.int .u8 u).wf = true) (hm : MaxAt w) :
    Calls Tryd.prog 8 #[.slice A0 n0 c0] w fun e w' => e = .returned (.bool true) ∧ Below w.heap.size w w' := by
  have H0 := Lib.hid hl0
  have HM := Lib.hid hm
  clear hl0 hm
  unfold maxLen at hcm0
  by_cases hb0 : 1048576 < n0
  · go_enter Tryd.func8, Tryd.ntmps8
    go_wp2
    go_ret
    exact ⟨rfl, Below.refl _ _⟩
  go_enter Tryd.func8, Tryd.ntmps8
  go_wp2_with fail
  refine (drawNorm_any A0 n0 c0 l0 _ H0.out hnc0 ha0 (u8_bd' hw0) (by omega)).mono ?_
  rintro e w1 ⟨s, rfl, hs, bw1⟩
  have HM1 := Lib.hid (HM.out.belowS bw1)
  go_wp2_with fail
  refine (implNorm_any s _ (by omega) HM1.out).mono ?_
  rintro e w2 ⟨t, b, rfl, h2, hb2⟩
  have bw2 := below_step bw1 hb2
  have HM2 := Lib.hid (HM1.out.belowS hb2)
  have H2 := Lib.hid h2
  clear h2
  go_wp2_with fail
  refine (specNorm_any s _ (by omega)).mono ?_
  rintro e w3 ⟨u, b', rfl, h3, hb3⟩
  have h5 := H2.out.symm.trans h3
  injection h5 with h5 h6
  subst h6
  have bw3 := below_step bw2 hb3
  have HM3 := Lib.hid (HM2.out.belowS hb3)
  have hx1 : (t.toList == u.toList) = true := by rw [toList_is h5, toList_is rfl]; simp
  have hx2 : (b != b) = false := by simp
  clear h3 h5
  rcases norm_cases s.data.toList with h | ⟨p, hp, h, hpp, hp8, hpn⟩
  · have h7 := H2.out.symm.trans h
    injection h7 with h7 h8
    subst h8
    clear h7 h
    go_wp2_with fail
    go_ret
    exact ⟨rfl, bw3⟩
  · have h7 := H2.out.symm.trans h
    injection h7 with h7 h8
    subst h8
    have htz : t.size ≤ 8 := by rw [Lib.size_eq, h7]; exact hp8
    have HTN := Lib.hid (show normR t.data.toList = (t.data.toList, true) by rw [h7]; exact hpn)
    have HTP := Lib.hid (show pathB t.data.toList = true by rw [h7]; exact hpp)
    clear h7 h hp hpp hp8 hpn
    go_wp2_with fail
    refine (implNorm_any t _ (by omega) HM3.out).mono ?_
    rintro e w4 ⟨v, b, rfl, h4, hb4⟩
    have h5 := HTN.out.symm.trans h4
    injection h5 with h5 h6
    subst h6
    have bw4 := below_step bw3 hb4
    have HM4 := Lib.hid (HM3.out.belowS hb4)
    have hx3 : (v.toList == t.toList) = true := by rw [toList_is h5.symm, toList_is rfl]; simp
    clear h4 h5
    go_wp2_with fail
    refine (implPath_any t _ (by omega) HM4.out).mono ?_
    rw [HTP.out]
    rintro e w5 ⟨rfl, hb5⟩
    have bw5 := below_step bw4 hb5
    go_wp2_with fail
    go_ret
    exact ⟨rfl, bw5⟩

set_option maxHeartbeats 1000000 in
theorem walk_FnPathNormalDots (A0 : Option Addr) (n0 c0 : Nat) (l0 : List Int) (hl0 : l0.length = n0) (hnc0 : n0 ≤ c0) (hcm0 : c0 ≤ maxLen) (w : World) (ha0 : At encU 1 w A0 l0) (hw0 : ∀ u ∈ l0, (Lit.int .u8 u).wf = true) (hm : MaxAt w) :
    Calls Tryd.prog 9 #[.slice A0 n0 c0] w fun e w' => e = .returned (.bool true) ∧ Below w.heap.size w w' := by
  have H0 := Lib.hid hl0
  have HM := Lib.hid hm
  clear hl0 hm
  unfold maxLen at hcm0
  by_cases hb0 : 1048576 < n0
  · go_enter Tryd.func9, Tryd.ntmps9
    go_wp2
    go_ret
    exact ⟨rfl, Below.refl _ _⟩
  go_enter Tryd.func9, Tryd.ntmps9
  go_wp2_with fail
  refine (drawNorm_any A0 n0 c0 l0 _ H0.out hnc0 ha0 (u8_bd' hw0) (by omega)).mono ?_
  rintro e w1 ⟨s, rfl, hs, bw1⟩
  have HM1 := Lib.hid (HM.out.belowS bw1)
  go_wp2_with fail
  refine (implNorm_any s _ (by omega) HM1.out).mono ?_
  rintro e w2 ⟨t, b, rfl, h2, hb2⟩
  have bw2 := below_step bw1 hb2
  have HM2 := Lib.hid (HM1.out.belowS hb2)
  have H2 := Lib.hid h2
  clear h2
  go_wp2_with fail
  refine (specNorm_any s _ (by omega)).mono ?_
  rintro e w3 ⟨u, b', rfl, h3, hb3⟩
  have h5 := H2.out.symm.trans h3
  injection h5 with h5 h6
  subst h6
  have bw3 := below_step bw2 hb3
  have HM3 := Lib.hid (HM2.out.belowS hb3)
  have hx1 : (t.toList == u.toList) = true := by rw [toList_is h5, toList_is rfl]; simp
  have hx2 : (b != b) = false := by simp
  clear h3 h5
  rcases norm_cases s.data.toList with h | ⟨p, hp, h, hpp, hp8, hpn⟩
  · have h7 := H2.out.symm.trans h
    injection h7 with h7 h8
    subst h8
    clear h7 h
    go_wp2_with fail
    go_ret
    exact ⟨rfl, bw3⟩
  · have h7 := H2.out.symm.trans h
    injection h7 with h7 h8
    subst h8
    have hl30 : s.data.toList.length ≤ 30 := by rw [← Lib.size_eq]; exact hs
    have HX1 := Lib.hid (show normR (s ++ ⟨#[47, 46]⟩ : ByteArray).data.toList = (t.data.toList, true) by
      rw [ByteArray.data_append, Array.toList_append, h7]; exact normR_some (norm_dot hl30 hp))
    have HX2 := Lib.hid (show normR (s ++ ⟨#[47]⟩ : ByteArray).data.toList = (t.data.toList, true) by
      rw [ByteArray.data_append, Array.toList_append, h7]; exact normR_some (norm_slash hl30 hp))
    have HX3 := Lib.hid (show normR (s ++ ⟨#[47, 97, 47, 46, 46]⟩ : ByteArray).data.toList = (t.data.toList, true) by
      rw [ByteArray.data_append, Array.toList_append, h7]; exact normR_some (norm_up hl30 hp))
    have HZ1 := Lib.hid (show (s ++ ⟨#[47, 46]⟩ : ByteArray).size ≤ 1048576 by rw [ByteArray.size_append]; show s.size + 2 ≤ _; omega)
    have HZ2 := Lib.hid (show (s ++ ⟨#[47]⟩ : ByteArray).size ≤ 1048576 by rw [ByteArray.size_append]; show s.size + 1 ≤ _; omega)
    have HZ3 := Lib.hid (show (s ++ ⟨#[47, 97, 47, 46, 46]⟩ : ByteArray).size ≤ 1048576 by rw [ByteArray.size_append]; show s.size + 5 ≤ _; omega)
    clear h7 h hp hpp hp8 hpn hl30
    go_wp2_with fail
    refine (implNorm_any _ _ HZ1.out HM3.out).mono ?_
    rintro e w4 ⟨v, b, rfl, h4, hb4⟩
    have h5 := HX1.out.symm.trans h4
    injection h5 with h5 h6
    subst h6
    have bw4 := below_step bw3 hb4
    have HM4 := Lib.hid (HM3.out.belowS hb4)
    have hx3 : (v.toList == t.toList) = true := by rw [toList_is h5.symm, toList_is rfl]; simp
    clear h4 h5
    go_wp2_with fail
    refine (implNorm_any _ _ HZ2.out HM4.out).mono ?_
    rintro e w5 ⟨v5, b, rfl, h4, hb5⟩
    have h5 := HX2.out.symm.trans h4
    injection h5 with h5 h6
    subst h6
    have bw5 := below_step bw4 hb5
    have HM5 := Lib.hid (HM4.out.belowS hb5)
    have hx5 : (v5.toList == t.toList) = true := by rw [toList_is h5.symm, toList_is rfl]; simp
    clear h4 h5
    go_wp2_with fail
    refine (implNorm_any _ _ HZ3.out HM5.out).mono ?_
    rintro e w6 ⟨v6, b, rfl, h4, hb6⟩
    have h5 := HX3.out.symm.trans h4
    injection h5 with h5 h6
    subst h6
    have bw6 := below_step bw5 hb6
    have hx6 : (v6.toList == t.toList) = true := by rw [toList_is h5.symm, toList_is rfl]; simp
    clear h4 h5
    go_wp2_with fail
    go_ret
    exact ⟨rfl, bw6⟩
end Go.Proofs.YtokapkpebadcaaaDoor
